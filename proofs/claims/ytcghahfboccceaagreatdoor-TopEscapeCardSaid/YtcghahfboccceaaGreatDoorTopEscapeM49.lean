/- Several texts in one: TgP, TfW, TgQ, TgR. -/
import Derived.Test.YtcghahfboccceaaGreatDoorTopEscapeM48
import Derived.Test.YtcghahfboccceaaGreatDoorTopEscapeM44
import Derived.Test.YtcghahfboccceaaGreatDoorTopEscapeM42
import Derived.Test.YtcghahfboccceaaGreatDoorTopEscapeM15
/- Contract of serial.HTML at a document's root. -/
namespace Go.Proofs.YtcghahfboccceaaGreatDoor
open Go.RowKit Go.Shelf
set_option linter.unusedVariables false
set_option linter.unusedSimpArgs false

set_option maxRecDepth 100000 in
set_option maxHeartbeats 4000000 in
theorem shtml_calls (A : Option Addr) (n c u : Nat) (q : Bool) (ns : List NodeV) (T : List UInt8) (m : Int) (w : World) (hn : ns.length = n) (h : Nodes w w.heap.size A ns) (hnk : n ≤ 1000) (h0 : 0 < n) (hck : checkE ns = 0) (hok : SerOk ns u 0) (hT : serF ns u 0 = T) (hT0 : T ≠ []) (hl : T.length ≤ 1000000) (hm : w.cell? ⟨0, 0, none⟩ = some (.int .i64 m)) :
    Calls Tryz.prog 12 #[.agg #[.slice A n c, .bool q], .int .i64 0] w fun e w' => e = .returned (.tuple #[.string ⟨T.toArray⟩, .int .i64 0]) ∧ Below w.heap.size w w' := by
  have hpos : 0 < w.heap.size := block_lt_of_cell hm
  obtain ⟨g, hg⟩ : ∃ g, g = w.heap.size := ⟨_, rfl⟩
  obtain ⟨wa, hwa⟩ : ∃ wa, wa = w.alloc (.cells #[.slice A n c, .bool q] 27) := ⟨_, rfl⟩
  have B0 : Hid (Below w.heap.size w wa) := by show Below _ _ _; rw [hwa]; exact (Below.refl _ w).alloc (Nat.le_refl _) _
  have TB : Hid (Blk wa g 27 #[.slice A n c, .bool q]) := by show Blk _ _ _ _; rw [hwa, hg]; exact Blk.new w _ _
  have N0 := Lib.hid (h.below B0.out (Nat.le_refl _))
  have HCK := Lib.hid (fun (W : World) (hb : Below w.heap.size w W) => dcheck_calls A n c w.heap.size q ns W hn (h.below hb (Nat.le_refl _)) hb.size (by omega))
  rw [hck] at HCK
  have HND := Lib.hid (fun (b : Nat) (W : World) (hW : Wr w.heap.size b (.slice A n c) (.bool q) [] W) (hb : Below w.heap.size w W) => wnode_calls w.heap.size b n c A q ns m hn hpos u 0 [] W hok hW (h.below hb (Nat.le_refl _)) ((hb.cell (p := ⟨0, 0, none⟩) hpos).trans hm) (by rw [hT]; simp; omega))
  rw [hT, List.nil_append] at HND
  have HST := Lib.hid (fun (b : Nat) (p v : Value) (W : World) (hW : WrAt w.heap.size b p v (.slice A n c) (.bool q) (Lib.byteCells T) W) => stringW_calls w.heap.size b p v (.slice A n c) (.bool q) T W hW hT0)
  have k0 : wa.cell? ⟨g, 0, none⟩ = some (.slice A n c) := TB.out.cell 0
  have k1 : wa.cell? ⟨g, 1, none⟩ = some (.bool q) := TB.out.cell 1
  have HWA := Lib.hid hwa
  have HG := Lib.hid hg
  clear hwa hg h hck hok hT hm hn
  go_enter Tryz.func12, Tryz.ntmps12
  go_upto_region 1 with fail
  rw [← HWA.out, ← HG.out]
  go_wp2_with (first
    | (go_at_call 24; refine (HCK.out _ B0.out).mono ?_; rintro e w1 ⟨rfl, hb1⟩; (have B1 := Lib.hid (B0.out.trans (hb1.mono B0.out.size))); (have T1 := Lib.hid (TB.out.below hb1 TB.out.lt)); (have d0 : w1.cell? ⟨g, 0, none⟩ = some (.slice A n c) := T1.out.cell 0); (have d1 : w1.cell? ⟨g, 1, none⟩ = some (.bool q) := T1.out.cell 1); (have W1 : Hid (Wr w.heap.size w1.heap.size (.slice A n c) (.bool q) [] (w1.alloc (.cells #[.pointer none, .slice none 0 0, .slice A n c, .bool q] 67))) := ⟨_, _, .inl rfl, B1.out.size, Blk.new w1 _ _, World.ownsRow_nil _ _ _ _⟩); clear hb1)
    | (go_at_call 25; refine (HND.out _ _ W1.out (B1.out.alloc B1.out.size _)).mono ?_; rintro e w2 ⟨rfl, ⟨p9, v9, _, hw2⟩, hd2⟩; (have W2 := Lib.hid hw2); (have B2 := Lib.hid ((B1.out.alloc B1.out.size _).trans hd2.below)); clear hw2 hd2)
    | (go_at_call 26; refine (HST.out _ _ _ _ W2.out).mono ?_; rintro e w3 ⟨rfl, hb3⟩; (have B3 := Lib.hid (B2.out.trans hb3)); clear hb3))
  exact bodyPost_ret (results_tmp2 rfl _ _ _) rfl ⟨rfl, B3.out⟩
end Go.Proofs.YtcghahfboccceaaGreatDoor
/- The text of a paragraph's document. -/
namespace Go.Proofs.YtcghahfboccceaaGreatDoor
open Go.RowKit Go.Shelf
set_option linter.unusedVariables false
set_option linter.unusedSimpArgs false

theorem walkF_pl (ns : List NodeV) : ∀ u i, walkF (ns.map placeless) u i = walkF ns u i
  | 0, _ => rfl
  | u + 1, i => by
    rw [walkF, walkF, nd_pl]
    have : (fun k : Int => walkF (ns.map placeless) u k.toNat) = fun k : Int => walkF ns u k.toNat := funext fun k => walkF_pl ns u k.toNat
    rw [this]
    rfl
theorem deep_pl (ns : List NodeV) : ∀ u i, DeepOk (ns.map placeless) u i → DeepOk ns u i
  | 0, _, h => h.elim
  | u + 1, i, ⟨h1, h2⟩ => by
    rw [List.length_map] at h1
    rw [nd_pl] at h2
    exact ⟨h1, fun k hk => ⟨(h2 k hk).1, deep_pl ns u _ (h2 k hk).2⟩⟩
theorem textG_pl (ns : List NodeV) : ∀ (l : List Int) (a : ByteArray), textG (ns.map placeless) a l = textG ns a l
  | [], _ => rfl
  | k :: l, a => by
    have h := textG_pl ns l
    unfold textG at h ⊢
    rw [List.foldl_cons, List.foldl_cons, nd_pl, h]
    rfl
theorem ba_empty_append (c : ByteArray) : (⟨#[]⟩ : ByteArray) ++ c = c := by
  apply ByteArray.ext
  simp
theorem docA_deep (c : ByteArray) : DeepOk ((docA c).map conc) 5 0 ∧ textG ((docA c).map conc) ⟨#[]⟩ (walkF ((docA c).map conc) 5 0) = c ∧ (∀ k ∈ walkF ((docA c).map conc) 5 0, 0 ≤ k ∧ k.toNat < (docA c).length) ∧ (walkF ((docA c).map conc) 5 0).length ≤ 100000 ∧ (nd ((docA c).map conc) 0).kind = 1 ∧ 0 < (docA c).length := by
  unfold docA
  split
  · rename_i h0
    have hc : c = ⟨#[]⟩ := by
      apply ByteArray.ext
      exact Array.eq_empty_of_size_eq_zero h0
    subst hc
    refine ⟨?_, rfl, ?_, by decide +kernel, rfl, by decide⟩
    · refine ⟨by decide, fun k hk => ?_⟩
      have : k = 1 := by simpa [nd, conc] using hk
      subst this
      refine ⟨by decide, by decide, fun k hk => ?_⟩
      have : k = 2 ∨ k = 3 := by simpa [nd, conc] using hk
      rcases this with rfl | rfl
      · exact ⟨by decide, by decide, fun k hk => by simp [nd, conc] at hk⟩
      · refine ⟨by decide, by decide, fun k hk => ?_⟩
        have : k = 4 := by simpa [nd, conc] using hk
        subst this
        exact ⟨by decide, by decide, fun k hk => by simp [nd, conc] at hk⟩
    · intro k hk
      have hk : k ∈ ([0, 1, 2, 3, 4] : List Int) := hk
      simp at hk
      rcases hk with rfl | rfl | rfl | rfl | rfl <;> exact ⟨by decide, by decide⟩
  · refine ⟨?_, ba_empty_append c, ?_, ?_, rfl, ?_⟩
    · refine ⟨Nat.zero_lt_succ 5, fun k hk => ?_⟩
      have : k = 1 := by simpa [nd, conc] using hk
      subst this
      refine ⟨by decide, by show 1 < 6; decide, fun k hk => ?_⟩
      have : k = 2 ∨ k = 3 := by simpa [nd, conc] using hk
      rcases this with rfl | rfl
      · exact ⟨by decide, by show 2 < 6; decide, fun k hk => by simp [nd, conc] at hk⟩
      · refine ⟨by decide, by show 3 < 6; decide, fun k hk => ?_⟩
        have : k = 4 := by simpa [nd, conc] using hk
        subst this
        refine ⟨by decide, by show 4 < 6; decide, fun k hk => ?_⟩
        have : k = 5 := by simpa [nd, conc] using hk
        subst this
        exact ⟨by decide, by show 5 < 6; decide, fun k hk => by simp [nd, conc] at hk⟩
    · intro k hk
      have hk : k ∈ ([0, 1, 2, 3, 4, 5] : List Int) := hk
      simp at hk
      rcases hk with rfl | rfl | rfl | rfl | rfl | rfl <;> exact ⟨by decide, by show _ < 6; decide⟩
    · show (6 : Nat) ≤ 100000
      decide
    · show 0 < 6
      decide
theorem textA_calls (c : ByteArray) (hl : c.size ≤ 400) (A : Option Addr) (n cd : Nat) (q : Bool) (w : World) (h : DocIn w A n (docA c)) :
    Calls Tryz.prog 16 #[.agg #[.slice A n cd, .bool q], .int .i64 0] w fun e w' => e = .returned (.tuple #[.string c, .int .i64 0]) ∧ Below w.heap.size w w' := by
  obtain ⟨ns, h1, h2, h3⟩ := h.nodes
  obtain ⟨d1, d2, d3, d4, d5, d6⟩ := docA_deep c
  have hp : ns.map placeless = (docA c).map conc := by rw [← h1, List.map_map]; rfl
  have hn : (docA c).length = n := by rw [← h1, List.length_map]; exact h2
  have hnk : n ≤ 1000 := by rw [← hn]; exact (docA_few c).2
  rw [← hp] at d1 d2 d3 d4 d5
  rw [walkF_pl] at d2 d3 d4
  rw [textG_pl] at d2
  rw [nd_pl] at d5
  have d5 : (nd ns 0).kind = 1 := d5
  rw [hn] at d3 d6
  exact textOf_calls A n cd 5 q ns c w h2 h3 hnk d6 (by rw [checkE_abs h1]; exact checkA c hl) (deep_pl ns 5 0 d1) (by rw [d5]; decide) d2 d3 d4 (by omega)
end Go.Proofs.YtcghahfboccceaaGreatDoor
/- What must be in any case: hBegun; hSome. -/
namespace Go.Proofs.YtcghahfboccceaaGreatDoor
open Go.RowKit Go.Shelf
set_option linter.unusedVariables false
set_option linter.unusedSimpArgs false

theorem serF_pl (ns : List NodeV) : ∀ u i, serF (ns.map placeless) u i = serF ns u i
  | 0, _ => rfl
  | u + 1, i => by
    have h : (fun k : Int => serF (ns.map placeless) u k.toNat) = fun k : Int => serF ns u k.toNat := funext fun k => serF_pl ns u k.toNat
    rw [serF, serF, h, nd_pl, nd_pl]
    rfl
theorem serOk_pl (ns : List NodeV) : ∀ u i, SerOk (ns.map placeless) u i → SerOk ns u i
  | 0, _, h => h.elim
  | u + 1, i, ⟨h1, h2, h3⟩ => by
    rw [List.length_map] at h1
    rw [nd_pl] at h2 h3
    refine ⟨h1, fun k hk => ⟨(h2 k hk).1, serOk_pl ns u _ (h2 k hk).2⟩, ?_⟩
    rcases h3 with h3 | h3 | ⟨a, b, c, d⟩ | ⟨a, b⟩
    · exact .inl h3
    · exact .inr (.inl h3)
    · rw [List.length_map] at c
      exact .inr (.inr (.inl ⟨a, b, c, d⟩))
    · exact .inr (.inr (.inr ⟨a, ⟨b.name, b.attrs, b.nv, b.pre, b.ta⟩⟩))
/-- What it is written as. -/
def begunS : List UInt8 := [60, 33, 68, 79, 67, 84, 89, 80, 69, 32, 104, 116, 109, 108, 62, 60, 104, 116, 109, 108, 62, 60, 104, 101, 97, 100, 62, 60, 47, 104, 101, 97, 100, 62, 60, 98, 111, 100, 121, 62, 60, 112, 32, 105, 100, 61, 34, 97, 34, 62, 120, 60, 47, 112, 62, 60, 47, 98, 111, 100, 121, 62, 60, 47, 104, 116, 109, 108, 62]
theorem docB_text : serF (docB.map conc) 6 0 = begunS := by decide +kernel
theorem docB_ser : SerOk (docB.map conc) 6 0 := by
  have el : ∀ x : NodeV, x.name.size ≤ 100000 → x.attrs = [] → oneP x.name voidL = false → (x.name.toList == [112, 114, 101]) = false → (x.name.toList == [116, 101, 120, 116, 97, 114, 101, 97]) = false → ElOk x := fun x h1 h2 h3 h4 h5 => ⟨h1, fun a ha => by (rw [h2] at ha; cases ha), h3, h4, h5⟩
  refine ⟨by decide, fun k hk => ?_, .inl rfl⟩
  have hk : k ∈ ([1, 2] : List Int) := hk
  have : k = 1 ∨ k = 2 := by simpa using hk
  rcases this with rfl | rfl
  · exact ⟨by decide, by decide, fun k hk => by simp [nd, conc, docB] at hk, .inr (.inl ⟨rfl, by decide⟩)⟩
  · refine ⟨by decide, by decide, fun k hk => ?_, .inr (.inr (.inr ⟨rfl, el _ (by decide) rfl (by decide +kernel) (by decide +kernel) (by decide +kernel)⟩))⟩
    have hk : k ∈ ([3, 4] : List Int) := hk
    have : k = 3 ∨ k = 4 := by simpa using hk
    rcases this with rfl | rfl
    · exact ⟨by decide, by decide, fun k hk => by simp [nd, conc, docB] at hk, .inr (.inr (.inr ⟨rfl, el _ (by decide) rfl (by decide +kernel) (by decide +kernel) (by decide +kernel)⟩))⟩
    · refine ⟨by decide, by decide, fun k hk => ?_, .inr (.inr (.inr ⟨rfl, el _ (by decide) rfl (by decide +kernel) (by decide +kernel) (by decide +kernel)⟩))⟩
      have hk : k ∈ ([5] : List Int) := hk
      have : k = 5 := by simpa using hk
      subst this
      refine ⟨by decide, by decide, fun k hk => ?_, .inr (.inr (.inr ⟨rfl, ⟨by decide, fun a ha => ?_, by decide +kernel, by decide +kernel, by decide +kernel⟩⟩))⟩
      · have hk : k ∈ ([6] : List Int) := hk
        have : k = 6 := by simpa using hk
        subst this
        exact ⟨by decide, by decide, fun k hk => by simp [nd, conc, docB] at hk, .inr (.inr (.inl ⟨rfl, by decide, by decide, by decide⟩))⟩
      · have ha : a ∈ atB := ha
        have : a = (⟨#[105, 100]⟩, ⟨#[97]⟩) := by simpa [atB] using ha
        subst this
        exact ⟨by decide, by decide⟩
theorem htmlB_calls (m : Int) (A : Option Addr) (n cd : Nat) (q : Bool) (w : World) (h : DocIn w A n docB) (hm : w.cell? ⟨0, 0, none⟩ = some (.int .i64 m)) :
    Calls Tryz.prog 12 #[.agg #[.slice A n cd, .bool q], .int .i64 0] w fun e w' => e = .returned (.tuple #[.string ⟨begunS.toArray⟩, .int .i64 0]) ∧ Below w.heap.size w w' := by
  obtain ⟨ns, h1, h2, h3⟩ := h.nodes
  have hp : ns.map placeless = docB.map conc := by rw [← h1, List.map_map]; rfl
  have hn : docB.length = n := by rw [← h1, List.length_map]; exact h2
  have h7 : n = 7 := by rw [← hn]; rfl
  have d1 := docB_ser
  have d2 := docB_text
  rw [← hp] at d1 d2
  rw [serF_pl] at d2
  exact shtml_calls A n cd 6 q ns begunS m w h2 h3 (by omega) (by omega) (by rw [checkE_abs h1]; exact checkB) (serOk_pl ns 6 0 d1) d2 (by decide) (by decide) hm
set_option maxRecDepth 100000 in
set_option maxHeartbeats 4000000 in
theorem begun_calls (m : Int) (w : World) (hm : w.cell? ⟨0, 0, none⟩ = some (.int .i64 m)) :
    Calls Tryz.prog 8 #[] w fun e w' => e = .returned (.bool true) ∧ Below w.heap.size w w' := by
  have hpos : 0 < w.heap.size := block_lt_of_cell hm
  have HD := Lib.hid (docB_calls m w hm)
  have HM := Lib.hid hm
  have HT := Lib.hid (fun (A : Option Addr) (n cd : Nat) (W : World) (h : DocIn W A n docB) (hb : Below w.heap.size w W) => htmlB_calls m A n cd false W h ((hb.cell (p := ⟨0, 0, none⟩) hpos).trans hm))
  clear hm
  go_enter Tryz.func8, Tryz.ntmps8
  go_wp2_with (first
    | (go_at_call 9; refine HD.out.mono ?_; rintro e w1 ⟨A, n, c, rfl, hdoc, hb1⟩; (have DI : Hid (DocIn (w1.alloc (.cells #[.slice A n c, .bool false] 27)) A n docB) := hdoc.below ((Below.refl _ w1).alloc (Nat.le_refl _) _)); (have B1 := Lib.hid (hb1.alloc hb1.size (.cells #[.slice A n c, .bool false] 27))); (have T1 := Lib.hid (Blk.new w1 27 #[.slice A n c, .bool false])); clear hdoc hb1)
    | (go_at_call 12; refine (HT.out _ _ _ _ DI.out B1.out).mono ?_; rintro e w2 ⟨rfl, hb2⟩; (have B2 := Lib.hid (B1.out.trans (hb2.mono B1.out.size))); clear hb2))
  go_ret
  exact ⟨rfl, B2.out⟩
set_option maxRecDepth 100000 in
theorem some_calls (s : ByteArray) (k : Nat) (hk : k ≤ 1000) (w : World) :
    Calls Tryz.prog 6 #[.string s, .int .i64 (k : Int)] w fun e w' => e = .returned (.string (s.extract 0 (min s.size k))) ∧ w' = w := by
  rcases Nat.le_total s.size k with h | h
  · have h1 : min (s.size : Int) (k : Int) = (s.size : Int) := by omega
    have h2 : min s.size k = s.size := by omega
    have h3 : s.extract 0 s.size = s := by simp
    rw [h2, h3]
    go_enter Tryz.func6, Tryz.ntmps6
    go_wp2
    go_ret
    exact ⟨rfl, rfl⟩
  · have h1 : min (s.size : Int) (k : Int) = (k : Int) := by omega
    have h2 : min s.size k = k := by omega
    rw [h2]
    go_enter Tryz.func6, Tryz.ntmps6
    go_wp2
    go_ret
    exact ⟨rfl, rfl⟩
end Go.Proofs.YtcghahfboccceaaGreatDoor
/- TopEscape returns true. -/
namespace Go.Proofs.YtcghahfboccceaaGreatDoor
open Go.RowKit Go.Shelf
set_option linter.unusedVariables false
set_option linter.unusedSimpArgs false

set_option maxRecDepth 100000 in
set_option maxHeartbeats 4000000 in
theorem topEscape_walk (s : ByteArray) (m : Int) (w : World) (hm : w.cell? ⟨0, 0, none⟩ = some (.int .i64 m)) :
    Calls Tryz.prog 5 #[.string s] w fun e w' => e = .returned (.bool true) ∧ Below w.heap.size w w' := by
  have hpos : 0 < w.heap.size := block_lt_of_cell hm
  obtain ⟨s1, hs1⟩ : ∃ s1, s1 = s.extract 0 (min s.size 120) := ⟨_, rfl⟩
  have hz1 : s1.size ≤ 120 := by rw [hs1, ByteArray.size_extract]; omega
  obtain ⟨l, hl⟩ : ∃ l, l = cleanF 0 s1.size s1.data.toList := ⟨_, rfl⟩
  have hcl : Cl l := by rw [hl]; exact cleanF_cl _ _ _
  have hll : l.length ≤ 360 := by
    have := cleanF_len s1.size 0 s1.data.toList
    have e : s1.data.toList.length = s1.size := by simp
    rw [← hl, e] at this; omega
  have hcd : cleaned s1 = ⟨l.toArray⟩ := by unfold cleaned; rw [← hl]
  have hpl : (⟨#[60, 112, 62]⟩ : ByteArray) ++ ⟨(escG false l).toArray⟩ = paraS l := by
    have : escG false l = esc l := escape_esc l
    rw [this]
    apply ByteArray.ext
    simp [paraS]
  have HSM := Lib.hid (fun W => some_calls s 120 (by decide) W)
  rw [← hs1] at HSM
  have HCN := Lib.hid (fun W => clean_calls' s1 (by omega) W)
  rw [hcd] at HCN
  obtain ⟨C, hC⟩ : ∃ C : ByteArray, C = ⟨l.toArray⟩ := ⟨_, rfl⟩
  have hCl : C.data.toList = l := by rw [hC]
  have hCz : C.size ≤ 360 := by rw [hC]; exact hll
  have HES := Lib.hid (fun (W : World) (hb : Below w.heap.size w W) => escape_calls C false m (by omega) W ((hb.cell (p := ⟨0, 0, none⟩) hpos).trans hm))
  obtain ⟨E, hE⟩ : ∃ E : ByteArray, E = ⟨(escG false l).toArray⟩ := ⟨_, rfl⟩
  rw [hCl, ← hE] at HES
  rw [← hE] at hpl
  have hEz : E.size ≤ 3000 := by
    have h1 := congrArg ByteArray.size hpl
    rw [ByteArray.size_append, para_size] at h1
    have h2 := esc_length l
    have h3 : (⟨#[60, 112, 62]⟩ : ByteArray).size = 3 := rfl
    omega
  have hEz2 : ¬ (9223372036854775807 < 3 + E.size) := by omega
  have HDC := Lib.hid (fun (W : World) (hb : Below w.heap.size w W) => docA_calls l hcl (by omega) m W ((hb.cell (p := ⟨0, 0, none⟩) hpos).trans hm))
  rw [← hpl, ← hC] at HDC
  have HTX := Lib.hid (fun (A : Option Addr) (n cd : Nat) (W : World) (h : DocIn W A n (docA C)) => textA_calls C (by omega) A n cd true W h)
  have HBG := Lib.hid (fun (W : World) (hb : Below w.heap.size w W) => begun_calls m W ((hb.cell (p := ⟨0, 0, none⟩) hpos).trans hm))
  have BR := Lib.hid (Below.refl w.heap.size w)
  rw [← hC] at HCN
  clear hs1 hz1 hl hcl hll hcd hpl hC hCl hE hm
  go_enter Tryz.func5, Tryz.ntmps5
  go_wp2_with (first
    | (go_at_call 6; refine (HSM.out _).mono ?_; rintro e w1 ⟨rfl, hw⟩; (obtain rfl := hw.symm))
    | (go_at_call 14; refine (HCN.out _).mono ?_; rintro e w2 ⟨rfl, hb2⟩; (have B2 := Lib.hid hb2); clear hb2)
    | (go_at_call 15; refine (HES.out _ B2.out).mono ?_; rintro e w3 ⟨rfl, hb3⟩; (have B3 := Lib.hid (B2.out.trans (hb3.mono B2.out.size))); clear hb3)
    | (go_at_call 9; refine (HDC.out _ B3.out).mono ?_; rintro e w4 ⟨A, n, c, rfl, hdoc, hb4⟩; (have DI : Hid (DocIn (w4.alloc (.cells #[.slice A n c, .bool true] 27)) A n (docA C)) := hdoc.below ((Below.refl _ w4).alloc (Nat.le_refl _) _)); (have B4 := Lib.hid ((B3.out.trans (hb4.mono B3.out.size)).alloc (Nat.le_trans B3.out.size hb4.size) (.cells #[.slice A n c, .bool true] 27))); (have T4 := Lib.hid (Blk.new w4 27 #[.slice A n c, .bool true])); clear hdoc hb4)
    | (go_at_call 16; refine (HTX.out _ _ _ _ DI.out).mono ?_; rintro e w5 ⟨rfl, hb5⟩; (have B5 := Lib.hid (B4.out.trans (hb5.mono B4.out.size))); clear hb5)
    | (go_at_call 8; refine (HBG.out _ B5.out).mono ?_; rintro e w6 ⟨rfl, hb6⟩; (have B6 := Lib.hid (B5.out.trans (hb6.mono B5.out.size))); clear hb6))
  go_ret
  exact ⟨rfl, B6.out⟩
end Go.Proofs.YtcghahfboccceaaGreatDoor
