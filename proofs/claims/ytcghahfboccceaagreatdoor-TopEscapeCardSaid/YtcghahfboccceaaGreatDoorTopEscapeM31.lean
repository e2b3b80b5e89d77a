/- Several texts in one: TfF. -/
import Derived.Test.YtcghahfboccceaaGreatDoorTopEscapeM30
/- Contracts of slices.Clone at attributes, of the tree's element, start. -/
namespace Go.Proofs.YtcghahfboccceaaGreatDoor
open Go.RowKit Go.Shelf
set_option linter.unusedVariables false
set_option linter.unusedSimpArgs false

theorem infoAttr : (Tryz.prog.info? 91).map (fun i => (i.zero, i.size, i.bytes)) = some (some (.agg #[.string ⟨#[]⟩, .string ⟨#[]⟩]), 2, 32) := by kernel_rfl
theorem attrs_one (l : List (ByteArray × ByteArray)) : ∀ u ∈ l.flatMap attrF, u.oneCell' = true := fun u hu => by
  obtain ⟨a, _, ha⟩ := List.mem_flatMap.1 hu
  simp [attrF] at ha
  rcases ha with rfl | rfl <;> rfl
set_option maxRecDepth 100000 in
set_option maxHeartbeats 4000000 in
theorem clone_calls (B : Nat) (av : Value) (l : List (ByteArray × ByteArray)) (w : World) (hat : AttrsAt B av l w) (hl : l.length ≤ 100000) (hB : B ≤ w.heap.size) :
    Calls Tryz.prog 39 #[av] w fun e w' => ∃ av', e = .returned av' ∧ AttrsAt B av' l w' ∧ Below w.heap.size w w' := by
  obtain ⟨i0, hi, hz0, hz1, hz2⟩ := info_parts infoAttr
  have q22 : ∀ (w : World) (a : Option Addr) (n c n' c' : Nat), (binOp .eql 32 (.slice a n c) (.slice none n' c')).run Tryz.prog w = .ok (.bool a.isNone) w := fun w a n c n' c' => Lib.run_eql_slice_nil w _ _ a n c n' c' Tryz.underlying32
  have HA := Lib.hid hat
  rcases hat.2 with ⟨rfl, h0⟩ | ⟨g, cap, cur, rfl, hg1, _⟩
  · have hl0 : l = [] := List.eq_nil_of_length_eq_zero h0
    have HL := Lib.hid hl0
    clear hat hl0 h0
    go_enter Tryz.func39, Tryz.ntmps39
    go_wp2
    go_ret
    exact ⟨_, rfl, by rw [HL.out]; exact AttrsAt.none B _, Below.refl _ _⟩
  · obtain ⟨n, hn⟩ : ∃ n, n = l.length := ⟨_, rfl⟩
    have hcell := (row_at hat).1
    have hgl := (row_at hat).2.2.1
    have HC := Lib.hid hcell
    rw [← hn] at hl ⊢
    have HN := Lib.hid hn
    clear hat hcell hn
    go_enter Tryz.func39, Tryz.ntmps39
    go_wp2_with (at_builtin; refine wpList_append_any rfl _ _ 32 rfl w.heap.size 91 i0 (.agg #[.string ⟨#[]⟩, .string ⟨#[]⟩]) 2 32 Tryz.underlying32 hi hz0 hz1 hz2 rfl (by decide) _ 0 [] rfl (World.ownsRow_made w #[] 0 (Nat.le_refl _) (Nat.zero_le _) rfl) (some ⟨g, 0, none⟩) n cap (l.flatMap attrF) rfl (by rw [HN.out]; exact HA.out.1) (.inl ⟨g, 0, rfl, fun j u hj => by rw [Nat.zero_add]; exact Lib.cell?_alloc_some _ (HC.out j u hj)⟩) (attrs_one l) (by unfold maxLen; omega) (by omega) (by simp) ?_; intro A9 c9 w9 ho9 hg9 hat9)
    go_ret
    refine ⟨_, rfl, ?_, ((Below.refl _ w).alloc (Nat.le_refl _) _).grown hg9 (by simp) (by intro k hk; have h : some w.heap.size = some k := hk; injection h with h; omega)⟩
    have h1 : w9.ownsRow w.heap.size 91 2 (.slice A9 n c9) l.length (l.flatMap attrF) := by rw [← HN.out]; simpa using ho9
    exact own_low h1 hB
/-- An element put, and open. -/
def PS.element (S : PS) (i : Nat) (nm : ByteArray) (attrs : List (ByteArray × ByteArray)) : PS :=
  { (({ S with ns := S.ns ++ [⟨2, nm, attrs, ⟨#[]⟩, -1, []⟩] } : PS).put i S.ns.length) with op := S.op ++ [(S.ns.length : Int)] }
theorem AttrsAt.keep {B : Nat} {av : Value} {l : List (ByteArray × ByteArray)} {w w' : World} (h : AttrsAt B av l w) (hk : Keep w w') : AttrsAt B av l w' := hk.own h (by decide) (by decide) (by decide)
theorem own_nm {ns : List Nd} {y x : Nd} {i : Nat} (h : ns[i]? = some x) : (ns ++ [y])[i]? = some x := by
  rw [List.getElem?_append_left (List.getElem?_eq_some_iff.1 h).1]; exact h
/-- What is open, appended to and stored. -/
theorem RPx.opened {B b : Nat} {m : Int} {S : PS} {v vo : Value} {ns : List NodeV} {w w8 : World} {n : Nat} {A8 : Option Addr} {c8 : Nat} {k : Int} (h : RPx B b m S v vo ns w) (hn : S.op.length = n)
    (ho : w8.ownsRow B 3 1 (.slice A8 (n + 1) c8) (n + 1) (ints S.op ++ [.int .i64 k])) (hg : w.grownBy w8 vo.ownBlock) (hat : (Value.slice A8 (n + 1) c8).ownBlock = vo.ownBlock ∨ (Value.slice A8 (n + 1) c8).ownBlock = some w.heap.size) :
    Blk w8 b 56 (pcells S v vo) ∧ RPx B b m { S with op := S.op ++ [k] } v (.slice A8 (n + 1) c8) ns (w8.setCell ⟨b, 1, none⟩ (.slice A8 (n + 1) c8)) ∧ Left B w (w8.setCell ⟨b, 1, none⟩ (.slice A8 (n + 1) c8)) := by
  have hb8 : Blk w8 b 56 (pcells S v vo) := blk_grown h.blk hg (blk_ne h.blk h.tree.open' (by decide))
  have ho2 : w8.ownsRow B 3 1 (.slice A8 (n + 1) c8) (S.op ++ [k]).length (ints (S.op ++ [k])) := by
    rw [List.length_append, hn]
    simpa [ints] using ho
  exact ⟨hb8, h.field (S' := { S with op := S.op ++ [k] }) (v' := v) (vo' := .slice A8 (n + 1) c8) (ns' := ns) (j := 1) (u := .slice A8 (n + 1) c8) ((Below.refl B w).grown hg h.bw (fun k hk => (h.tree.open'.lt k hk).1)) (Keep.grown hg (treeO_i h.tree.open')) hb8 (h.tree.openApp (m := n) ho2 hg hat) h.abs rfl⟩
set_option maxRecDepth 100000 in
set_option maxHeartbeats 8000000 in
theorem element_calls (B b : Nat) (m : Int) (S : PS) (i kl : Nat) (x : Nd) (nm : ByteArray) (av : Value) (attrs : List (ByteArray × ByteArray)) (w : World) (h : RP B b m S w) (hat : AttrsAt B av attrs w) (hx : S.ns[i]? = some x) (hl : x.kids.length = kl) (hf : S.ns.length < 100000) (hkl : kl < 100000) (hal : attrs.length ≤ 100000) (hop : S.op.length < 100000) :
    Calls Tryz.prog 22 #[.pointer (some ⟨b, 0, none⟩), .agg #[.int .i64 (i : Int), .int .i64 (kl : Int)], .string nm, av] w fun e w' => e = .returned (.int .i64 (S.ns.length : Int)) ∧ RP B b m (S.element i nm attrs) w' ∧ Left B w w' := by
  obtain ⟨i0, hi, hz0, hz1, hz2⟩ := info_parts infoInt
  obtain ⟨n, hn⟩ : ∃ n, n = S.ns.length := ⟨_, rfl⟩
  have hBw : B ≤ w.heap.size := by obtain ⟨_, _, _, h'⟩ := h; exact h'.bw
  obtain ⟨g4, hg4⟩ : ∃ g4, g4 = w.heap.size := ⟨_, rfl⟩
  obtain ⟨wa, hwa⟩ : ∃ wa, wa = w.alloc (.cells #[.int .i64 (i : Int), .int .i64 (kl : Int)] 59) := ⟨_, rfl⟩
  have P0 : Hid (Blk wa g4 59 #[.int .i64 (i : Int), .int .i64 (kl : Int)]) := by show Blk _ _ _ _; rw [hwa, hg4]; exact Blk.new w _ _
  have B0 : Below w.heap.size w wa := by rw [hwa]; exact (Below.refl _ w).alloc (Nat.le_refl _) _
  have R0 : Hid (RP B b m S wa) := h.below B0
  have L0 : Hid (Left B w wa) := Left.of_below B0 hBw
  have A0 : Hid (AttrsAt B av attrs wa) := own_below hat B0
  have BW : Hid (B ≤ wa.heap.size) := Nat.le_trans hBw B0.size
  obtain ⟨S1, hS1⟩ : ∃ S1 : PS, S1 = { S with ns := S.ns ++ [⟨2, nm, attrs, ⟨#[]⟩, -1, []⟩] } := ⟨_, rfl⟩
  have hx1 : S1.ns[i]? = some x := by rw [hS1]; exact own_nm hx
  have hn1 : n < S1.ns.length := by rw [hS1, hn]; simp
  have HE : Hid (S.element i nm attrs = { (S1.put i n) with op := (S1.put i n).op ++ [(n : Int)] }) := by show _ = _; rw [hS1, hn]; rfl
  have HOP : Hid ((S1.put i n).op.length < 100000) := by show _ < _; rw [hS1]; exact hop
  have HMK := Lib.hid (fun (W : World) (hR : RP B b m S W) av' (hA : AttrsAt B av' attrs W) => make_calls B b m S 2 0 nm ⟨#[]⟩ av' attrs W hR hA hf)
  rw [← hS1, ← hn] at HMK
  have HPT := Lib.hid (fun (W : World) (hR : RP B b m S1 W) => tput_calls B b m S1 i n kl x W hR hx1 hl hn1 hkl)
  rw [← hn]
  have HWA := Lib.hid hwa
  have HG4 := Lib.hid hg4
  have HCL := Lib.hid (clone_calls B av attrs wa A0.out hal BW.out)
  clear hwa hg4 hx1 hn1 hS1 hn h hat hx hl B0 hop
  go_enter Tryz.func22, Tryz.ntmps22
  go_upto_region 1 with fail
  rw [← HWA.out, ← HG4.out]
  go_wp2_with (first
    | (go_at_call 39; refine HCL.out.mono ?_; rintro e w1 ⟨av', rfl, ha1, hb1⟩; (obtain ⟨A1, c1, rfl⟩ := ha1.open); (have R1 := Lib.hid (R0.out.below hb1)); (have P1 := Lib.hid (P0.out.below hb1 P0.out.lt)); (have L1 := Lib.hid (L0.out.trans (Left.of_below hb1 BW.out))); (have HM1 := Lib.hid (HMK.out w1 R1.out _ ha1)); clear ha1 hb1)
    | (go_at_call 38; refine HM1.out.mono ?_; clear HM1; rintro e w2 ⟨rfl, hr2, hl2⟩; (have P2 := Lib.hid (hl2.keep.blk P1.out (by decide) (by decide) (by decide))); (have L2 := Lib.hid (L1.out.trans hl2)); (have p0 : w2.cell? ⟨g4, 0, none⟩ = some (.int .i64 (i : Int)) := P2.out.cell 0); (have p1 : w2.cell? ⟨g4, 1, none⟩ = some (.int .i64 (kl : Int)) := P2.out.cell 1); (have HP2 := Lib.hid (HPT.out w2 hr2)); clear hr2 hl2)
    | (go_at_call 40; refine HP2.out.mono ?_; clear HP2; rintro e w3 ⟨rfl, hr3, hl3⟩; (have L3 := Lib.hid (L2.out.trans hl3)); (obtain ⟨v3, vo3, ns3, hr3⟩ := hr3); (obtain ⟨nn, hnn⟩ : ∃ nn, nn = (S1.put i n).op.length := ⟨_, rfl⟩); (have how := hr3.tree.open'); rw [← hnn] at how; (obtain ⟨Ao, co, rfl⟩ := own_open how); (have HNN := Lib.hid hnn); (have R3 := Lib.hid hr3); (have c3 : w3.cell? ⟨b, 1, none⟩ = some (.slice Ao nn co) := hr3.blk.cell 1); (have BX := Lib.hid (below_alloc (Below.refl w3.heap.size w3) (.cells #[.int .i64 (n : Int)] 3))); (have R4 := Lib.hid (hr3.below BX.out)); (have OW := Lib.hid (own_below how BX.out)); (have HNI := Lib.hid (Blk.new w3 3 #[.int .i64 (n : Int)])); (have hnn5 : nn < 100000 := by have := HOP.out; omega); (have hbw5 := Lib.hid R4.out.bw); clear hr3 hl3 how hnn)
    | (at_builtin; refine wpList_append_any rfl _ _ 33 rfl B 3 i0 (.int .i64 0) 1 8 Tryz.underlying33 hi hz0 hz1 hz2 rfl (by decide) (.slice Ao nn co) nn (ints (S1.put i n).op) rfl OW.out (some ⟨w3.heap.size, 0, none⟩) 1 1 [.int .i64 (n : Int)] rfl rfl (.inl ⟨w3.heap.size, 0, rfl, fun j u hj => by rw [Nat.zero_add, HNI.out.cell j]; simpa using hj⟩) (by intro u hu; simp at hu; subst hu; rfl) (by unfold maxLen; omega) (by omega) hbw5.out ?_; intro A8 c8 w8 ho8 hg8 hat8; (have HO := Lib.hid (R4.out.opened HNN.out.symm ho8 hg8 hat8)); (have m8 : w8.cell? ⟨b, 1, none⟩ = some (.slice Ao nn co) := HO.out.1.cell 1); (have f8 : w8.frozen? ⟨b, 1, none⟩ = false := HO.out.1.free 1); clear ho8 hg8 hat8))
  go_ret
  refine ⟨rfl, ?_, ?_⟩
  · rw [HE.out]; exact ⟨_, _, _, HO.out.2.1⟩
  · exact (L3.out.trans (Left.of_below BX.out R3.out.bw)).trans HO.out.2.2
end Go.Proofs.YtcghahfboccceaaGreatDoor
