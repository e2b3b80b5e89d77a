/- Several texts in one: BxH, BxI. -/
import Derived.Test.YtkmmlcnoeeaekaaGreatDoorBoxesMakeM24
/- Contracts: is a box blocky; the closures that ask it. -/
namespace Go.Proofs.YtkmmlcnoeeaekaaGreatDoor
open Go.RowKit
set_option linter.unusedVariables false
set_option linter.unusedSimpArgs false

/-- A long load behind a guard that stands. -/
theorem wpList_load_midB {P : Program} {ops : Array Oper} {rest : List Oper} {op : Oper} {a : Act} {w : World} {Q : Exit → Act → World → Prop} (hw : Region.wanted op (yielded ops a.tmps) = true) (ty : TypeId) (x : Operand) (ho : op.op = .load ty x)
    (b o : Nat) (hx : a.eval x = .pointer (some ⟨b, o, none⟩)) (cs : List Value) (d : TypeDesc) (hc : w.rangeAt b o cs)
    (hu : P.underlying ty = some d) (hd : d.isRow = true) (hi : (P.info? ty).map (·.size) = some cs.length)
    (h : wpList P ops Q rest (a.put op.dst (.agg cs.toArray)) w) : wpList P ops Q (op :: rest) a w := by
  unfold wpList
  rw [if_pos hw]
  exact .inl (wp_load_mid ty x ho b o hx cs d hc hu hd hi h)
/-- The maker in memory. -/
def MkB (I : BxV) (g : Nat) (w : World) : Prop := Blk w g 69 #[.slice I.A I.n I.c, .slice I.Al I.nl I.cl]
theorem MkB.below {I : BxV} {g : Nat} {w w' : World} (h : MkB I g w) (hb : Below w.heap.size w w') : MkB I g w' := Blk.below h hb (Blk.lt h)
theorem mkB_new (I : BxV) (w : World) : MkB I w.heap.size (w.alloc (.cells #[.slice I.A I.n I.c, .slice I.Al I.nl I.cl] 69)) := Blk.new _ _ _
/-- A tree of a document of n nodes. -/
def TreeOk (I : BxV) (t : TreeV) : Prop := t.node < I.n ∧ (t.kind = 4 → 0 ≤ t.node ∧ t.text.size ≤ 400)
set_option maxRecDepth 100000 in
set_option maxHeartbeats 4000000 in
theorem blocky_calls (I : BxV) (hc : DocOk I.ns) (t : TreeV) (A : Option Addr) (m c : Nat) (o : Int) (w : World) (h : I.ok w w.heap.size) (hn : t.node < I.n) :
    Calls Tryz.prog 62 #[mkA I, .agg (treeC t A m c).toArray, .int .i64 o] w fun e w' => e = .returned (.bool ((docB I hc).blockyT o t)) ∧ Below w.heap.size w w' := by
  have hba := below_alloc (Below.refl w.heap.size w) (.cells #[.slice I.A I.n I.c, .slice I.Al I.nl I.cl] 69)
  have hbb := below_alloc hba (.cells #[.int .i64 t.kind, .int .i64 t.node, .int .i64 0, .slice none 0 0, .string t.text, .slice A m c] 75)
  have HM := Lib.hid ((Blk.new w 69 #[.slice I.A I.n I.c, .slice I.Al I.nl I.cl]).alloc (.cells #[.int .i64 t.kind, .int .i64 t.node, .int .i64 0, .slice none 0 0, .string t.text, .slice A m c] 75))
  have hT := Blk.new (w.alloc (.cells #[.slice I.A I.n I.c, .slice I.Al I.nl I.cl] 69)) 75 #[.int .i64 t.kind, .int .i64 t.node, .int .i64 0, .slice none 0 0, .string t.text, .slice A m c]
  rw [alloc_size] at hT
  have HT := Lib.hid hT
  have HW := Lib.hid hbb
  have HOK := Lib.hid (h.below hbb (Nat.le_refl _))
  have hl := h.hl
  have hsame := Lib.hid h.same
  have HV : Hid ((docB I hc).blockyT o t = (isBlk t.kind && (decide (t.node < 0) || decide (outS (I.sty t.node.toNat) < o)))) := rfl
  have HN0 := Lib.hid h.n0
  obtain ⟨kd, hkd⟩ : ∃ kd, kd = t.kind := ⟨_, rfl⟩
  obtain ⟨nd, hnd⟩ : ∃ nd, nd = t.node := ⟨_, rfl⟩
  unfold mkA treeC
  rw [← hkd, ← hnd] at HM HT HW HOK HV
  rw [← hkd, ← hnd]
  rw [← hnd] at hn
  generalize (docB I hc).blockyT o t = r at HV ⊢
  clear hba hbb hT h hkd hnd
  go_enter Tryz.func62, Tryz.ntmps62
  go_upto_region 1 with fail
  generalize World.alloc (World.alloc w _) _ = w1 at HM HT HW HOK ⊢
  have m1 : w1.cell? ⟨w.heap.size, 1, none⟩ = some (.slice I.Al I.nl I.cl) := HM.out.cell 1
  have t0 : w1.cell? ⟨w.heap.size + 1, 0, none⟩ = some (.int .i64 kd) := HT.out.cell 0
  have t1 : w1.cell? ⟨w.heap.size + 1, 1, none⟩ = some (.int .i64 nd) := HT.out.cell 1
  have HB := Lib.hid (isBlk_calls kd w1)
  generalize isBlk kd = b at HB HV
  cases b with
  | false =>
    have HE : Hid (r = false) := by show _ = _; rw [HV.out]; rfl
    go_wp2_with (go_at_call 104; refine HB.out.mono ?_; rintro e w3 ⟨rfl, rfl⟩)
    go_ret
    exact ⟨by rw [HE.out]; rfl, HW.out⟩
  | true =>
    by_cases hneg : nd < 0
    · have q0 : decide (nd < 0) = true := decide_eq_true hneg
      have HE : Hid (r = true) := by show _ = _; rw [HV.out, q0]; rfl
      clear hneg hn
      go_wp2_with (go_at_call 104; refine HB.out.mono ?_; rintro e w3 ⟨rfl, rfl⟩)
      go_ret
      exact ⟨by rw [HE.out]; rfl, HW.out⟩
    · obtain ⟨k, rfl⟩ : ∃ k : Nat, nd = (k : Int) := ⟨nd.toNat, by omega⟩
      have hk : k < I.n := by omega
      obtain ⟨b, off, hA, hb, hr⟩ := HOK.out.row hk
      have hz : (I.sty k).length = 118 := BxV.sty_len hl (by rw [hsame.out]; exact hk)
      have hkl : k < I.nl := by rw [hsame.out]; exact hk
      have hklb : k ≤ 200 := by have := HN0.out; omega
      rw [Int.toNat_natCast] at HV
      obtain ⟨zs, hzs⟩ : ∃ zs, zs = I.sty k := ⟨_, rfl⟩
      rw [← hzs] at hr hz HV
      have HR := Lib.hid hr
      have HSZ : Hid ((Tryz.prog.info? 35).map (·.size) = some (sty zs).toList.length) := by show _ = _; rw [Array.length_toList, sty_size, hz]; kernel_rfl
      have HO := Lib.hid (bout_calls zs w1 hz)
      have HE : Hid (r = decide (outS zs < o)) := by
        have : ¬ ((k : Int) < 0) := by omega
        show _ = _
        rw [HV.out]; simp [this]
      generalize outS zs = os at HO HE
      rw [hA] at m1
      have q0 : decide ((k : Int) < 0) = false := decide_eq_false (by omega)
      clear hr hz hzs hb hA hneg hn HV HOK hl HM HT
      go_wp2_with (first | (go_at_call 104; refine HB.out.mono ?_; rintro e w3 ⟨rfl, rfl⟩) | (refine wpList_load_midB (by kernel_rfl) 35 _ rfl b (off + k * 118) rfl (sty zs).toList _ HR.out Tryz.underlying35 rfl HSZ.out ?_) | (go_at_call 9; refine HO.out.mono ?_; rintro e w4 ⟨rfl, hb4⟩; have HB4 := Lib.hid (below_then HW.out hb4); clear hb4))
      go_ret
      exact ⟨by rw [HE.out]; rfl, HB4.out⟩
set_option maxRecDepth 100000 in
set_option maxHeartbeats 4000000 in
theorem contB_calls (I : BxV) (hc : DocOk I.ns) (g : Nat) (t : TreeV) (A : Option Addr) (m c : Nat) (w : World) (h : I.ok w w.heap.size) (hM : MkB I g w) (hn : t.node < I.n) :
    Calls Tryz.prog 61 #[.agg (treeC t A m c).toArray, .pointer (some ⟨g, 0, none⟩)] w fun e w' => e = .returned (.bool ((docB I hc).blockyT 1 t)) ∧ Below w.heap.size w w' := by
  have hbb := below_alloc (Below.refl w.heap.size w) (.cells #[.int .i64 t.kind, .int .i64 t.node, .int .i64 0, .slice none 0 0, .string t.text, .slice A m c] 75)
  have hM1 := MkB.below hM hbb
  have m0 : (w.alloc (.cells #[.int .i64 t.kind, .int .i64 t.node, .int .i64 0, .slice none 0 0, .string t.text, .slice A m c] 75)).cell? ⟨g, 0, none⟩ = some (.slice I.A I.n I.c) := Blk.cell hM1 0
  have m1 : (w.alloc (.cells #[.int .i64 t.kind, .int .i64 t.node, .int .i64 0, .slice none 0 0, .string t.text, .slice A m c] 75)).cell? ⟨g, 1, none⟩ = some (.slice I.Al I.nl I.cl) := Blk.cell hM1 1
  have HB := Lib.hid (blocky_calls I hc t A m c 1 (w.alloc (.cells #[.int .i64 t.kind, .int .i64 t.node, .int .i64 0, .slice none 0 0, .string t.text, .slice A m c] 75)) ((h.below hbb (Nat.le_refl _)).more hbb.size) hn)
  have HW := Lib.hid hbb
  unfold mkA treeC at HB
  unfold treeC
  generalize (docB I hc).blockyT 1 t = r at HB ⊢
  clear h hM hM1 hbb hn
  go_enter Tryz.func61, Tryz.ntmps61
  go_wp2_with (go_at_call 62; refine HB.out.mono ?_; rintro e w3 ⟨rfl, hb3⟩; have HB3 := Lib.hid (below_then HW.out hb3); clear hb3)
  go_ret
  exact ⟨rfl, HB3.out⟩
set_option maxRecDepth 100000 in
set_option maxHeartbeats 4000000 in
theorem boxB1_calls (I : BxV) (hc : DocOk I.ns) (g : Nat) (t : TreeV) (A : Option Addr) (m c : Nat) (w : World) (h : I.ok w w.heap.size) (hM : MkB I g w) (hn : t.node < I.n) :
    Calls Tryz.prog 110 #[.agg (treeC t A m c).toArray, .pointer (some ⟨g, 0, none⟩)] w fun e w' => e = .returned (.bool ((docB I hc).blockyT 1 t)) ∧ Below w.heap.size w w' := by
  have hbb := below_alloc (Below.refl w.heap.size w) (.cells #[.int .i64 t.kind, .int .i64 t.node, .int .i64 0, .slice none 0 0, .string t.text, .slice A m c] 75)
  have hM1 := MkB.below hM hbb
  have m0 : (w.alloc (.cells #[.int .i64 t.kind, .int .i64 t.node, .int .i64 0, .slice none 0 0, .string t.text, .slice A m c] 75)).cell? ⟨g, 0, none⟩ = some (.slice I.A I.n I.c) := Blk.cell hM1 0
  have m1 : (w.alloc (.cells #[.int .i64 t.kind, .int .i64 t.node, .int .i64 0, .slice none 0 0, .string t.text, .slice A m c] 75)).cell? ⟨g, 1, none⟩ = some (.slice I.Al I.nl I.cl) := Blk.cell hM1 1
  have HB := Lib.hid (blocky_calls I hc t A m c 1 (w.alloc (.cells #[.int .i64 t.kind, .int .i64 t.node, .int .i64 0, .slice none 0 0, .string t.text, .slice A m c] 75)) ((h.below hbb (Nat.le_refl _)).more hbb.size) hn)
  have HW := Lib.hid hbb
  unfold mkA treeC at HB
  unfold treeC
  generalize (docB I hc).blockyT 1 t = r at HB ⊢
  clear h hM hM1 hbb hn
  go_enter Tryz.func110, Tryz.ntmps110
  go_wp2_with (go_at_call 62; refine HB.out.mono ?_; rintro e w3 ⟨rfl, hb3⟩; have HB3 := Lib.hid (below_then HW.out hb3); clear hb3)
  go_ret
  exact ⟨rfl, HB3.out⟩
end Go.Proofs.YtkmmlcnoeeaekaaGreatDoor
/- Contracts: the library's IndexFunc and ContainsFunc of trees; the closures of flex rows and of idle runs. -/
namespace Go.Proofs.YtkmmlcnoeeaekaaGreatDoor
open Go.RowKit
set_option linter.unusedVariables false
set_option linter.unusedSimpArgs false

/-- The first that is so. -/
def idxR {α : Type} (p : α → Bool) : List α → Nat → Int
  | [], _ => -1
  | x :: l, k => if p x then (k : Int) else idxR p l (k + 1)
theorem idxR_any {α : Type} (p : α → Bool) : ∀ (l : List α) (k : Nat), decide (0 ≤ idxR p l k) = l.any p
  | [], k => rfl
  | x :: l, k => by
    rw [idxR, List.any_cons]
    cases p x with
    | true => simp
    | false => simpa using idxR_any p l (k + 1)
theorem idxR_at {α : Type} (p : α → Bool) : ∀ (l : List α) (k : Nat), idxR p l k = if l.any p then ((k + (l.takeWhile fun y => !p y).length : Nat) : Int) else -1
  | [], k => rfl
  | x :: l, k => by
    rw [idxR, List.any_cons, List.takeWhile_cons]
    cases p x with
    | true => simp
    | false =>
      have := idxR_at p l (k + 1)
      simp only [Bool.false_eq_true, if_false, Bool.false_or, Bool.not_false, if_true, List.length_cons]
      rw [this]
      split
      · congr 1; omega
      · rfl
/-- The closures that ask trees. -/
def IsAsk (f : Nat) : Prop := f = 61 ∨ f = 110 ∨ f = 111 ∨ f = 178
/-- A closure over the maker says p of trees. -/
def SaysT (f g : Nat) (p : TreeV → Bool) (ts : List TreeV) (w : World) : Prop := ∀ t ∈ ts, ∀ (A : Option Addr) (m c : Nat) (w' : World), Below w.heap.size w w' →
  Calls Tryz.prog f #[.agg (treeC t A m c).toArray, .pointer (some ⟨g, 0, none⟩)] w' fun e w2 => e = .returned (.bool (p t)) ∧ Below w'.heap.size w' w2
theorem KidsAt.at_ {w : World} {Q : Nat → Prop} {ts : List TreeV} {A : Option Addr} {n : Nat} (h : KidsAt w Q ts A n) {k : Nat} (hk : k < n) : ∃ b off, A = some ⟨b, off, none⟩ ∧ Q b ∧ ∃ A7 m7 c7, (∀ j u, (treeC (ts.getD k (.mk 0 0 noS [])) A7 m7 c7)[j]? = some u → w.cell? ⟨b, off + k * 6 + j, none⟩ = some u) ∧ KidsAt w Q (ts.getD k (.mk 0 0 noS [])).kids A7 m7 := by
  rcases h.2 with h0 | ⟨b, off, e, hq, hts⟩
  · omega
  · have hk2 : k < ts.length := by rw [h.1]; exact hk
    obtain ⟨A7, m7, c7, h1, h2⟩ := hts.at_ hk2
    refine ⟨b, off, e, hq, A7, m7, c7, ?_, ?_⟩
    · rw [List.getD_eq_getElem?_getD, List.getElem?_eq_getElem hk2, Nat.mul_comm k 6]; exact h1
    · rw [List.getD_eq_getElem?_getD, List.getElem?_eq_getElem hk2]; exact h2
theorem KidsAt.below {w w' : World} {Q : Nat → Prop} {ts : List TreeV} {A : Option Addr} {n : Nat} (h : KidsAt w Q ts A n) (hb : Below w.heap.size w w') (hq : ∀ b, Q b → b < w.heap.size) : KidsAt w' Q ts A n := h.mono fun b hb' => ⟨hb', hb.block b (hq b hb')⟩
set_option maxRecDepth 100000 in
set_option maxHeartbeats 4000000 in
theorem indexT_calls (f g : Nat) (p : TreeV → Bool) (ts : List TreeV) (A : Option Addr) (n c : Nat) (Q : Nat → Prop) (w : World) (hm : n ≤ 1000) (hf : IsAsk f) (h : KidsAt w Q ts A n) (hQ : ∀ b, Q b → b < w.heap.size) (HP : SaysT f g p ts w) :
    Calls Tryz.prog 105 #[.slice A n c, .func (.func f) #[] #[.pointer (some ⟨g, 0, none⟩)]] w fun e w' => e = .returned (.int .i64 (idxR p ts 0)) ∧ Below w.heap.size w w' := by
  have hn := Lib.hid h.1
  have H := Lib.hid h
  have HQ := Lib.hid hQ
  have HS := Lib.hid HP
  obtain ⟨r, hr⟩ : ∃ r, r = idxR p ts 0 := ⟨_, rfl⟩
  rw [← hr]
  have HR := Lib.hid hr
  clear h hQ hr HP
  go_enter Tryz.func105, Tryz.ntmps105
  go_wp2_with fail
  go_loopw [8] (fun i wr => ∃ k : Nat, k ≤ n ∧ i = .int .i64 k ∧ Hid (r = idxR p (ts.drop k) k) ∧ Hid (Below w.heap.size w wr)) (fun i _ => n - (intOf i).toNat)
  case atStart => exact ⟨0, Nat.zero_le _, rfl, HR.out, Below.refl _ _⟩
  case round =>
    obtain ⟨k, hk, rfl, HK, HB⟩ := hrel
    by_cases hlt : k < n
    · obtain ⟨b, off, hA, hb, A7, m7, c7, hc, _⟩ := (H.out.below HB.out HQ.out).at_ hlt
      subst hA
      obtain ⟨t, ht⟩ : ∃ t, t = ts.getD k (.mk 0 0 noS []) := ⟨_, rfl⟩
      rw [← ht] at hc
      have hkl : k < ts.length := by rw [hn.out]; exact hlt
      have htk : ts[k] = t := by rw [ht, List.getD_eq_getElem?_getD, List.getElem?_eq_getElem hkl]; rfl
      have HD : Hid (ts.drop k = t :: ts.drop (k + 1)) := by show _ = _; rw [List.drop_eq_getElem_cons hkl, htk]
      have hmem : t ∈ ts := by rw [← htk]; exact List.getElem_mem hkl
      have HC := Lib.hid (HS.out t hmem A7 m7 c7 wr HB.out)
      clear ht hkl htk hmem hb
      unfold treeC at HC hc
      obtain ⟨kd, nd, tx, ks⟩ := t
      have c0 : wr.cell? ⟨b, off + k * 6, none⟩ = some (.int .i64 kd) := hc 0 _ rfl
      have c1 : wr.cell? ⟨b, off + k * 6 + 1, none⟩ = some (.int .i64 nd) := hc 1 _ rfl
      have c2 : wr.cell? ⟨b, off + k * 6 + 2, none⟩ = some (.int .i64 0) := hc 2 _ rfl
      have c3 : wr.cell? ⟨b, off + k * 6 + 3, none⟩ = some (.slice none 0 0) := hc 3 _ rfl
      have c4 : wr.cell? ⟨b, off + k * 6 + 4, none⟩ = some (.string tx) := hc 4 _ rfl
      have c5 : wr.cell? ⟨b, off + k * 6 + 5, none⟩ = some (.slice A7 m7 c7) := hc 5 _ rfl
      have HC' : Hid (Calls Tryz.prog f #[.agg #[.int .i64 kd, .int .i64 nd, .int .i64 0, .slice none 0 0, .string tx, .slice A7 m7 c7], .pointer (some ⟨g, 0, none⟩)] wr fun e w2 => e = .returned (.bool (p (.mk kd nd tx ks))) ∧ Below wr.heap.size wr w2) := HC.out
      obtain ⟨pt, hpt⟩ : ∃ pt, pt = p (.mk kd nd tx ks) := ⟨_, rfl⟩
      rw [← hpt] at HC'
      have HPT := Lib.hid hpt
      clear hc HC hpt
      cases pt with
      | true =>
        have HN : Hid (r = (k : Int)) := by show _ = _; rw [HK.out, HD.out, idxR, if_pos HPT.out.symm]
        clear HS HPT HK HD
        rcases hf with rfl | rfl | rfl | rfl
        all_goals
          go_wp2_with (refine HC'.out.mono ?_; rintro e w1 ⟨rfl, hb1⟩)
          go_ret
          exact ⟨by rw [HN.out]; rfl, below_then HB.out hb1⟩
      | false =>
        have HN : Hid (r = idxR p (ts.drop (k + 1)) (k + 1)) := by show _ = _; rw [HK.out, HD.out, idxR, if_neg (by rw [← HPT.out]; simp)]
        clear HPT HK HD HS
        rcases hf with rfl | rfl | rfl | rfl
        all_goals
          go_wp2_with (refine HC'.out.mono ?_; rintro e w1 ⟨rfl, hb1⟩)
          go_round
          case rel => exact ⟨k + 1, by omega, by go_num, HN.out, below_then HB.out hb1⟩
          case measure => simp [intOf]; omega
    · obtain rfl : k = n := by omega
      have HN : Hid (r = -1) := by show _ = _; rw [HK.out, ← hn.out, List.drop_length]; rfl
      go_wp2_with fail
      go_ret
      exact ⟨by rw [HN.out]; rfl, HB.out⟩
set_option maxRecDepth 100000 in
theorem containsT_calls (f g : Nat) (p : TreeV → Bool) (ts : List TreeV) (A : Option Addr) (n c : Nat) (Q : Nat → Prop) (w : World) (hm : n ≤ 1000) (hf : IsAsk f) (h : KidsAt w Q ts A n) (hQ : ∀ b, Q b → b < w.heap.size) (HP : SaysT f g p ts w) :
    Calls Tryz.prog 63 #[.slice A n c, .func (.func f) #[] #[.pointer (some ⟨g, 0, none⟩)]] w fun e w' => e = .returned (.bool (ts.any p)) ∧ Below w.heap.size w w' := by
  have HC := Lib.hid (indexT_calls f g p ts A n c Q w hm hf h hQ HP)
  have HA := Lib.hid (idxR_any p ts 0)
  generalize idxR p ts 0 = r at HC HA
  generalize ts.any p = b at HA ⊢
  clear h hQ HP
  go_enter Tryz.func63, Tryz.ntmps63
  go_wp2_with (go_at_call 105; refine HC.out.mono ?_; rintro e w1 ⟨rfl, hb1⟩)
  go_ret
  exact ⟨by rw [← HA.out]; rfl, hb1⟩
end Go.Proofs.YtkmmlcnoeeaekaaGreatDoor
