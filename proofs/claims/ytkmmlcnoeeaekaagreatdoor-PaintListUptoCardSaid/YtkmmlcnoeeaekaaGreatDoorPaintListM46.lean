/- Several texts in one: PntB. -/
import Derived.Test.YtkmmlcnoeeaekaaGreatDoorPaintListM38
import Derived.Test.YtkmmlcnoeeaekaaGreatDoorPaintListM4
import Derived.Test.YtkmmlcnoeeaekaaGreatDoorPaintListM45
import Derived.Test.YtkmmlcnoeeaekaaGreatDoorPaintListM29
import Derived.Test.YtkmmlcnoeeaekaaGreatDoorPaintListM10
import Derived.Great.Walk
/- Contract of List's opens: a command told, its end kept ahead of the step where it ends. -/
namespace Go.Proofs.YtkmmlcnoeeaekaaGreatDoor
open Go.RowKit Go.Great
set_option linter.unusedVariables false
set_option linter.unusedSimpArgs false

theorem info_cmdP : (Tryz.prog.info? 64).map (fun i => (i.zero, i.size, i.bytes)) = some (some (.agg #[.int .i64 0, .int .i64 0, .int .i64 0, .int .i64 0, .int .i64 0, .int .i64 0, .int .i64 0, .int .i64 0, .string ⟨#[]⟩]), 9, 80) := by kernel_rfl
theorem info_intP : (Tryz.prog.info? 3).map (fun i => (i.zero, i.size, i.bytes)) = some (some (.int .i64 0), 1, 8) := by kernel_rfl
theorem info_partsP {i : Option TypeInfo} {z : Option Value} {n m : Nat} (h : i.map (fun i => (i.zero, i.size, i.bytes)) = some (z, n, m)) : ∃ j, i = some j ∧ j.zero = z ∧ j.size = n ∧ j.bytes = m := by
  cases i with
  | none => cases h
  | some j =>
    injection h with h
    injection h with h1 h2
    injection h2 with h2 h3
    exact ⟨j, rfl, h1, h2, h3⟩
theorem cmdF_oneP (c : CmdV) : ∀ u ∈ cmdF c, u.oneCell' = true := fun u hu => by
  simp [cmdF] at hu
  rcases hu with rfl | rfl | rfl | rfl | rfl | rfl | rfl | rfl | rfl <;> rfl
/-- What List keeps while it goes: what was told, what ends ahead of each step. -/
structure PLst (B gO gE M : Nat) (AO : Option Addr) (n cO : Nat) (l : List CmdV) (k : Nat) (D : DataW Unit) (E : Nat → List Int) (w : World) : Prop where
  hl : l.length = n
  out : Blk w gO 57 #[.slice AO n cO]
  own : w.ownsRow B 64 9 (.slice AO n cO) n (cmds l)
  map : Blk w gE 108 #[.map (some M)]
  groups : w.ownsGroups (H := Unit) Tryz.prog 3 (M + 1) 3 .i64 M k D
  ends : EndsIs D E
  bO : B ≤ gO
  bM : B ≤ M
  bw : B ≤ w.heap.size
theorem own_srcP {w : World} {base n m size : Nat} {e : TypeId} {A : Option Addr} {c : Nat} {l : List Value} (h : w.ownsRow base e size (.slice A n c) n l) (hn : n = m) : SrcI w A m l := by
  rcases h.2 with ⟨h1, h0⟩ | ⟨g, cap, cur, hv, hb, hh, _⟩
  · injection h1 with h1
    exact .inr ⟨h1, by omega⟩
  · have hA : A = some ⟨g, 0, none⟩ := by injection hv
    subst hA
    refine .inl ⟨g, 0, rfl, fun j u hj => ?_⟩
    have := h.cells (g := g) rfl j u hj
    have e1 : (⟨g, 0, none⟩ : Addr).add j = ⟨g, 0 + j, none⟩ := by unfold Addr.add; split <;> simp_all
    rwa [e1] at this
theorem cmds_len9 (l : List CmdV) : (cmds l).length = l.length * 9 := by
  induction l with
  | nil => rfl
  | cons c l ih => rw [cmds, List.flatMap_cons, List.length_append]; rw [cmds] at ih; rw [ih, List.length_cons]; show 9 + _ = _; omega
theorem cmds_oneP (l : List CmdV) : ∀ u ∈ cmds l, u.oneCell' = true := fun u hu => by
  rw [cmds, List.mem_flatMap] at hu
  obtain ⟨c, _, hc⟩ := hu
  exact cmdF_oneP c u hc
theorem cmds_app (l l' : List CmdV) : cmds l ++ cmds l' = cmds (l ++ l') := by simp [cmds]
theorem own_baseP {w : World} {base base' : Nat} {e : TypeId} {size n : Nat} {v : Value} {xs : List Value} (h : w.ownsRow base e size v n xs) (hb : base' ≤ base) : w.ownsRow base' e size v n xs := by
  refine ⟨h.1, ?_⟩
  rcases h.2 with h' | ⟨g, cap, cur, hv, h1, h2⟩
  · exact .inl h'
  · exact .inr ⟨g, cap, cur, hv, Nat.le_trans hb h1, h2⟩
/-- What else stays. -/
def Stays (gO : Nat) (w w' : World) : Prop := ∀ g t cs, Blk w g t cs → g ≠ gO → t ≠ 64 → Blk w' g t cs
theorem PLst.below {B gO gE M n cO k : Nat} {AO : Option Addr} {l : List CmdV} {D : DataW Unit} {E : Nat → List Int} {w w' : World} (h : PLst B gO gE M AO n cO l k D E w) (hb : Below w.heap.size w w') : PLst B gO gE M AO n cO l k D E w' :=
  ⟨h.hl, h.out.below hb h.out.lt, own_below h.own hb, h.map.below hb h.map.lt, groups_below h.groups hb, h.ends, h.bO, h.bM, Nat.le_trans h.bw hb.size⟩
theorem PLst.drew {B gO gE M n cO k : Nat} {AO : Option Addr} {l : List CmdV} {D : DataW Unit} {E : Nat → List Int} {w : World} (h : PLst B gO gE M AO n cO l k D E w) : PLst B gO gE M AO n cO l k D E w.drew :=
  ⟨h.hl, h.out, h.own, h.map, groups_keep h.groups fun _ _ _ => rfl, h.ends, h.bO, h.bM, h.bw⟩
theorem Stays.refl (gO : Nat) (w : World) : Stays gO w w := fun _ _ _ h _ _ => h
theorem Stays.trans {gO : Nat} {a b c : World} (h : Stays gO a b) (h' : Stays gO b c) : Stays gO a c := fun g t cs hb h1 h2 => h' g t cs (h g t cs hb h1 h2) h1 h2
theorem Stays.below {gO : Nat} {a b : World} (h : Below a.heap.size a b) : Stays gO a b := fun g t cs hb _ _ => hb.below h hb.lt
/-- A command told: appended, and the slice stored anew. -/
theorem PLst.told {B gO gE M n cO k : Nat} {AO : Option Addr} {l ls : List CmdV} {D : DataW Unit} {E : Nat → List Int} {w w1 : World} (h : PLst B gO gE M AO n cO l k D E w) {A9 : Option Addr} {c9 m : Nat} (hm : ls.length = m)
    (ho : w1.ownsRow B 64 9 (.slice A9 (n + m) c9) (n + m) (cmds l ++ cmds ls)) (hg : w.grownBy w1 (Value.slice AO n cO).ownBlock) :
    PLst B gO gE M A9 (n + m) c9 (l ++ ls) k D E (w1.setCell ⟨gO, 0, none⟩ (.slice A9 (n + m) c9)) ∧ Stays gO w (w1.setCell ⟨gO, 0, none⟩ (.slice A9 (n + m) c9)) ∧ Below B w (w1.setCell ⟨gO, 0, none⟩ (.slice A9 (n + m) c9)) := by
  have hO := blk_grown h.out hg (blk_ne h.out h.own (by decide))
  have hM := blk_grown h.map hg (blk_ne h.map h.own (by decide))
  have hb : Below B w w1 := (Below.refl B w).grown hg h.bw (fun k hk => (h.own.lt k hk).1)
  have hne : gE ≠ gO := fun hh => by
    have h1 := h.map
    have h2 := h.out
    subst hh
    unfold Blk at h1 h2
    rw [h1] at h2
    injection h2 with h2
    injection h2 with h3 h4
    exact absurd h4 (by decide)
  refine ⟨⟨by rw [List.length_append, h.hl, hm], by simpa using hO.stored 0 (.slice A9 (n + m) c9), ?_, hM.far hne _, groups_set (groups_grown h.groups h.own (by decide) hg) hO (by decide) _, h.ends, h.bO, h.bM, ?_⟩, fun g t cs hB hgo ht => ?_, ?_⟩
  · have e : cmds (l ++ ls) = cmds l ++ cmds ls := by simp [cmds]
    rw [e]
    exact own_setFar ho (blk_ne hO ho (by decide))
  · exact Nat.le_trans h.bw (hb.setCell (p := ⟨gO, 0, none⟩) h.bO (.slice A9 (n + m) c9)).size
  · exact (blk_grown hB hg (blk_ne hB h.own ht)).far hgo _
  · exact hb.setCell (p := ⟨gO, 0, none⟩) h.bO _
theorem blk_apart {w : World} {g g' : Nat} {t t' : TypeId} {cs cs' : Array Value} (h : Blk w g t cs) (h' : Blk w g' t' cs') (hne : t ≠ t') : g ≠ g' := fun hh => by
  subst hh
  unfold Blk at h h'
  rw [h] at h'
  injection h' with h'
  injection h' with h3 h4
  exact hne h4
/-- What ends ahead of a step stored anew. -/
theorem PLst.stored {B gO gE M n cO k : Nat} {AO : Option Addr} {l : List CmdV} {D D' : DataW Unit} {E E' : Nat → List Int} {w w1 w2 : World} (h : PLst B gO gE M AO n cO l k D E w) (hb : Below w.heap.size w w1) (hg : w1.grownBy w2 (some M))
    (hG : w2.ownsGroups (H := Unit) Tryz.prog 3 (M + 1) 3 .i64 M (k + 1) D') (hE : EndsIs D' E') : PLst B gO gE M AO n cO l (k + 1) D' E' w2 ∧ Stays gO w w2 ∧ Below B w w2 := by
  have hst : ∀ g t cs, Blk w g t cs → Blk w2 g t cs := fun g t cs hB => by
    have h1 := hb.block g hB.lt
    have h2 := hg.block g (Nat.lt_of_lt_of_le hB.lt hb.size) (fun hh => groups_ne h.groups hB (by injection hh))
    exact h2.trans (h1.trans hB)
  refine ⟨⟨h.hl, hst _ _ _ h.out, own_heap h.own fun g hg' => ?_, hst _ _ _ h.map, hG, hE, h.bO, h.bM, Nat.le_trans h.bw (Nat.le_trans hb.size hg.size)⟩, fun g t cs hB _ _ => hst g t cs hB, (hb.mono h.bw).grown hg (Nat.le_trans h.bw hb.size) (fun j hj => by injection hj with hj; rw [← hj]; exact h.bM)⟩
  have hlt := (h.own.lt g hg').2
  refine (hg.block g (Nat.lt_of_lt_of_le hlt hb.size) (fun hh => ?_)).trans (hb.block g hlt)
  have hgm : g = M := by injection hh
  rcases h.own.2 with ⟨h1, _⟩ | ⟨g', cap, cur, hv, _, h2, _⟩
  · rw [h1] at hg'; cases hg'
  · rw [hv] at hg'
    have hgg : g' = g := by simpa [Value.ownBlock] using hg'
    subst hgg
    exact groups_ne h.groups (cs := cur) (t' := 64) h2 hgm
/-- At the start. -/
theorem plst_made (w : World) : PLst w.heap.size w.heap.size (w.heap.size + 1 + 1) (w.heap.size + 1) none 0 0 [] 0 (.map []) (fun _ => []) (((w.alloc (.cells #[.slice none 0 0] 57)).alloc (.map #[] 0)).alloc (.cells #[.map (some (w.heap.size + 1))] 108)) := by
  have hs1 : (w.alloc (.cells #[.slice none 0 0] 57)).heap.size = w.heap.size + 1 := by simp
  have hs2 : ((w.alloc (.cells #[.slice none 0 0] 57)).alloc (.map #[] 0)).heap.size = w.heap.size + 1 + 1 := by simp
  refine ⟨rfl, ((Blk.new w _ _).alloc _).alloc _, World.ownsRow_nil _ _ _ _, ?_, ?_, ends_made, Nat.le_refl _, by omega, ?_⟩
  · have h := Blk.new ((w.alloc (.cells #[.slice none 0 0] 57)).alloc (.map #[] 0)) 108 #[.map (some (w.heap.size + 1))]
    rw [hs2] at h
    exact h
  · have h := World.ownsGroups_made (H := Unit) (w.alloc (.cells #[.slice none 0 0] 57)) Tryz.prog 3 3 .i64
    rw [hs1] at h
    exact groups_below h (below_alloc (Below.refl _ _) _)
  · simp; omega
set_option maxRecDepth 1000000 in
set_option maxHeartbeats 4000000 in
theorem opens_calls (B gf gO gE gD M n k en : Nat) (node : Int) (fx : Array Value) (AO : Option Addr) (cO : Nat) (l : List CmdV) (D : DataW Unit) (E : Nat → List Int) (d n0 x y cw ch color cn : Int) (text : ByteArray) (w : World)
    (hP : PLst B gO gE M AO n cO l k D E w) (hF : Blk w gf 88 fx) (hf1 : fx[1]? = some (.int .i64 node)) (hD : Blk w gD 3 #[.int .i64 (en : Nat)]) (hn : n ≤ 16777216) (hk : k ≤ 16777216) (hen : en ≤ 16777216) (hnode : (Lit.int .i64 node).wf = true) :
    Calls Tryz.prog 53 #[.agg #[.int .i64 d, .int .i64 n0, .int .i64 x, .int .i64 y, .int .i64 cw, .int .i64 ch, .int .i64 color, .int .i64 cn, .string text], .pointer (some ⟨gf, 0, none⟩), .pointer (some ⟨gO, 0, none⟩), .pointer (some ⟨gE, 0, none⟩), .pointer (some ⟨gD, 0, none⟩)] w
      fun e w' => e = .returned (.tuple #[]) ∧ (∃ A' c' D', PLst B gO gE M A' (n + 1) c' (l ++ [⟨d, node, x, y, cw, ch, color, cn, text⟩]) (k + 1) D' (upd E en (node :: E en)) w') ∧ Below B w w' ∧ Stays gO w w' := by
  have mixed : Tryz.prog.follows .mixedOrders = true := by kernel_rfl
  obtain ⟨iI, hiI, hzI0, hzI1, hzI2⟩ := info_partsP info_intP
  obtain ⟨iC, hiC, hzC0, hzC1, hzC2⟩ := info_partsP info_cmdP
  have HP := Lib.hid hP
  have HF := Lib.hid hF
  have HF1 := Lib.hid hf1
  have HD := Lib.hid hD
  have HNO := Lib.hid hnode
  clear hP hF hD hnode hf1
  have HEN := Lib.hid (WalkArith.wf_i64 (n := (en : Int)) (by omega))
  have d1 : (w.alloc (.cells #[.int .i64 d, .int .i64 n0, .int .i64 x, .int .i64 y, .int .i64 cw, .int .i64 ch, .int .i64 color, .int .i64 cn, .string text] 64)).cell? ⟨gf, 1, none⟩ = some (.int .i64 node) := ((HF.out.alloc _).cell 1).trans HF1.out
  go_enter Tryz.func53, Tryz.ntmps53
  go_upto_region 2 with fail
  clear d1
  have hb1 := below_alloc (Below.refl w.heap.size w) (.cells #[.int .i64 d, .int .i64 node, .int .i64 x, .int .i64 y, .int .i64 cw, .int .i64 ch, .int .i64 color, .int .i64 cn, .string text] 64)
  have HC5 := Lib.hid (Blk.new w 64 #[.int .i64 d, .int .i64 node, .int .i64 x, .int .i64 y, .int .i64 cw, .int .i64 ch, .int .i64 color, .int .i64 cn, .string text])
  have HP1 := Lib.hid (HP.out.below hb1)
  have HF := Lib.hid (HF.out.below hb1 HF.out.lt)
  have HD := Lib.hid (HD.out.below hb1 HD.out.lt)
  have HS1 := Lib.hid (Stays.below (gO := gO) hb1)
  have HB1 := Lib.hid (hb1.mono HP.out.bw)
  clear hb1 HP
  generalize World.alloc w _ = w1 at HC5 HP1 HF HD HS1 HB1 ⊢
  have e0 : w1.cell? ⟨w.heap.size, 0, none⟩ = some (.int .i64 d) := HC5.out.cell 0
  have e1 : w1.cell? ⟨w.heap.size, 1, none⟩ = some (.int .i64 node) := HC5.out.cell 1
  have e2 : w1.cell? ⟨w.heap.size, 2, none⟩ = some (.int .i64 x) := HC5.out.cell 2
  have e3 : w1.cell? ⟨w.heap.size, 3, none⟩ = some (.int .i64 y) := HC5.out.cell 3
  have e4 : w1.cell? ⟨w.heap.size, 4, none⟩ = some (.int .i64 cw) := HC5.out.cell 4
  have e5 : w1.cell? ⟨w.heap.size, 5, none⟩ = some (.int .i64 ch) := HC5.out.cell 5
  have e6 : w1.cell? ⟨w.heap.size, 6, none⟩ = some (.int .i64 color) := HC5.out.cell 6
  have e7 : w1.cell? ⟨w.heap.size, 7, none⟩ = some (.int .i64 cn) := HC5.out.cell 7
  have e8 : w1.cell? ⟨w.heap.size, 8, none⟩ = some (.string text) := HC5.out.cell 8
  have o0 : w1.cell? ⟨gO, 0, none⟩ = some (.slice AO n cO) := HP1.out.out.cell 0
  have hb2 := below_alloc (Below.refl w1.heap.size w1) (.cells #[.int .i64 d, .int .i64 node, .int .i64 x, .int .i64 y, .int .i64 cw, .int .i64 ch, .int .i64 color, .int .i64 cn, .string text] 64)
  have HC6 := Lib.hid (Blk.new w1 64 #[.int .i64 d, .int .i64 node, .int .i64 x, .int .i64 y, .int .i64 cw, .int .i64 ch, .int .i64 color, .int .i64 cn, .string text])
  have HP2 := Lib.hid (HP1.out.below hb2)
  have HF := Lib.hid (HF.out.below hb2 HF.out.lt)
  have HD := Lib.hid (HD.out.below hb2 HD.out.lt)
  have HS2 := Lib.hid (HS1.out.trans (Stays.below (gO := gO) hb2))
  have HB2 := Lib.hid (HB1.out.trans (hb2.mono HP1.out.bw))
  clear hb2 HC5 HS1 HB1
  go_upto_region 3 with (at_builtin; refine wpList_append_any rfl _ _ 57 rfl B 64 iC (.agg #[.int .i64 0, .int .i64 0, .int .i64 0, .int .i64 0, .int .i64 0, .int .i64 0, .int .i64 0, .int .i64 0, .string ⟨#[]⟩]) 9 80 Tryz.underlying57 hiC hzC0 hzC1 hzC2 rfl (by decide) (.slice AO n cO) n (cmds l) rfl HP2.out.own (some ⟨w1.heap.size, 0, none⟩) 1 1 (cmdF ⟨d, node, x, y, cw, ch, color, cn, text⟩) rfl rfl (.inl ⟨w1.heap.size, 0, rfl, fun j u hj => by rw [Nat.zero_add, HC6.out.cell j]; simpa [cmdF] using hj⟩) (cmdF_oneP _) (by unfold maxLen; omega) (by omega) HP2.out.bw ?_; intro A9 c9 w3 ho9 hg9 hat9; have HT := Lib.hid (HP2.out.told (ls := [⟨d, node, x, y, cw, ch, color, cn, text⟩]) (m := 1) rfl (by simpa [cmds] using ho9) hg9); have q0 : w3.cell? ⟨gO, 0, none⟩ = some (.slice AO n cO) := (blk_grown HP2.out.out hg9 (blk_ne HP2.out.out HP2.out.own (by decide))).cell 0; have f0 : w3.frozen? ⟨gO, 0, none⟩ = false := (blk_grown HP2.out.out hg9 (blk_ne HP2.out.out HP2.out.own (by decide))).free 0; have HG3 := Lib.hid ho9; clear ho9 hg9 hat9)
  clear q0 f0 HG3 o0 e0 e1 e2 e3 e4 e5 e6 e7 e8 HP1
  have HGF := Lib.hid (HT.out.2.1 _ _ _ HF.out (blk_apart HF.out HP2.out.out (by decide)) (by decide))
  have HGD := Lib.hid (HT.out.2.1 _ _ _ HD.out (blk_apart HD.out HP2.out.out (by decide)) (by decide))
  have HP3 := Lib.hid HT.out.1.drew
  have HS3 := Lib.hid (HS2.out.trans HT.out.2.1)
  have HB3 := Lib.hid (HB2.out.trans HT.out.2.2)
  clear HT HF HD HP2 HS2 HB2 HC6
  generalize w3.setCell _ _ = w4 at HGF HGD HP3 HS3 HB3 ⊢
  have HGF := Lib.hid (show Blk (World.drew w4) _ _ _ from HGF.out)
  have HGD := Lib.hid (show Blk (World.drew w4) _ _ _ from HGD.out)
  have HS3 := Lib.hid (show Stays gO w (World.drew w4) from HS3.out)
  have HB3 := Lib.hid HB3.out.drew
  obtain ⟨v, zs, hlook, hat, hoi, hzl, hback⟩ := groups_look HP3.out.groups endsLaw underlyingEnds endsZero (by unfold maxLen; omega) (Maps.keyOf_int_mk Tryz.underlying3 HEN.out)
  have hz : zs = E en := ends_at HP3.out.ends hoi hat
  obtain ⟨AV, cV, rfl⟩ := own_open hoi.1
  have HLK := Lib.hid hlook
  have HOI := Lib.hid hoi
  have HBACK := Lib.hid hback
  have HGB := Lib.hid (groups_base HP3.out.groups)
  have HZ := Lib.hid hz
  clear hlook hat hoi hback hz
  have hS0 : (fun w' : World => w'.cell? ⟨gE, 0, none⟩ = some (.map (some M)) ∧ w'.cell? ⟨gD, 0, none⟩ = some (.int .i64 (en : Nat)) ∧ w'.cell? ⟨gf, 1, none⟩ = some (.int .i64 node) ∧ w'.heap[M]? = (World.drew w4).heap[M]?) (World.drew w4) := ⟨HP3.out.map.cell 0, HGD.out.cell 0, (HGF.out.cell 1).trans HF1.out, rfl⟩
  refine wp_region_noPanic ?_
  refine region_M (S := fun w' => w'.cell? ⟨gE, 0, none⟩ = some (.map (some M)) ∧ w'.cell? ⟨gD, 0, none⟩ = some (.int .i64 (en : Nat)) ∧ w'.cell? ⟨gf, 1, none⟩ = some (.int .i64 node) ∧ w'.heap[M]? = (World.drew w4).heap[M]?) (T := [9]) (by kernel_rfl) ?_
  generalize World.drew w4 = w5 at HGF HGD HP3 HS3 HB3 HLK HOI HBACK HGB hS0 ⊢
  refine anyM_take (i := 0) (oi := { dst := some 13, op := _, type := _, pos := _, after := _, guard := _ }) (v := ?_) rfl (by kernel_rfl) (fun _ _ _ h => h) (Or.inl ⟨by kernel_rfl, ?_⟩) hS0 ?_
  rotate_left 1
  · (intro w hSw; (try dsimp only at hSw); go_simp; try with_reducible rfl)
  try simp only [Act.put, Array.toArray_toList, List.setIfInBounds_toArray, List.set_cons_zero, List.set_cons_succ]
  refine anyM_take (i := 1) (oi := { dst := some 14, op := _, type := _, pos := _, after := _, guard := _ }) (v := ?_) rfl (by kernel_rfl) (fun _ _ _ h => h) (Or.inl ⟨by kernel_rfl, ?_⟩) hS0 ?_
  rotate_left 1
  · (intro w hSw; (try dsimp only at hSw); go_simp; try with_reducible rfl)
  try simp only [Act.put, Array.toArray_toList, List.setIfInBounds_toArray, List.set_cons_zero, List.set_cons_succ]
  refine anyM_free (i := 2) (oi := { dst := some 15, op := _, type := _, pos := _, after := _, guard := _ }) (v := ?_) rfl (by kernel_rfl) (fun _ _ _ h => h) (Or.inl ⟨by kernel_rfl, ?_⟩) (fun _ => hS0) ?_
  rotate_left 1
  · (intro w hSw; (try dsimp only at hSw); go_simp; try with_reducible rfl)
  try simp only [Act.put, Array.toArray_toList, List.setIfInBounds_toArray, List.set_cons_zero, List.set_cons_succ]
  refine anyM_take (i := 3) (oi := { dst := some 16, op := _, type := _, pos := _, after := _, guard := _ }) (v := ?_) rfl (by kernel_rfl) (fun _ _ _ h => h) (Or.inl ⟨by kernel_rfl, ?_⟩) hS0 ?_
  rotate_left 1
  · (intro w hSw; (try dsimp only at hSw); go_simp; try with_reducible rfl)
  try simp only [Act.put, Array.toArray_toList, List.setIfInBounds_toArray, List.set_cons_zero, List.set_cons_succ]
  refine anyM_take (i := 5) (oi := { dst := some 18, op := _, type := _, pos := _, after := _, guard := _ }) (v := ?_) rfl (by kernel_rfl) (fun _ _ _ h => h) (Or.inl ⟨by kernel_rfl, ?_⟩) hS0 ?_
  rotate_left 1
  · (intro w hSw; (try dsimp only at hSw); go_simp; try with_reducible rfl)
  try simp only [Act.put, Array.toArray_toList, List.setIfInBounds_toArray, List.set_cons_zero, List.set_cons_succ]
  refine anyM_take (i := 6) (oi := { dst := some 19, op := _, type := _, pos := _, after := _, guard := _ }) (v := ?_) rfl (by kernel_rfl) (fun _ _ _ h => h) (Or.inl ⟨by kernel_rfl, ?_⟩) hS0 ?_
  rotate_left 1
  · (intro w hSw; (try dsimp only at hSw); go_simp; try with_reducible rfl)
  try simp only [Act.put, Array.toArray_toList, List.setIfInBounds_toArray, List.set_cons_zero, List.set_cons_succ]
  refine anyM_take (i := 7) (oi := { dst := some 20, op := _, type := _, pos := _, after := _, guard := _ }) (v := _) rfl (by kernel_rfl) (fun _ _ _ h => h) (yieldsIf_look (by kernel_rfl) _ _ rfl rfl rfl (fun w' h => HLK.out w' h.2.2.2)) hS0 ?_
  try simp only [Act.put, Array.toArray_toList, List.setIfInBounds_toArray, List.set_cons_zero, List.set_cons_succ]
  refine anyM_one (i := 4) (by kernel_rfl) rfl (fun K hK => ?_)
  go_simp
  have hS1 := hS0
  have hb5 := below_alloc (Below.refl w5.heap.size w5) (.cells #[.int .i64 node] 3)
  have HLIT := Lib.hid (World.ownsRow_lit (base := w5.heap.size) (size := 1) (e := 3) w5 #[.int .i64 node] 1 (Nat.le_refl _) (by unfold maxLen; omega) rfl)
  have HSRC := Lib.hid (own_src (own_below HOI.out.1 hb5) rfl)
  have HG5 := Lib.hid (World.grownBy_alloc w5 (.cells #[.int .i64 node] 3) ((Value.slice AV zs.length cV).ownBlock))
  have HB5 := Lib.hid hb5
  have hS0 : (fun w' : World => w'.cell? ⟨gE, 0, none⟩ = some (.map (some M)) ∧ w'.cell? ⟨gD, 0, none⟩ = some (.int .i64 (en : Nat)) ∧ w'.cell? ⟨gf, 1, none⟩ = some (.int .i64 node) ∧ w'.heap[M]? = w5.heap[M]?) (w5.alloc (.cells #[.int .i64 node] 3)) := ⟨(hb5.cell (p := ⟨gE, 0, none⟩) HP3.out.map.lt).trans hS1.1, (hb5.cell (p := ⟨gD, 0, none⟩) HGD.out.lt).trans hS1.2.1, (hb5.cell (p := ⟨gf, 1, none⟩) HGF.out.lt).trans hS1.2.2.1, hb5.block M HGB.out.2.1⟩
  clear hb5
  refine hK.out _ _ (fun _ => hS0) ?_
  clear hK K
  try simp only [Act.put, Array.toArray_toList, List.setIfInBounds_toArray, List.set_cons_zero, List.set_cons_succ]
  refine anyM_one (i := 8) (by kernel_rfl) rfl (fun K hK => ?_)
  rw [if_pos (by kernel_rfl)]
  refine wp_append_any _ _ 44 rfl w5.heap.size 3 iI (.int .i64 0) 1 8 Tryz.underlying44 hiI hzI0 hzI1 hzI2 rfl (by decide) (.slice (some ⟨w5.heap.size, 0, none⟩) 1 1) 1 [.int .i64 node] rfl HLIT.out AV zs.length cV (zs.map (Value.int .i64)) rfl (by rw [List.length_map]; omega) HSRC.out (by intro u hu; obtain ⟨z, _, rfl⟩ := List.mem_map.1 hu; rfl) (by unfold maxLen; omega) (by omega) (by simp) ?_
  intro A7 c7 w6 ho6 hg6 hat6
  have hb6 := Below.grown HB5.out hg6 HB5.out.size (fun k hk => by injection hk with hk; subst hk; exact Nat.le_refl _)
  have HG6 := Lib.hid (HG5.out.andThen hg6 (fun j hj => .inl (by injection hj with hj; subst hj; exact Nat.le_refl _)))
  have HB6 := Lib.hid hb6
  have HAT := Lib.hid hat6
  have HOI6 : Hid (w6.ownsInts (M + 1) 3 .i64 (.slice A7 (1 + zs.length) c7) (node :: zs)) := by
    show World.ownsInts _ _ _ _ _ _
    have e : (node :: zs).length = 1 + zs.length := by rw [List.length_cons]; omega
    refine ⟨by rw [e]; exact own_baseP ho6 HGB.out.2.1, fun z hz => ?_⟩
    rcases List.mem_cons.1 hz with rfl | hz
    · exact HNO.out
    · exact HOI.out.2 z hz
  have hS0 : (fun w' : World => w'.cell? ⟨gE, 0, none⟩ = some (.map (some M)) ∧ w'.cell? ⟨gD, 0, none⟩ = some (.int .i64 (en : Nat)) ∧ w'.cell? ⟨gf, 1, none⟩ = some (.int .i64 node) ∧ w'.heap[M]? = w5.heap[M]?) w6 := ⟨(hb6.cell (p := ⟨gE, 0, none⟩) HP3.out.map.lt).trans hS1.1, (hb6.cell (p := ⟨gD, 0, none⟩) HGD.out.lt).trans hS1.2.1, (hb6.cell (p := ⟨gf, 1, none⟩) HGF.out.lt).trans hS1.2.2.1, hb6.block M HGB.out.2.1⟩
  clear ho6 hg6 hat6 hb6 HLIT HSRC HG5 HB5
  change K (Act.put _ (some 21) _) _
  refine hK.out _ _ (fun _ => hS0) ?_
  clear hK K
  try simp only [Act.put, Array.toArray_toList, List.setIfInBounds_toArray, List.set_cons_zero, List.set_cons_succ]
  refine anyM_one (i := 9) (by kernel_rfl) rfl (fun K hK => ?_)
  rw [if_pos (by kernel_rfl)]
  refine wp_mapUpdate_back _ _ _ rfl HBACK.out rfl rfl rfl HG6.out HOI6.out (by rw [List.length_cons]; omega) (HAT.out.elim (fun h => .inr ⟨_, h, Nat.le_refl _⟩) (fun h => .inr ⟨_, h, by simp⟩)) ?_
  intro w7 hgr7 hg7
  have HP7 := Lib.hid (HP3.out.stored HB6.out hg7 hgr7 (ends_put HP3.out.ends HGB.out.2.2 HOI6.out))
  clear hgr7 hg7
  change K (Act.put _ none undef) _
  refine hK.out _ _ (fun h => late_no h (by kernel_rfl)) ?_
  clear hK K
  try simp only [Act.put, Array.toArray_toList, List.setIfInBounds_toArray, List.set_cons_zero, List.set_cons_succ]
  refine anyM_done (by kernel_rfl) ?_ _
  refine NoPanic.normal ?_
  go_wp2_with fail
  go_end0
  rw [← HZ.out]
  refine ⟨rfl, ⟨A9, c9, _, (HP7.out).1⟩, HB3.out.trans HP7.out.2.2, HS3.out.trans HP7.out.2.1⟩
end Go.Proofs.YtkmmlcnoeeaekaaGreatDoor
