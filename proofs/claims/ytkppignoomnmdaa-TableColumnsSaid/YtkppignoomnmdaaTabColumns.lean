/- The walk of TableColumns. -/
import Derived.Test.YtkppignoomnmdaaTabT
import Derived.Test.YtkppignoomnmdaaStabE
import Derived.Test.YtkppignoomnmdaaRColB
import Derived.Test.YtkppignoomnmdaaOpenTab
namespace Go.Proofs.Ytkppignoomnmdaa
open Go.RowKit
set_option linter.unusedVariables false
set_option linter.unusedSimpArgs false
attribute [local go_sem high] run_min2 run_max2

theorem RowsAt.take {w : World} {B : Nat} {A : Option Addr} {rs : List RowV} (h : RowsAt w B A rs) (m : Nat) : RowsAt w B A (rs.take m) := fun i hi => by
  have h1 : i < m := by rw [List.length_take] at hi; omega
  have h2 : i < rs.length := by rw [List.length_take] at hi; omega
  have e : rowOf (rs.take m) i = rowOf rs i := by simp [rowOf, List.getD, h1]
  rw [e]
  exact h i h2
theorem columns_all (A : Option Addr) (n c B : Nat) (rs : List RowV) (w : World) (hn : rs.length = n) (h : RowsAt w B A rs) (hB : B ≤ w.heap.size) (hm : n ≤ 1000) :
    Calls Try.prog 37 #[.slice A n c] w fun e w' => ∃ v1 v2, e = .returned (.tuple #[v1, v2]) ∧ w'.ownsRow w.heap.size 3 1 v1 (manyOf (rs.map RowV.cells)) (ints (leastF (bucket (cellsOf (rs.map RowV.cells))) (manyOf (rs.map RowV.cells)))) ∧ w'.ownsRow w.heap.size 3 1 v2 (manyOf (rs.map RowV.cells)) (ints (mostF (bucket (cellsOf (rs.map RowV.cells))) (manyOf (rs.map RowV.cells)))) ∧ Below w.heap.size w w' := by
  have hk : ∀ c ∈ cellsOf (rs.map RowV.cells), 1 ≤ c.span ∧ c.span ≤ 50 := fun c hc => by
    obtain ⟨⟨k0, k1, k2, k3, k4, k5⟩, _⟩ := cellsOf_ok _ c hc
    omega
  have hl := cellsOf_len (rs.map RowV.cells)
  rw [List.length_map, hn] at hl
  exact columns_calls A n c B rs _ w hn h hB hm (sortsTo_bucket _ hk (by omega)) (bucket_len hk) (fun c hc => bucket_mem hc)

theorem eq_pair (A1 A2 A3 A4 : Option Addr) (c1 c2 c3 c4 M : Nat) (w : World)
    (h1 : Calls Try.prog 40 #[.slice A1 M c1, .slice A3 M c3] w fun e w' => e = .returned (.bool true) ∧ w = w') (h2 : Calls Try.prog 40 #[.slice A2 M c2, .slice A4 M c4] w fun e w' => e = .returned (.bool true) ∧ w = w') :
    ∀ (A B : Option Addr) (ca cb : Nat), ((A = A1 ∧ B = A3 ∧ ca = c1 ∧ cb = c3) ∨ (A = A2 ∧ B = A4 ∧ ca = c2 ∧ cb = c4)) → Calls Try.prog 40 #[.slice A M ca, .slice B M cb] w fun e w' => e = .returned (.bool true) ∧ w = w' := by
  rintro A B ca cb (⟨rfl, rfl, rfl, rfl⟩ | ⟨rfl, rfl, rfl, rfl⟩)
  · exact h1
  · exact h2
set_option maxRecDepth 100000 in
set_option maxHeartbeats 1000000 in
theorem tableColumns_walk (W : World) (a : Option Addr) (len cap : Nat) (rs : List RowV) (hz : rs.length = len) (hh : RowsAt W W.heap.size a rs) (hc : len ≤ cap) (hm : cap ≤ maxLen) :
    Calls Try.prog 10 #[.slice a len cap] W fun e w' => e = .returned (.bool true) ∧ Below W.heap.size W w' := by
  unfold maxLen at hm
  obtain ⟨m, hmm⟩ : ∃ m, m = min len 20 := ⟨_, rfl⟩
  have hm1 : min (len : Int) 20 = (m : Int) := by omega
  have hm2 : m ≤ cap := by omega
  have hm3 : m ≤ 20 := by omega
  have hm4 : (0 : Int) ≤ (m : Int) := by omega
  have hT := hh.take m
  have hL : (rs.take m).length = m := by rw [List.length_take]; omega
  have hbel := Below.refl W.heap.size W
  have H1 := Lib.hid (fun (w : World) (hb : Below W.heap.size W w) => columns_all a m cap W.heap.size (rs.take m) w hL (hT.below hb (Nat.le_refl _)) hb.size (by omega))
  have H2 := Lib.hid (fun (w : World) (hb : Below W.heap.size W w) => rcolumns_calls a m cap W.heap.size (rs.take m) w hL (hT.below hb (Nat.le_refl _)) hb.size (by omega))
  obtain ⟨RL, hRL⟩ : ∃ R, R = leastF (bucket (cellsOf ((rs.take m).map RowV.cells))) (manyOf ((rs.take m).map RowV.cells)) := ⟨_, rfl⟩
  obtain ⟨RM, hRM⟩ : ∃ R, R = mostF (bucket (cellsOf ((rs.take m).map RowV.cells))) (manyOf ((rs.take m).map RowV.cells)) := ⟨_, rfl⟩
  have l1 : (leastF (bucket (cellsOf ((rs.take m).map RowV.cells))) (manyOf ((rs.take m).map RowV.cells))).length = manyOf ((rs.take m).map RowV.cells) := by simp [leastF, fnL]
  have l2 : (mostF (bucket (cellsOf ((rs.take m).map RowV.cells))) (manyOf ((rs.take m).map RowV.cells))).length = manyOf ((rs.take m).map RowV.cells) := by simp [mostF, fnL]
  have l3 := manyOf_le ((rs.take m).map RowV.cells)
  rw [← hRL] at l1
  rw [← hRM] at l2
  rw [← hRL, ← hRM] at H1 H2
  obtain ⟨M, hM⟩ : ∃ M, M = manyOf ((rs.take m).map RowV.cells) := ⟨_, rfl⟩
  rw [← hM] at H1 H2 l1 l2 l3
  have HM := Lib.hid hm1
  have HL1 := Lib.hid l1
  have HL2 := Lib.hid l2
  clear hRL hRM hM hT hL hh hmm hm1 hz l1 l2
  go_enter Try.func10, Try.ntmps10
  have hm1 := HM.out
  go_wp2_with (first | (go_at_call 37; refine (H1.out _ hbel).mono ?_; rintro e w4 ⟨v1, v2, rfl, hv1, hv2, hb4⟩; obtain ⟨A1, c1, rfl⟩ := own_open hv1; obtain ⟨A2, c2, rfl⟩ := own_open hv2; have hbel := below_then hbel hb4; have P1 := Lib.hid (Holds.of_own hv1); have P2 := Lib.hid (Holds.of_own hv2); clear hv1 hv2) | (go_at_call 38; refine (H2.out _ hbel).mono ?_; rintro e w5 ⟨v3, v4, rfl, hv3, hv4, hb5⟩; obtain ⟨A3, c3, rfl⟩ := own_open hv3; obtain ⟨A4, c4, rfl⟩ := own_open hv4; have hbel := below_then hbel hb5; have Q1 := Lib.hid (Holds.of_own hv3); have Q2 := Lib.hid (Holds.of_own hv4); have P3 := Lib.hid (P1.out.below hb5 (Nat.le_refl _)); have P4 := Lib.hid (P2.out.below hb5 (Nat.le_refl _)); clear hv3 hv4) | (go_at_call 39; refine (tabled_calls _).mono ?_; rintro e w3 ⟨rfl, hb3⟩; have hbel := below_then hbel hb3; have E1 := Lib.hid (eqInt_calls A1 A3 M c1 c3 _ _ RL w3 HL1.out (P3.out.below hb3 hb5.size) (Q1.out.below hb3 (Nat.le_refl _)) (by omega)); have E2 := Lib.hid (eqInt_calls A2 A4 M c2 c4 _ _ RM w3 HL2.out (P4.out.below hb3 hb5.size) (Q2.out.below hb3 (Nat.le_refl _)) (by omega)); have HE := Lib.hid (eq_pair A1 A2 A3 A4 c1 c2 c3 c4 M w3 E1.out E2.out)) | (go_at_call 40; refine (HE.out _ _ _ _ (by first | exact Or.inl ⟨rfl, rfl, rfl, rfl⟩ | exact Or.inr ⟨rfl, rfl, rfl, rfl⟩)).mono ?_; rintro e w' ⟨rfl, rfl⟩))
  go_ret
  exact ⟨rfl, hbel⟩
end Go.Proofs.Ytkppignoomnmdaa
