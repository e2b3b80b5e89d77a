/- Contracts of style.Inherits and style.Initial. -/
import Derived.Test.YtpamfhplklhnpaaDoorLooksPlain
import Derived.Outline
namespace Go.Proofs.YtpamfhplklhnpaaDoor
open Go.RowKit
set_option linter.unusedVariables false
set_option linter.unusedSimpArgs false

theorem inh_num (p : Nat) : inhP p = (p == 33 || (p == 35 || (p == 37 || (p == 38 || (p == 39 || (p == 40 || (p == 41 || (p == 43 || (p == 44 || (p == 56 || (p == 57 || p == 58))))))))))) := by
  simp only [inhP, List.contains_cons, List.contains_nil, Bool.or_false]
theorem inherits_at (i : Fin 59) (w : World) : Calls Tryd.prog 36 #[.int .i64 (i.val : Nat)] w fun e w' => e = .returned (.bool (inhP i.val)) ∧ w = w' := by
  obtain ⟨i, hi⟩ := i
  simp only
  rcases (show i = 33 ∨ i = 35 ∨ i = 37 ∨ i = 38 ∨ i = 39 ∨ i = 40 ∨ i = 41 ∨ i = 43 ∨ i = 44 ∨ i = 56 ∨ i = 57 ∨ i = 58 ∨ (i ≠ 33 ∧ i ≠ 35 ∧ i ≠ 37 ∧ i ≠ 38 ∧ i ≠ 39 ∧ i ≠ 40 ∧ i ≠ 41 ∧ i ≠ 43 ∧ i ≠ 44 ∧ i ≠ 56 ∧ i ≠ 57 ∧ i ≠ 58) by omega) with rfl | rfl | rfl | rfl | rfl | rfl | rfl | rfl | rfl | rfl | rfl | rfl | ⟨h1, h2, h3, h4, h5, h6, h7, h8, h9, h10, h11, h12⟩
  all_goals try
    go_enter Tryd.func36, Tryd.ntmps36
    go_wp2_with fail
    go_ret
    exact ⟨rfl, rfl⟩
  · have e : inhP i = false := by rw [inh_num]; simp [*]
    rw [e]
    have d1 : ((i : Int) == 33) = false := by simp; omega
    have d2 : ((i : Int) == 35) = false := by simp; omega
    have d3 : ((i : Int) == 37) = false := by simp; omega
    have d4 : ((i : Int) == 38) = false := by simp; omega
    have d5 : ((i : Int) == 39) = false := by simp; omega
    have d6 : ((i : Int) == 40) = false := by simp; omega
    have d7 : ((i : Int) == 41) = false := by simp; omega
    have d8 : ((i : Int) == 43) = false := by simp; omega
    have d9 : ((i : Int) == 44) = false := by simp; omega
    have d10 : ((i : Int) == 56) = false := by simp; omega
    have d11 : ((i : Int) == 57) = false := by simp; omega
    have d12 : ((i : Int) == 58) = false := by simp; omega
    clear h1 h2 h3 h4 h5 h6 h7 h8 h9 h10 h11 h12 e
    go_enter Tryd.func36, Tryd.ntmps36
    go_wp2_with fail
    go_ret
    exact ⟨rfl, rfl⟩
theorem inherits_calls (i : Nat) (w : World) (hi : i < 59) : Calls Tryd.prog 36 #[.int .i64 (i : Nat)] w fun e w' => e = .returned (.bool (inhP i)) ∧ w = w' := inherits_at ⟨i, hi⟩ w
theorem new_at (w : World) (cs : Array Value) (t : TypeId) : (w.alloc (.cells cs t)).heap[w.heap.size]? = some (.cells cs t (0, 0)) := by
  simp only [World.alloc, Array.getElem?_push_size]
/-- The table of initial values lies in block 0. -/
def TabAt (w : World) (tbl : List Int) : Prop := tbl.length = 118 ∧ ∀ q, q < 118 → w.cell? ⟨0, q, none⟩ = some (.int .i64 (tbl.getD q 0))
theorem TabAt.below {w w' : World} {tbl : List Int} {B : Nat} (h : TabAt w tbl) (hb : Below B w w') (hB : 0 < B) : TabAt w' tbl := ⟨h.1, fun q hq => (hb.cell (p := ⟨0, q, none⟩) hB).trans (h.2 q hq)⟩
set_option maxRecDepth 100000 in
theorem initial_calls (i : Nat) (w : World) (tbl : List Int) (h : TabAt w tbl) (hw : 0 < w.heap.size) (hi : i < 59) : Calls Tryd.prog 37 #[.int .i64 (i : Nat)] w fun e w' => e = .returned (.agg #[.int .i64 (tbl.getD (i * 2) 0), .int .i64 (tbl.getD (i * 2 + 1) 0)]) ∧ Below w.heap.size w w' := by
  have hbel := below_alloc (Below.refl _ w) (.cells #[.int .i64 0, .int .i64 0] 26)
  have c0 : (w.alloc (.cells #[.int .i64 0, .int .i64 0] 26)).cell? ⟨0, i * 2, none⟩ = some (.int .i64 (tbl.getD (i * 2) 0)) := ((below_alloc (Below.refl _ w) _).cell (p := ⟨0, i * 2, none⟩) hw).trans (h.2 _ (by omega))
  have c1 : (w.alloc (.cells #[.int .i64 0, .int .i64 0] 26)).cell? ⟨0, i * 2 + 1, none⟩ = some (.int .i64 (tbl.getD (i * 2 + 1) 0)) := ((below_alloc (Below.refl _ w) _).cell (p := ⟨0, i * 2 + 1, none⟩) hw).trans (h.2 _ (by omega))
  obtain ⟨a, ha⟩ : ∃ a, a = tbl.getD (i * 2) 0 := ⟨_, rfl⟩
  obtain ⟨b, hb⟩ : ∃ b, b = tbl.getD (i * 2 + 1) 0 := ⟨_, rfl⟩
  rw [← ha] at c0
  rw [← hb] at c1
  rw [← ha, ← hb]
  clear ha hb h
  have h1 : ¬ (59 : Int) ≤ (i : Int) := by omega
  go_enter Tryd.func37, Tryd.ntmps37
  go_wp2_with fail
  have hB : (w.alloc (.cells #[.int .i64 a, .int .i64 b] 26)).heap[w.heap.size]? = some (.cells #[.int .i64 a, .int .i64 b] 26 (0, 0)) := new_at w _ _
  exact bodyPost_ret (v := .agg #[.int .i64 a, .int .i64 b]) (results_cell_row Tryd.results37 _ _ w.heap.size 26 _ (0, 0) _ rfl hB Tryd.underlying26 rfl (by kernel_rfl)) rfl ⟨rfl, below_alloc (Below.refl _ _) _⟩
end Go.Proofs.YtpamfhplklhnpaaDoor
