/- Contracts of items.Size, High, shift and of the reference's size, Size, LineHigh; the closed fact 'itemed'. -/
import Derived.Test.YtpamfhplklhnpaaDoorStkB
namespace Go.Proofs.YtpamfhplklhnpaaDoor
open Go.RowKit
set_option linter.unusedVariables false
set_option linter.unusedSimpArgs false
attribute [local go_sem high] run_min2 run_max2

theorem wpList_load_rowI {P : Program} {ops : Array Oper} {rest : List Oper} {o : Oper} {a : Act} {w : World} {Q : Exit → Act → World → Prop} (ty : TypeId) (x : Operand) (ho : o.op = .load ty x)
    (g : Nat) (hx : a.eval x = .pointer (some ⟨g, 0, none⟩)) (t : TypeId) (cs : Array Value) (fr : Nat × Nat) (d : TypeDesc) (hg : w.heap[g]? = some (.cells cs t fr))
    (hu : P.underlying ty = some d) (hd : (match d with | .struct _ | .array _ _ => true | _ => false) = true) (hi : (P.info? ty).map (·.size) = some cs.size) (hw : Region.wanted o (yielded ops a.tmps) = true)
    (h : wpList P ops Q rest (a.put o.dst (.agg cs)) w) : wpList P ops Q (o :: rest) a w :=
  BigFrame.wpList_want hw fun _ hK => wp_load_row ty x ho g hx t cs fr d hg hu hd hi (hK _ _ h)

def szN (zs : List Int) : Int := max 0 (cut (stN zs 37))
def highN (zs : List Int) : Int := max 0 (if stK zs 38 = 2 then cut (stN zs 38) else if stK zs 38 = 4 then part (szN zs) (stN zs 38) 1000 else part (szN zs) 5 4)
def shiftN (zs : List Int) : Int := if stK zs 42 = 2 then cut (stN zs 42) else 0
theorem rsz_calls (n : Int) (w : World) : Calls Tryd.prog 22 #[.int .i64 n] w fun e w' => e = .returned (.int .i64 (max 0 (cut n))) ∧ Below w.heap.size w w' := by
  go_enter Tryd.func22, Tryd.ntmps22
  go_wp2_with (go_at_call 29; refine (rcut_calls _ _).mono ?_; rintro e w' ⟨rfl, rfl⟩)
  go_ret
  exact ⟨rfl, Below.refl _ _⟩
section
variable (zs : List Int) (w : World) (hz : zs.length = 118)
include hz
theorem isize_calls : Calls Tryd.prog 21 #[.agg (sty zs)] w fun e w' => e = .returned (.int .i64 (szN zs)) ∧ Below w.heap.size w w' := by
  have c75 : (w.alloc (.cells (sty zs) 28)).cell? ⟨w.heap.size, 75, none⟩ = some (.int .i64 (stN zs 37)) := (new_cell w (sty zs) 28 75).trans (sty_at zs 75 (by omega))
  unfold szN
  obtain ⟨n, hn⟩ : ∃ n, n = stN zs 37 := ⟨_, rfl⟩
  rw [← hn] at c75 ⊢
  clear hn
  go_enter Tryd.func21, Tryd.ntmps21
  go_wp2_with (go_at_call 19; refine (cut_calls _ _).mono ?_; rintro e w' ⟨rfl, rfl⟩)
  go_ret
  exact ⟨rfl, below_alloc (Below.refl _ _) _⟩
theorem rsize_calls : Calls Tryd.prog 24 #[.agg (sty zs)] w fun e w' => e = .returned (.int .i64 (szN zs)) ∧ Below w.heap.size w w' := by
  have c75 : (w.alloc (.cells (sty zs) 28)).cell? ⟨w.heap.size, 75, none⟩ = some (.int .i64 (stN zs 37)) := (new_cell w (sty zs) 28 75).trans (sty_at zs 75 (by omega))
  have hs := fun (n : Int) (w : World) => rsz_calls n w
  unfold szN
  obtain ⟨n, hn⟩ : ∃ n, n = stN zs 37 := ⟨_, rfl⟩
  rw [← hn] at c75 ⊢
  have HS := Lib.hid hs
  have hb := below_alloc (Below.refl w.heap.size w) (.cells (sty zs) 28)
  clear hn hs
  go_enter Tryd.func24, Tryd.ntmps24
  go_wp2_with (go_at_call 22; refine (HS.out _ _).mono ?_; rintro e w' ⟨rfl, hb1⟩)
  go_ret
  exact ⟨rfl, below_then hb hb1⟩
theorem shift_calls : Calls Tryd.prog 60 #[.agg (sty zs)] w fun e w' => e = .returned (.int .i64 (shiftN zs)) ∧ Below w.heap.size w w' := by
  have c84 : (w.alloc (.cells (sty zs) 28)).cell? ⟨w.heap.size, 84, none⟩ = some (.int .i64 (stK zs 42)) := (new_cell w (sty zs) 28 84).trans (sty_at zs 84 (by omega))
  have c85 : (w.alloc (.cells (sty zs) 28)).cell? ⟨w.heap.size, 85, none⟩ = some (.int .i64 (stN zs 42)) := (new_cell w (sty zs) 28 85).trans (sty_at zs 85 (by omega))
  unfold shiftN
  obtain ⟨n, hn⟩ : ∃ n, n = stN zs 42 := ⟨_, rfl⟩
  obtain ⟨k, hk⟩ : ∃ n, n = stK zs 42 := ⟨_, rfl⟩
  rw [← hn] at c85 ⊢
  rw [← hk] at c84 ⊢
  have hb : ∀ o, Below w.heap.size w ((w.alloc (.cells (sty zs) 28)).alloc o) := fun o => below_alloc (below_alloc (Below.refl w.heap.size w) _) _
  clear hn hk
  by_cases h2 : k = 2
  · have q : (k == 2) = true := by simpa using h2
    rw [if_pos h2]
    clear h2
    go_enter Tryd.func60, Tryd.ntmps60
    go_wp2_with (go_at_call 19; refine (cut_calls _ _).mono ?_; rintro e w' ⟨rfl, rfl⟩)
    go_ret
    exact ⟨rfl, hb _⟩
  · have q : (k == 2) = false := by simpa using h2
    rw [if_neg h2]
    clear h2
    go_enter Tryd.func60, Tryd.ntmps60
    go_wp2_with fail
    go_ret
    exact ⟨rfl, hb _⟩
end
end Go.Proofs.YtpamfhplklhnpaaDoor
