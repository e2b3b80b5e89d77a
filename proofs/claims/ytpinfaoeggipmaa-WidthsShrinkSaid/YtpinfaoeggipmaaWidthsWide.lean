/- WidthsWide. -/
import Derived.Test.YtpinfaoeggipmaaRWide
namespace Go.Proofs.Ytpinfaoeggipmaa
open Go.RowKit
set_option linter.unusedVariables false
set_option linter.unusedSimpArgs false
attribute [local go_sem high] run_min2 run_max2

def ml4 (zs : List Int) (p r : Int) : Int := ab false (len4 zs p r)
def wN (zs : List Int) (r : Int) : Int := toldN zs r (rimW zs r) true 5 7 9 (r - ml4 zs 14 r - ml4 zs 12 r - rimW zs r)
def wRest (zs : List Int) (r : Int) : Int := r - wN zs r - rimW zs r - ml4 zs 14 r - ml4 zs 12 r
def wTuple (zs : List Int) (r : Int) : Value := .tuple #[.int .i64 (cut (wideL (stK zs 14) (stK zs 12) (ml4 zs 14 r) (wRest zs r))), .int .i64 (cut (wN zs r)), .int .i64 (cut (wideR (stK zs 14) (stK zs 12) (ml4 zs 12 r) (wRest zs r)))]
theorem rimW_bd (zs : List Int) (r : Int) : 0 ≤ rimW zs r ∧ rimW zs r ≤ 67108864 := by
  have h1 := abt_bd (len4_bd zs 22 r)
  have h2 := abt_bd (len4_bd zs 20 r)
  have h3 := abt_bd (len4_bd zs 18 r)
  have h4 := abt_bd (len4_bd zs 16 r)
  unfold rimW; omega
theorem ml4_bd (zs : List Int) (p r : Int) : -16777216 ≤ ml4 zs p r ∧ ml4 zs p r ≤ 16777216 := by
  have := len4_bd zs p r
  unfold ml4 ab; simpa using this
theorem ml4_auto (zs : List Int) (p : Nat) (r : Int) (hp : p < 59) (h : stK zs p = 6) : ml4 zs p r = 0 := by
  show len4 zs p r = 0
  unfold len4; rw [if_pos (by omega), Int.toNat_natCast, h]; simp [ofN]
theorem wN_bd (zs : List Int) (r : Int) (h0 : -16777216 ≤ r) (h1 : r ≤ 16777216) : 0 ≤ wN zs r ∧ wN zs r ≤ 134217728 := by
  have a := rimW_bd zs r
  have b := ml4_bd zs 14 r
  have c := ml4_bd zs 12 r
  exact toldN_bd _ _ _ _ _ _ _ _ a.1 a.2 (by omega)
theorem wide_calls (zs : List Int) (room : Int) (w : World) (hz : zs.length = 118) :
    Calls Try.prog 33 #[.agg (sty zs), .int .i64 room] w fun e w' => e = .returned (wTuple zs (cut room)) ∧ Below w.heap.size w w' :=
  wide0_calls zs room (cut room) (rimW zs (cut room)) (ml4 zs 11 (cut room)) (ml4 zs 12 (cut room)) (ml4 zs 13 (cut room)) (ml4 zs 14 (cut room)) (wN zs (cut room)) (stK zs 14) (stK zs 12) w hz rfl
    (fun w => across_calls zs (cut room) w hz) (fun w => told_calls zs (cut room) _ true 5 7 9 _ w hz (by omega) (by omega) (by omega) (by omega) (by omega) (by omega) (rimW_bd _ _).1 (rimW_bd _ _).2)
    (sty_at zs 28 (by omega)) (sty_at zs 24 (by omega)) (cut_lo _) (cut_hi _) (ml4_bd _ _ _).1 (ml4_bd _ _ _).2 (ml4_bd _ _ _).1 (ml4_bd _ _ _).2 (rimW_bd _ _).1 (rimW_bd _ _).2 (wN_bd _ _ (cut_lo _) (cut_hi _)).1 (wN_bd _ _ (cut_lo _) (cut_hi _)).2
theorem rwide_calls (zs : List Int) (room : Int) (w : World) (hz : zs.length = 118) :
    Calls Try.prog 34 #[.agg (sty zs), .int .i64 room] w fun e w' => e = .returned (wTuple zs (cut room)) ∧ Below w.heap.size w w' :=
  rwide0_calls zs room (cut room) (rimW zs (cut room)) (rimH zs (cut room)) (ml4 zs 11 (cut room)) (ml4 zs 12 (cut room)) (ml4 zs 13 (cut room)) (ml4 zs 14 (cut room)) (wN zs (cut room)) (stK zs 14) (stK zs 12) w hz rfl
    (fun w => rim_calls zs (cut room) w hz) (fun w => redges_calls zs 11 (cut room) false w hz (by omega) (by omega)) (fun w => rbound_calls zs 5 7 9 (cut room) _ _ true w hz (by omega) (by omega) (by omega) (by omega) (by omega) (by omega) (rimW_bd _ _).1 (rimW_bd _ _).2)
    (sty_at zs 28 (by omega)) (sty_at zs 24 (by omega)) (ml4_auto zs 14 _ (by omega)) (ml4_auto zs 12 _ (by omega)) (cut_lo _) (cut_hi _) (ml4_bd _ _ _).1 (ml4_bd _ _ _).2 (ml4_bd _ _ _).1 (ml4_bd _ _ _).2 (rimW_bd _ _).1 (rimW_bd _ _).2 (wN_bd _ _ (cut_lo _) (cut_hi _)).1 (wN_bd _ _ (cut_lo _) (cut_hi _)).2

def zsLit : List Int := (List.range 118).map (fun i => if i = 10 then 2 else if i = 11 then 40 else if i = 24 then 6 else if i = 28 then 6 else 0)
set_option maxRecDepth 100000 in
theorem exec_lit (ρ : Operand → Value) (o : Oper) (x0 x1 x2 : Operand) (w : World) (ho : o.op = .build 38 #[(5, x0), (14, x1), (12, x2)]) (h0 : ρ x0 = .agg #[.int .i64 2, .int .i64 40]) (h1 : ρ x1 = .agg #[.int .i64 6, .int .i64 0]) (h2 : ρ x2 = .agg #[.int .i64 6, .int .i64 0]) :
    (execOp ρ o).run Try.prog w = .ok (.value (.agg (sty zsLit))) w := by
  have hb : (Instr.build 38 #[(5, .agg #[.int .i64 2, .int .i64 40]), (14, .agg #[.int .i64 6, .int .i64 0]), (12, .agg #[.int .i64 6, .int .i64 0])]).run Try.prog w = .ok (.agg (sty zsLit)) w := by kernel_rfl
  unfold execOp
  rw [ho]
  simp only [List.map_toArray, List.map_cons, List.map_nil, h0, h1, h2, Sem.run_bind, hb, Result.andThen_ok, Sem.run_pure]
theorem wide_lit : wTuple zsLit (cut 100) = .tuple #[.int .i64 30, .int .i64 40, .int .i64 30] := by kernel_rfl
set_option maxRecDepth 100000 in
set_option maxHeartbeats 1000000 in
theorem wideFact_calls (w : World) :
    Calls Try.prog 35 #[] w fun e w' => e = .returned (.bool true) ∧ Below w.heap.size w w' := by
  have hc := wide_calls zsLit 100 w (by kernel_rfl)
  rw [wide_lit] at hc
  have HC := Lib.hid hc
  clear hc
  go_enter Try.func35, Try.ntmps35
  go_wp2_with (first | (refine wpList_runTo rfl _ rfl _ _ (exec_lit _ _ _ _ _ _ rfl rfl rfl rfl) ?_; simp only [Act.put, List.setIfInBounds_toArray, List.set_cons_zero, List.set_cons_succ]) | (go_at_call 33; refine HC.out.mono ?_; rintro e w1 ⟨rfl, hb1⟩))
  go_ret
  exact ⟨rfl, hb1⟩

set_option maxRecDepth 100000 in
set_option maxHeartbeats 1000000 in
theorem widthsWide_walk (W : World) (zs : List Int) (hz : zs.length = 118) (hw : ∀ z ∈ zs, (Lit.int .i64 z).wf = true) (room : Int) (hr : (Lit.int .i64 room).wf = true) :
    Calls Try.prog 8 #[.agg (zs.map (Value.int .i64)).toArray, .int .i64 room] W fun e w' => e = .returned (.bool true) ∧ Below W.heap.size W w' := by
  show Calls Try.prog 8 #[.agg (sty zs), .int .i64 room] W _
  have HSZ : Hid ((Try.prog.info? 38).map (·.size) = some (sty zs).size) := by show _ = _; rw [sty_size, hz]; kernel_rfl
  have b0 := Blk.new W 38 (sty zs)
  have hbel := below_alloc (Below.refl _ W) (.cells (sty zs) 38)
  have hcs : ∃ a b c : Int, wTuple zs (cut room) = .tuple #[.int .i64 a, .int .i64 b, .int .i64 c] := ⟨_, _, _, rfl⟩
  obtain ⟨a, b, c, hcs⟩ := hcs
  have HG := Lib.hid (fun w => by have h := wide_calls zs room w hz; rw [hcs] at h; exact h)
  have HR := Lib.hid (fun w => by have h := rwide_calls zs room w hz; rw [hcs] at h; exact h)
  clear hcs hw hr
  go_enter Try.func8, Try.ntmps8
  go_wp2_with (first | (refine wpList_load_row rfl 38 _ rfl W.heap.size rfl 38 (sty zs) (0, 0) _ b0 Try.underlying38 rfl HSZ.out ?_) | (go_at_call 33; refine (HG.out _).mono ?_; rintro e w1 ⟨rfl, hb1⟩; have b0 := b0.below hb1 b0.lt; have hbel := below_then hbel hb1) | (go_at_call 34; refine (HR.out _).mono ?_; rintro e w1 ⟨rfl, hb1⟩; have b0 := b0.below hb1 b0.lt; have hbel := below_then hbel hb1) | (go_at_call 35; refine (wideFact_calls _).mono ?_; rintro e w1 ⟨rfl, hb1⟩; have hbel := below_then hbel hb1))
  go_ret
  exact ⟨rfl, hbel⟩
end Go.Proofs.Ytpinfaoeggipmaa
