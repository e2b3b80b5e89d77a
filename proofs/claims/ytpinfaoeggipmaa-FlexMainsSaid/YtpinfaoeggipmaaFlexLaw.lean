/- The walk of FlexRows. -/
import Derived.Test.YtpinfaoeggipmaaFlexG
namespace Go.Proofs.Ytpinfaoeggipmaa
open Go.RowKit
set_option linter.unusedVariables false
set_option linter.unusedSimpArgs false
attribute [local go_sem high] run_min2 run_max2

theorem rowsGo_len (room gap : Int) (wraps : Bool) : ∀ (l : List FlexV) (sum : Int) (out : List Int), (rowsGo room gap wraps l sum out).length ≤ out.length + l.length
  | [], _, out => by simp [rowsGo]
  | x :: l, sum, out => by
    by_cases h : out.length = 0 ∨ (wraps = true ∧ room < sum + gap + long (fxb x) + (fxb x).e)
    · rw [rowsGo_new h]
      have := rowsGo_len room gap wraps l (long (fxb x) + (fxb x).e) (out ++ [1])
      simp at this ⊢; omega
    · rw [rowsGo_more h]
      have := rowsGo_len room gap wraps l (sum + gap + long (fxb x) + (fxb x).e) (incLast out)
      have h2 := incLast_len out (by omega)
      simp at this ⊢; omega
theorem ints_flex : ∀ (n : Nat) (zs : List Int), zs.length = n * 6 → ∃ l : List FlexV, l.length = n ∧ l.flatMap flexF = zs.map (Value.int .i64)
  | 0, zs, h => ⟨[], rfl, by cases zs; rfl; simp at h⟩
  | n + 1, zs, h => by
    match zs, h with
    | a :: b :: c :: d :: e :: f :: r, h =>
      obtain ⟨l, h1, h2⟩ := ints_flex n r (by simp at h; omega)
      exact ⟨⟨a, b, c, d, e, f⟩ :: l, by simp [h1], by rw [List.flatMap_cons, h2]; rfl⟩
    | [], h => simp at h
    | [_], h => simp at h; omega
    | [_, _], h => simp at h; omega
    | [_, _, _], h => simp at h; omega
    | [_, _, _, _], h => simp at h; omega
    | [_, _, _, _, _], h => simp at h; omega
set_option maxRecDepth 100000 in
set_option maxHeartbeats 1000000 in
theorem flexRows_walk (W : World) (room : Int) (w0 : (Lit.int .i64 room).wf = true) (gap : Int) (w1 : (Lit.int .i64 gap).wf = true) (a : Option Addr) (len cap : Nat) (zs : List Int) (hz : zs.length = len * 6) (hh : Holds W W.heap.size a (zs.map (Value.int .i64))) (hr : len * Try.prog.bytesOf 95 ≤ 140737488351232) (hc : len ≤ cap) (hm : cap ≤ maxLen) (hw : ∀ z ∈ zs, (Lit.int .i64 z).wf = true) (wraps : Bool) :
    Calls Try.prog 13 #[.int .i64 room, .int .i64 gap, .slice a len cap, .bool wraps] W fun e w' => e = .returned (.bool true) ∧ Below W.heap.size W w' := by
  unfold maxLen at hm
  obtain ⟨l, hl, hle⟩ := ints_flex len zs hz
  rw [← hle] at hh
  obtain ⟨m, hmm⟩ : ∃ m, m = min len 50 := ⟨_, rfl⟩
  have hm1 : min (len : Int) 50 = (m : Int) := by omega
  have hm2 : m ≤ cap := by omega
  have hm3 : m ≤ 50 := by omega
  have hm4 : (0 : Int) ≤ (m : Int) := by omega
  have hL : (l.take m).length = m := by rw [List.length_take]; omega
  have hT := flexs_taken l W W.heap.size a m hh
  have hbel := Below.refl W.heap.size W
  have H1 := Lib.hid (fun (w : World) (hb : Below W.heap.size W w) => rows_calls room gap wraps a m cap W.heap.size (l.take m) w hL (hT.below hb (Nat.le_refl _)) hb.size (by omega))
  have H2 := Lib.hid (fun (w : World) (hb : Below W.heap.size W w) => rrows_calls room gap wraps a m cap W.heap.size (l.take m) w hL (hT.below hb (Nat.le_refl _)) hb.size (by omega))
  have hlen := rowsGo_len (cut room) (max 0 (cut gap)) wraps (l.take m) 0 []
  rw [hL] at hlen
  obtain ⟨R, hR⟩ : ∃ R, R = rowsGo (cut room) (max 0 (cut gap)) wraps (l.take m) 0 [] := ⟨_, rfl⟩
  rw [← hR] at H1 H2 hlen
  have hlen2 : R.length ≤ 50 := by simp at hlen; omega
  have HM := Lib.hid hm1
  clear hR hT hL hl hh hmm hm1 hw hz hr hle hlen w0 w1
  go_enter Try.func13, Try.ntmps13
  have hm1 := HM.out
  go_wp2_with (first | (go_at_call 51; refine (flexed_calls _).mono ?_; rintro e w3 ⟨rfl, hb3⟩; have hbel := below_then hbel hb3) | (go_at_call 54; refine (H1.out _ hbel).mono ?_; rintro e w4 ⟨v, rfl, hv, hb4⟩; obtain ⟨A1, c1, rfl⟩ := own_open hv; have hbel := below_then hbel hb4; have R1 := Lib.hid (Holds.of_own hv); clear hv) | (go_at_call 55; refine (H2.out _ hbel).mono ?_; rintro e w5 ⟨v2, rfl, hv2, hb5⟩; obtain ⟨A2, c2, rfl⟩ := own_open hv2; have hbel := below_then hbel hb5; have R2 := Lib.hid (Holds.of_own hv2); have R3 := Lib.hid (R1.out.below hb5 (Nat.le_refl _)); clear hv2) | (go_at_call 27; refine (eqInt_calls _ _ _ _ _ _ _ R _ rfl R3.out R2.out (by omega)).mono ?_; rintro e w' ⟨rfl, rfl⟩))
  go_ret
  exact ⟨rfl, hbel⟩
end Go.Proofs.Ytpinfaoeggipmaa
