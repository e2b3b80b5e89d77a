/- The walk of FlexSpread. -/
import Derived.Test.YtpinfaoeggipmaaFlexF
import Derived.Test.YtpinfaoeggipmaaSpreadC
namespace Go.Proofs.Ytpinfaoeggipmaa
open Go.RowKit
set_option linter.unusedVariables false
set_option linter.unusedSimpArgs false
set_option maxRecDepth 100000 in
set_option maxHeartbeats 1000000 in
theorem flexSpread_walk (W : World) (mode : Int) (w0 : (Lit.int .i64 mode).wf = true) (free : Int) (w1 : (Lit.int .i64 free).wf = true) (n : Int) (w2 : (Lit.int .i64 n).wf = true) :
    Calls Try.prog 14 #[.int .i64 mode, .int .i64 free, .int .i64 n] W fun e w' => e = .returned (.bool true) ∧ Below W.heap.size W w' := by
  have hbel := Below.refl W.heap.size W
  have H1 := Lib.hid (fun (w : World) => spread_calls mode free n w)
  have H2 := Lib.hid (fun (w : World) => rspread_calls mode free n w)
  have hlen := spreadF_len mode free n
  obtain ⟨R, hR⟩ : ∃ R, R = spreadF mode free n := ⟨_, rfl⟩
  rw [← hR] at H1 H2 hlen
  clear hR w0 w1 w2
  go_enter Try.func14, Try.ntmps14
  go_wp2_with (first | (go_at_call 51; refine (flexed_calls _).mono ?_; rintro e w3 ⟨rfl, hb3⟩; have hbel := below_then hbel hb3) | (go_at_call 56; refine (H1.out _).mono ?_; rintro e w4 ⟨v, rfl, hv, hb4⟩; obtain ⟨A1, c1, rfl⟩ := own_open hv; have hbel := below_then hbel hb4; have R1 := Lib.hid (Holds.of_own hv); clear hv) | (go_at_call 57; refine (H2.out _).mono ?_; rintro e w5 ⟨v2, rfl, hv2, hb5⟩; obtain ⟨A2, c2, rfl⟩ := own_open hv2; have hbel := below_then hbel hb5; have R2 := Lib.hid (Holds.of_own hv2); have R3 := Lib.hid (R1.out.below hb5 (Nat.le_refl _)); clear hv2) | (go_at_call 27; refine (eqInt_calls _ _ _ _ _ _ _ R _ rfl R3.out R2.out (by omega)).mono ?_; rintro e w' ⟨rfl, rfl⟩))
  go_ret
  exact ⟨rfl, hbel⟩
end Go.Proofs.Ytpinfaoeggipmaa
