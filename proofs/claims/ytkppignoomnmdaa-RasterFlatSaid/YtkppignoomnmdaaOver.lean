/- Contracts of raster.Over and the reference's. -/
import Derived.Test.YtkppignoomnmdaaOverPlain
import Derived.Test.YtkppignoomnmdaaFix
import Derived.Test.YtkppignoomnmdaaMem
import Derived.Deep.QuietTactic
import Derived.BigQuiet
import Derived.Outline
namespace Go.Proofs.Ytkppignoomnmdaa
open Go.RowKit
set_option linter.unusedVariables false
set_option linter.unusedSimpArgs false
attribute [local go_sem high] run_min2 run_max2

theorem and255v (c : Int) : bits .and .i64 c 255 = c % 256 := by
  have h : ((BitVec.ofInt 64 c) &&& (BitVec.ofInt 64 255)).toNat = (c % 256).toNat := by
    rw [BitVec.toNat_and, BitVec.toNat_ofInt, BitVec.toNat_ofInt]
    have e : ((255 : Int) % (2 ^ 64 : Nat)).toNat = 2 ^ 8 - 1 := by decide
    rw [e, Nat.and_two_pow_sub_one_eq_mod]
    omega
  show IntKind.i64.wrap (((BitVec.ofInt 64 c) &&& (BitVec.ofInt 64 255)).toNat : Int) = _
  rw [h, IntKind.wrap_i64]; omega
theorem rpart_any (n : Int) (w : World) :
    Calls Try.prog 68 #[.int .i64 n] w fun e w' => e = .returned (.int .i64 (min (max n 0) 1000)) ∧ w = w' := by
  go_enter Try.func68, Try.ntmps68
  go_wp2_with fail
  go_ret
  exact ⟨rfl, rfl⟩
theorem ret_i {a b : Int} (h : a = b) : Ending.returned (.int .i64 a) = .returned (.int .i64 b) := by rw [h]
theorem rest_calls (n : Int) (w : World) :
    Calls Try.prog 72 #[.int .i64 n, .int .i64 256] w fun e w' => e = .returned (.int .i64 (n % 256)) ∧ w = w' := by
  have hr := rest_eq n 256 (by omega)
  have h1 := Int.lt_tmod_of_pos n (show (0 : Int) < 256 by omega)
  have h2 := Int.tmod_lt_of_pos n (show (0 : Int) < 256 by omega)
  obtain ⟨t, ht⟩ : ∃ t, t = n.tmod 256 := ⟨_, rfl⟩
  obtain ⟨r, hq⟩ : ∃ t, t = n % 256 := ⟨_, rfl⟩
  by_cases h0 : n.tmod 256 < 0
  · have e := hr.1 h0
    have E := Lib.hid e
    clear hr e ht hq
    go_enter Try.func72, Try.ntmps72
    go_wp2_with fail
    go_ret
    exact ⟨ret_i E.out, rfl⟩
  · have e := hr.2 (by omega)
    have E := Lib.hid e
    have h0' : 0 ≤ n.tmod 256 := by omega
    clear hr e ht hq h0
    go_enter Try.func72, Try.ntmps72
    go_wp2_with fail
    go_ret
    exact ⟨ret_i E.out, rfl⟩
theorem tdiv_small (n d : Int) (hd : 256 ≤ d) (h1 : -9223372036854775808 ≤ n) (h2 : n ≤ 9223372036854775807) : -36028797018963968 ≤ n.tdiv d ∧ n.tdiv d ≤ 36028797018963968 := by
  have h : (n.tdiv d).natAbs = n.natAbs / d.natAbs := Int.natAbs_tdiv n d
  have h3 : n.natAbs / d.natAbs ≤ n.natAbs / 256 := Nat.div_le_div_left (by omega) (by omega)
  omega
theorem down_calls (n d : Int) (w : World) (hd : 256 ≤ d) (hd2 : d ≤ 16777216) (h1 : -9223372036854775808 ≤ n) (h2 : n ≤ 9223372036854775807) :
    Calls Try.prog 73 #[.int .i64 n, .int .i64 d] w fun e w' => e = .returned (.int .i64 (n / d)) ∧ w = w' := by
  have hq := tdiv_small n d hd h1 h2
  have hz : (d == 0) = false := by simp; omega
  by_cases h0 : n.tmod d < 0
  · have E := Lib.hid (rdown_down n d (by omega) h0)
    clear h1 h2
    go_enter Try.func73, Try.ntmps73
    go_wp2_with fail
    go_ret
    exact ⟨ret_i (E.out.trans (Int.fdiv_eq_ediv_of_nonneg n (by omega))), rfl⟩
  · have h0' : 0 ≤ n.tmod d := by omega
    have E := Lib.hid (rdown_keep n d (by omega) h0')
    clear h1 h2 h0
    go_enter Try.func73, Try.ntmps73
    go_wp2_with fail
    go_ret
    exact ⟨ret_i (E.out.trans (Int.fdiv_eq_ediv_of_nonneg n (by omega))), rfl⟩
/-- The color after k lanes. -/
def overK (top under n : Int) : Nat → Int
  | 0 => 255
  | k + 1 => overK top under n k + laneV top under (alphaV top n) (2 ^ (8 + 8 * k)) * 2 ^ (8 + 8 * k)
theorem overK_bd (top under n : Int) (k : Nat) (hk : k ≤ 3) : 0 ≤ overK top under n k ∧ overK top under n k < 2 ^ (8 + 8 * k) := by
  have ha := alpha_bd top n
  have h1 := lane_bd top under (alphaV top n) 256 ha.1 ha.2
  have h2 := lane_bd top under (alphaV top n) 65536 ha.1 ha.2
  have h3 := lane_bd top under (alphaV top n) 16777216 ha.1 ha.2
  match k, hk with
  | 0, _ => simp [overK]
  | 1, _ => simp [overK]; omega
  | 2, _ => simp [overK]; omega
  | 3, _ => simp [overK]; omega
theorem over_step (top under acc a u : Int) (i : Nat) (hu : u = 2 ^ i) (hi : i ≤ 24) (h0 : 0 ≤ acc) (h1 : acc < u) (ha0 : 0 ≤ a) (ha1 : a ≤ 255) :
    bits .or .i64 acc (wrap64 (wrap64 ((wrap64 (wrap64 (wrap64 (bits .and .i64 (top / u) 255 * a) + wrap64 (bits .and .i64 (under / u) 255 * wrap64 (255 - a))) + 127)).tdiv 255) * u)) = acc + laneV top under a u * u := by
  have hb := lane_bd top under a u ha0 ha1
  have hm := lane_mid (top / u % 256) (under / u % 256) a (by omega) (by omega) (by omega) (by omega) ha0 ha1
  have hpi : (2 : Int) ^ i ≤ 2 ^ 24 := by exact_mod_cast Nat.pow_le_pow_right (by decide) hi
  have hp : (0 : Int) < 2 ^ i := by exact_mod_cast Nat.two_pow_pos i
  have h24 : (2 : Int) ^ 24 = 16777216 := by decide
  have hl : laneV top under a u = (top / u % 256 * a + under / u % 256 * (255 - a) + 127) / 255 := rfl
  have hlm : laneV top under a u * u ≤ 255 * u := Int.mul_le_mul_of_nonneg_right hb.2 (by omega)
  have hln : 0 ≤ laneV top under a u * u := Int.mul_nonneg hb.1 (by omega)
  rw [and255v, and255v, show wrap64 (255 - a) = 255 - a from by unfold wrap64; omega]
  generalize top / u % 256 * a = P at hm hl ⊢
  generalize under / u % 256 * (255 - a) = Q at hm hl ⊢
  rw [show wrap64 P = P from by unfold wrap64; omega, show wrap64 Q = Q from by unfold wrap64; omega, show wrap64 (P + Q) = P + Q from by unfold wrap64; omega, show wrap64 (P + Q + 127) = P + Q + 127 from by unfold wrap64; omega, Int.tdiv_eq_ediv_of_nonneg (by omega), ← hl]
  rw [show wrap64 (laneV top under a u) = laneV top under a u from by unfold wrap64; omega]
  rw [show wrap64 (laneV top under a u * u) = laneV top under a u * u from by unfold wrap64; omega]
  rw [hu] at h1 ⊢
  exact or_add i hi acc _ h0 h1 (hu ▸ hb.1) (hu ▸ hb.2)
theorem val_i {a b : Int} (h : a = b) : Value.int .i64 a = Value.int .i64 b := by rw [h]
theorem over_k1 (top under n : Int) : bits .or .i64 (overK top under n 0) (wrap64 (wrap64 ((wrap64 (wrap64 (wrap64 (bits .and .i64 (top / 256) 255 * alphaV top n) + wrap64 (bits .and .i64 (under / 256) 255 * wrap64 (255 - alphaV top n))) + 127)).tdiv 255) * 256)) = overK top under n 1 :=
  over_step top under (overK top under n 0) (alphaV top n) 256 8 (by decide) (by decide) (overK_bd top under n 0 (by omega)).1 (Int.lt_of_lt_of_le (overK_bd top under n 0 (by omega)).2 (by decide)) (alpha_bd top n).1 (alpha_bd top n).2
theorem over_k2 (top under n : Int) : bits .or .i64 (overK top under n 1) (wrap64 (wrap64 ((wrap64 (wrap64 (wrap64 (bits .and .i64 (top / 65536) 255 * alphaV top n) + wrap64 (bits .and .i64 (under / 65536) 255 * wrap64 (255 - alphaV top n))) + 127)).tdiv 255) * 65536)) = overK top under n 2 :=
  over_step top under (overK top under n 1) (alphaV top n) 65536 16 (by decide) (by decide) (overK_bd top under n 1 (by omega)).1 (Int.lt_of_lt_of_le (overK_bd top under n 1 (by omega)).2 (by decide)) (alpha_bd top n).1 (alpha_bd top n).2
theorem over_k3 (top under n : Int) : bits .or .i64 (overK top under n 2) (wrap64 (wrap64 ((wrap64 (wrap64 (wrap64 (bits .and .i64 (top / 16777216) 255 * alphaV top n) + wrap64 (bits .and .i64 (under / 16777216) 255 * wrap64 (255 - alphaV top n))) + 127)).tdiv 255) * 16777216)) = overK top under n 3 :=
  over_step top under (overK top under n 2) (alphaV top n) 16777216 24 (by decide) (by decide) (overK_bd top under n 2 (by omega)).1 (Int.lt_of_lt_of_le (overK_bd top under n 2 (by omega)).2 (by decide)) (alpha_bd top n).1 (alpha_bd top n).2
set_option maxHeartbeats 1000000 in
theorem over_calls (top under n : Int) (w : World) :
    Calls Try.prog 35 #[.int .i64 top, .int .i64 under, .int .i64 n] w fun e w' => e = .returned (.int .i64 (overK top under n 3)) ∧ Below w.heap.size w w' := by
  have ha := alpha_bd top n
  have HA := Lib.hid (show wrap64 ((wrap64 (bits BinOp.and IntKind.i64 top 255 * min (max n 0) 1000)).tdiv 1000) = alphaV top n from by
    rw [and255v]
    have h := mul_bd (top % 256) (min (max n 0) 1000) 255 1000 (by omega) (by omega) (by omega) (by omega) (by omega)
    rw [show wrap64 (top % 256 * min (max n 0) 1000) = top % 256 * min (max n 0) 1000 from by unfold wrap64; omega, Int.tdiv_eq_ediv_of_nonneg h.1]
    unfold wrap64 alphaV; omega)
  go_enter Try.func35, Try.ntmps35
  go_wp2_with (go_at_call 68; refine (rpart_any _ _).mono ?_; rintro e w' ⟨rfl, rfl⟩)
  rw [HA.out]
  clear HA
  obtain ⟨al, hal⟩ : ∃ a, a = alphaV top n := ⟨_, rfl⟩
  rw [← hal] at ha ⊢
  have HB := Lib.hid (hal ▸ ha : 0 ≤ alphaV top n ∧ alphaV top n ≤ 255)
  rw [hal]
  clear ha hal
  go_loopw [8, 9] (fun o i wr => ∃ k : Nat, k ≤ 3 ∧ i = .int .i64 (8 + 8 * k : Nat) ∧ o = .int .i64 (overK top under n k) ∧ Below w.heap.size w wr) (fun _ i _ => 32 - (intOf i).toNat)
  case atStart => exact ⟨0, Nat.zero_le _, rfl, rfl, Below.refl _ _⟩
  case round =>
    obtain ⟨k, hk, rfl, rfl, hbel⟩ := hrel
    match k, hk with
    | 0, _ =>
      go_wp2_with fail
      go_quiet (fail)
      go_wp2_with fail
      go_roundw
      case rel => exact ⟨1, by omega, rfl, val_i (over_k1 top under n), below_drewN hbel _⟩
      case measure => simp [intOf]
    | 1, _ =>
      go_wp2_with fail
      go_quiet (fail)
      go_wp2_with fail
      go_roundw
      case rel => exact ⟨2, by omega, rfl, val_i (over_k2 top under n), below_drewN hbel _⟩
      case measure => simp [intOf]
    | 2, _ =>
      go_wp2_with fail
      go_quiet (fail)
      go_wp2_with fail
      go_roundw
      case rel => exact ⟨3, by omega, rfl, val_i (over_k3 top under n), below_drewN hbel _⟩
      case measure => simp [intOf]
    | 3, _ =>
      go_wp2_with fail
      go_ret
      exact ⟨rfl, hbel⟩
theorem down_pair (top under d x : Int) (w : World) (hd : 256 ≤ d) (hd2 : d ≤ 16777216) (hT : -9223372036854775808 ≤ top ∧ top ≤ 9223372036854775807) (hU : -9223372036854775808 ≤ under ∧ under ≤ 9223372036854775807) (hx : x = top ∨ x = under) :
    Calls Try.prog 73 #[.int .i64 x, .int .i64 d] w fun e w' => e = .returned (.int .i64 (x / d)) ∧ w = w' := by
  rcases hx with rfl | rfl
  · exact down_calls _ d w hd hd2 hT.1 hT.2
  · exact down_calls _ d w hd hd2 hU.1 hU.2
theorem rover_step (top under acc a u : Int) (hu : 0 ≤ u ∧ u ≤ 16777216) (h0 : 0 ≤ acc) (h1 : acc ≤ 1099511627776) (ha0 : 0 ≤ a) (ha1 : a ≤ 255) :
    wrap64 (acc + wrap64 (wrap64 ((wrap64 (wrap64 (wrap64 (top / u % 256 * a) + wrap64 (under / u % 256 * wrap64 (255 - a))) + 127)).tdiv 255) * u)) = acc + laneV top under a u * u := by
  have hb := lane_bd top under a u ha0 ha1
  have hm := lane_mid (top / u % 256) (under / u % 256) a (by omega) (by omega) (by omega) (by omega) ha0 ha1
  have hl : laneV top under a u = (top / u % 256 * a + under / u % 256 * (255 - a) + 127) / 255 := rfl
  have hlm : laneV top under a u * u ≤ 255 * u := Int.mul_le_mul_of_nonneg_right hb.2 (by omega)
  have hln : 0 ≤ laneV top under a u * u := Int.mul_nonneg hb.1 (by omega)
  rw [show wrap64 (255 - a) = 255 - a from by unfold wrap64; omega]
  generalize top / u % 256 * a = P at hm hl ⊢
  generalize under / u % 256 * (255 - a) = Q at hm hl ⊢
  rw [show wrap64 P = P from by unfold wrap64; omega, show wrap64 Q = Q from by unfold wrap64; omega, show wrap64 (P + Q) = P + Q from by unfold wrap64; omega, show wrap64 (P + Q + 127) = P + Q + 127 from by unfold wrap64; omega, Int.tdiv_eq_ediv_of_nonneg (by omega), ← hl]
  rw [show wrap64 (laneV top under a u) = laneV top under a u from by unfold wrap64; omega]
  rw [show wrap64 (laneV top under a u * u) = laneV top under a u * u from by unfold wrap64; omega]
  unfold wrap64; omega
def rovU : Nat → Int
  | 0 => 16777216
  | 1 => 65536
  | _ => 256
def rovK (top under n : Int) : Nat → Int
  | 0 => 0
  | k + 1 => rovK top under n k + laneV top under (alphaV top n) (rovU k) * rovU k
theorem rovK_bd (top under n : Int) (k : Nat) (hk : k ≤ 3) : 0 ≤ rovK top under n k ∧ rovK top under n k ≤ 1099511627776 := by
  have ha := alpha_bd top n
  have h1 := lane_bd top under (alphaV top n) 256 ha.1 ha.2
  have h2 := lane_bd top under (alphaV top n) 65536 ha.1 ha.2
  have h3 := lane_bd top under (alphaV top n) 16777216 ha.1 ha.2
  match k, hk with
  | 0, _ => simp [rovK]
  | 1, _ => simp [rovK, rovU]; omega
  | 2, _ => simp [rovK, rovU]; omega
  | 3, _ => simp [rovK, rovU]; omega
theorem rov_end (top under n : Int) : wrap64 (rovK top under n 3 + 255) = overK top under n 3 := by
  have ha := alpha_bd top n
  have h1 := lane_bd top under (alphaV top n) 256 ha.1 ha.2
  have h2 := lane_bd top under (alphaV top n) 65536 ha.1 ha.2
  have h3 := lane_bd top under (alphaV top n) 16777216 ha.1 ha.2
  have hr : rovK top under n 3 = 0 + laneV top under (alphaV top n) 16777216 * 16777216 + laneV top under (alphaV top n) 65536 * 65536 + laneV top under (alphaV top n) 256 * 256 := rfl
  have ho : overK top under n 3 = 255 + laneV top under (alphaV top n) 256 * 256 + laneV top under (alphaV top n) 65536 * 65536 + laneV top under (alphaV top n) 16777216 * 16777216 := by simp [overK]
  rw [hr, ho]; unfold wrap64; omega
theorem rov_k1 (top under n : Int) : wrap64 (rovK top under n 0 + wrap64 (wrap64 ((wrap64 (wrap64 (wrap64 (top / 16777216 % 256 * alphaV top n) + wrap64 (under / 16777216 % 256 * wrap64 (255 - alphaV top n))) + 127)).tdiv 255) * 16777216)) = rovK top under n 1 :=
  rover_step top under (rovK top under n 0) (alphaV top n) 16777216 (by decide) (rovK_bd top under n 0 (by omega)).1 (rovK_bd top under n 0 (by omega)).2 (alpha_bd top n).1 (alpha_bd top n).2
theorem rov_k2 (top under n : Int) : wrap64 (rovK top under n 1 + wrap64 (wrap64 ((wrap64 (wrap64 (wrap64 (top / 65536 % 256 * alphaV top n) + wrap64 (under / 65536 % 256 * wrap64 (255 - alphaV top n))) + 127)).tdiv 255) * 65536)) = rovK top under n 2 :=
  rover_step top under (rovK top under n 1) (alphaV top n) 65536 (by decide) (rovK_bd top under n 1 (by omega)).1 (rovK_bd top under n 1 (by omega)).2 (alpha_bd top n).1 (alpha_bd top n).2
theorem rov_k3 (top under n : Int) : wrap64 (rovK top under n 2 + wrap64 (wrap64 ((wrap64 (wrap64 (wrap64 (top / 256 % 256 * alphaV top n) + wrap64 (under / 256 % 256 * wrap64 (255 - alphaV top n))) + 127)).tdiv 255) * 256)) = rovK top under n 3 :=
  rover_step top under (rovK top under n 2) (alphaV top n) 256 (by decide) (rovK_bd top under n 2 (by omega)).1 (rovK_bd top under n 2 (by omega)).2 (alpha_bd top n).1 (alpha_bd top n).2
set_option maxRecDepth 100000 in
set_option maxHeartbeats 1000000 in
theorem rover_calls (top under n : Int) (w : World) (hT : -9223372036854775808 ≤ top ∧ top ≤ 9223372036854775807) (hU : -9223372036854775808 ≤ under ∧ under ≤ 9223372036854775807) :
    Calls Try.prog 36 #[.int .i64 top, .int .i64 under, .int .i64 n] w fun e w' => e = .returned (.int .i64 (overK top under n 3)) ∧ Below w.heap.size w w' := by
  have HT := Lib.hid hT
  have HU := Lib.hid hU
  clear hT hU
  have HA := Lib.hid (show wrap64 ((wrap64 (top % 256 * min (max n 0) 1000)).tdiv 1000) = alphaV top n from by
    have h := mul_bd (top % 256) (min (max n 0) 1000) 255 1000 (by omega) (by omega) (by omega) (by omega) (by omega)
    rw [show wrap64 (top % 256 * min (max n 0) 1000) = top % 256 * min (max n 0) 1000 from by unfold wrap64; omega, Int.tdiv_eq_ediv_of_nonneg h.1]
    unfold wrap64 alphaV; omega)
  go_enter Try.func36, Try.ntmps36
  go_wp2_with (go_at_call 72; refine (rest_calls _ _).mono ?_; rintro e w' ⟨rfl, rfl⟩)
  rw [HA.out]
  clear HA
  go_loopw [8, 22] (fun o i wr => ∃ k : Nat, k ≤ 3 ∧ i = .int .i64 k ∧ o = .int .i64 (rovK top under n k) ∧ Blk wr w.heap.size 3 #[.int .i64 16777216, .int .i64 65536, .int .i64 256] ∧ Below w.heap.size w wr) (fun _ i _ => 32 - (intOf i).toNat)
  case atStart => exact ⟨0, Nat.zero_le _, rfl, rfl, Blk.new w 3 #[.int .i64 16777216, .int .i64 65536, .int .i64 256], below_alloc (Below.refl _ _) _⟩
  case round =>
    obtain ⟨k, hk, rfl, rfl, hblk, hbel⟩ := hrel
    have hc := hblk.cell
    match k, hk with
    | 0, _ =>
      have HD := Lib.hid (fun x w => down_pair top under 16777216 x w (by omega) (by omega) HT.out HU.out)
      have c0 : wr.cell? ⟨w.heap.size, 0, none⟩ = some (.int .i64 16777216) := hc 0
      clear hc
      go_wp2_with (first | (go_at_call 72; refine (rest_calls _ _).mono ?_; rintro e w' ⟨rfl, rfl⟩) | (go_at_call 73; refine (HD.out _ _ ?_).mono ?_; (first | exact Or.inl rfl | exact Or.inr rfl); rintro e w' ⟨rfl, rfl⟩))
      go_roundw
      case rel => exact ⟨1, by omega, rfl, val_i (rov_k1 top under n), hblk, hbel⟩
      case measure => simp [intOf]
    | 1, _ =>
      have HD := Lib.hid (fun x w => down_pair top under 65536 x w (by omega) (by omega) HT.out HU.out)
      have c0 : wr.cell? ⟨w.heap.size, 1, none⟩ = some (.int .i64 65536) := hc 1
      clear hc
      go_wp2_with (first | (go_at_call 72; refine (rest_calls _ _).mono ?_; rintro e w' ⟨rfl, rfl⟩) | (go_at_call 73; refine (HD.out _ _ ?_).mono ?_; (first | exact Or.inl rfl | exact Or.inr rfl); rintro e w' ⟨rfl, rfl⟩))
      go_roundw
      case rel => exact ⟨2, by omega, rfl, val_i (rov_k2 top under n), hblk, hbel⟩
      case measure => simp [intOf]
    | 2, _ =>
      have HD := Lib.hid (fun x w => down_pair top under 256 x w (by omega) (by omega) HT.out HU.out)
      have c0 : wr.cell? ⟨w.heap.size, 2, none⟩ = some (.int .i64 256) := hc 2
      clear hc
      go_wp2_with (first | (go_at_call 72; refine (rest_calls _ _).mono ?_; rintro e w' ⟨rfl, rfl⟩) | (go_at_call 73; refine (HD.out _ _ ?_).mono ?_; (first | exact Or.inl rfl | exact Or.inr rfl); rintro e w' ⟨rfl, rfl⟩))
      go_roundw
      case rel => exact ⟨3, by omega, rfl, val_i (rov_k3 top under n), hblk, hbel⟩
      case measure => simp [intOf]
    | 3, _ =>
      go_wp2_with fail
      go_ret
      exact ⟨ret_i (rov_end top under n), hbel⟩
end Go.Proofs.Ytkppignoomnmdaa
