/- Several texts in one: TeA. -/
import Derived.Test.YtcghahfboccceaaGreatDoorTopEscapeM4
import Derived.Test.YtcghahfboccceaaGreatDoorProg
import Derived.Test.YtcghahfboccceaaGreatDoorTopEscapeM1
import Derived.WalkKit
import Derived.WalkSpells
import Derived.WalkLawsBesides
import Derived.OwnWalk
import Derived.Lib.Hide
import Derived.Outline
import Derived.Deep.QuietTactic
import Derived.BigQuiet
/- Contracts of chars.lead and chars.one. Printed by genTeA.py. -/
namespace Go.Proofs.YtcghahfboccceaaGreatDoor
open Go.RowKit
set_option linter.unusedVariables false

/-- What chars.lead answers. -/
def leadV (b : Nat) : Value := .tuple #[.int .i64 (leadF b).1, .int .u8 ((leadF b).2.1 : Nat), .int .u8 ((leadF b).2.2 : Nat)]
set_option maxRecDepth 100000 in
set_option maxHeartbeats 2000000 in
theorem lead_calls (c : UInt8) (w : World) :
    Calls Tryz.prog 73 #[.int .u8 c.toNat] w fun e w' => e = .returned (leadV c.toNat) ∧ w = w' := by
  have hb : c.toNat < 256 := c.toNat_lt
  generalize c.toNat = b at hb ⊢
  have H : Hid (leadV b = .tuple #[.int .i64 (leadF b).1, .int .u8 ((leadF b).2.1 : Nat), .int .u8 ((leadF b).2.2 : Nat)]) := rfl
  by_cases h0 : b < 128
  · have t_lt128 : ((b : Int) < 128) := by omega
    have t_ge194 : ¬ (194 ≤ (b : Int)) := by omega
    have t_le223 : ((b : Int) ≤ 223) := by omega
    have t_ge224 : ¬ (224 ≤ (b : Int)) := by omega
    have t_le239 : ((b : Int) ≤ 239) := by omega
    have t_ge240 : ¬ (240 ≤ (b : Int)) := by omega
    have t_le244 : ((b : Int) ≤ 244) := by omega
    have HL : Hid (leadF b = (0, 128, 191)) := by show _ = _; rw [leadF, if_pos (by omega)]
    go_enter Tryz.func73, Tryz.ntmps73
    go_wp2
    refine bodyPost_ret (results_tmp3 rfl _ _ _) rfl ⟨?_, rfl⟩
    rw [H.out, HL.out]
    rfl
  by_cases h1 : 194 ≤ b ∧ b ≤ 223
  · have t_lt128 : ¬ ((b : Int) < 128) := by omega
    have t_ge194 : (194 ≤ (b : Int)) := by omega
    have t_le223 : ((b : Int) ≤ 223) := by omega
    have t_ge224 : ¬ (224 ≤ (b : Int)) := by omega
    have t_le239 : ((b : Int) ≤ 239) := by omega
    have t_ge240 : ¬ (240 ≤ (b : Int)) := by omega
    have t_le244 : ((b : Int) ≤ 244) := by omega
    have HL : Hid (leadF b = (1, 128, 191)) := by show _ = _; rw [leadF, if_neg (by omega), if_pos (by omega)]
    go_enter Tryz.func73, Tryz.ntmps73
    go_wp2
    refine bodyPost_ret (results_tmp3 rfl _ _ _) rfl ⟨?_, rfl⟩
    rw [H.out, HL.out]
    rfl
  by_cases h2 : b = 224
  · subst h2
    have HL : Hid (leadF 224 = (2, 160, 191)) := by show _ = _; decide
    go_enter Tryz.func73, Tryz.ntmps73
    go_wp2
    refine bodyPost_ret (results_tmp3 rfl _ _ _) rfl ⟨?_, rfl⟩
    rw [H.out, HL.out]
    rfl
  by_cases h3 : b = 237
  · subst h3
    have HL : Hid (leadF 237 = (2, 128, 159)) := by show _ = _; decide
    go_enter Tryz.func73, Tryz.ntmps73
    go_wp2
    refine bodyPost_ret (results_tmp3 rfl _ _ _) rfl ⟨?_, rfl⟩
    rw [H.out, HL.out]
    rfl
  by_cases h4 : 224 ≤ b ∧ b ≤ 239
  · have t_lt128 : ¬ ((b : Int) < 128) := by omega
    have t_ge194 : (194 ≤ (b : Int)) := by omega
    have t_le223 : ¬ ((b : Int) ≤ 223) := by omega
    have t_ge224 : (224 ≤ (b : Int)) := by omega
    have t_le239 : ((b : Int) ≤ 239) := by omega
    have t_ge240 : ¬ (240 ≤ (b : Int)) := by omega
    have t_le244 : ((b : Int) ≤ 244) := by omega
    have e224 : ((b : Int) == 224) = false := beq_eq_false_iff_ne.2 (show ¬ (b : Int) = 224 by omega)
    have e237 : ((b : Int) == 237) = false := beq_eq_false_iff_ne.2 (show ¬ (b : Int) = 237 by omega)
    have e240 : ((b : Int) == 240) = false := beq_eq_false_iff_ne.2 (show ¬ (b : Int) = 240 by omega)
    have e244 : ((b : Int) == 244) = false := beq_eq_false_iff_ne.2 (show ¬ (b : Int) = 244 by omega)
    have HL : Hid (leadF b = (2, 128, 191)) := by show _ = _; rw [leadF, if_neg (by omega), if_neg (by omega), if_pos (by omega), if_neg (by omega), if_neg (by omega)]
    go_enter Tryz.func73, Tryz.ntmps73
    go_wp2
    refine bodyPost_ret (results_tmp3 rfl _ _ _) rfl ⟨?_, rfl⟩
    rw [H.out, HL.out]
    rfl
  by_cases h5 : b = 240
  · subst h5
    have HL : Hid (leadF 240 = (3, 144, 191)) := by show _ = _; decide
    go_enter Tryz.func73, Tryz.ntmps73
    go_wp2
    refine bodyPost_ret (results_tmp3 rfl _ _ _) rfl ⟨?_, rfl⟩
    rw [H.out, HL.out]
    rfl
  by_cases h6 : b = 244
  · subst h6
    have HL : Hid (leadF 244 = (3, 128, 143)) := by show _ = _; decide
    go_enter Tryz.func73, Tryz.ntmps73
    go_wp2
    refine bodyPost_ret (results_tmp3 rfl _ _ _) rfl ⟨?_, rfl⟩
    rw [H.out, HL.out]
    rfl
  by_cases h7 : 240 ≤ b ∧ b ≤ 244
  · have t_lt128 : ¬ ((b : Int) < 128) := by omega
    have t_ge194 : (194 ≤ (b : Int)) := by omega
    have t_le223 : ¬ ((b : Int) ≤ 223) := by omega
    have t_ge224 : (224 ≤ (b : Int)) := by omega
    have t_le239 : ¬ ((b : Int) ≤ 239) := by omega
    have t_ge240 : (240 ≤ (b : Int)) := by omega
    have t_le244 : ((b : Int) ≤ 244) := by omega
    have e224 : ((b : Int) == 224) = false := beq_eq_false_iff_ne.2 (show ¬ (b : Int) = 224 by omega)
    have e237 : ((b : Int) == 237) = false := beq_eq_false_iff_ne.2 (show ¬ (b : Int) = 237 by omega)
    have e240 : ((b : Int) == 240) = false := beq_eq_false_iff_ne.2 (show ¬ (b : Int) = 240 by omega)
    have e244 : ((b : Int) == 244) = false := beq_eq_false_iff_ne.2 (show ¬ (b : Int) = 244 by omega)
    have HL : Hid (leadF b = (3, 128, 191)) := by show _ = _; rw [leadF, if_neg (by omega), if_neg (by omega), if_neg (by omega), if_pos (by omega), if_neg (by omega), if_neg (by omega)]
    go_enter Tryz.func73, Tryz.ntmps73
    go_wp2
    refine bodyPost_ret (results_tmp3 rfl _ _ _) rfl ⟨?_, rfl⟩
    rw [H.out, HL.out]
    rfl
  have n1 : ¬ ((b : Int) < 128) := by omega
  have HL : Hid (leadF b = (-1, 128, 191)) := by show _ = _; rw [leadF, if_neg (by omega), if_neg (by omega), if_neg (by omega), if_neg (by omega)]
  have n2 : (decide (194 ≤ (b : Int)) && decide ((b : Int) ≤ 223)) = false := by simp; omega
  go_enter Tryz.func73, Tryz.ntmps73
  by_cases g1 : (194 ≤ (b : Int))
  · have g2 : ¬ ((b : Int) ≤ 223) := by omega
    by_cases g3 : (224 ≤ (b : Int))
    · have g4 : ¬ ((b : Int) ≤ 239) := by omega
      have g5 : (240 ≤ (b : Int)) := by omega
      have g6 : ¬ ((b : Int) ≤ 244) := by omega
      go_wp2
      refine bodyPost_ret (results_tmp3 rfl _ _ _) rfl ⟨?_, rfl⟩
      rw [H.out, HL.out]
      rfl
    · omega
  · have g3 : ¬ (224 ≤ (b : Int)) := by omega
    have g5 : ¬ (240 ≤ (b : Int)) := by omega
    go_wp2
    refine bodyPost_ret (results_tmp3 rfl _ _ _) rfl ⟨?_, rfl⟩
    rw [H.out, HL.out]
    rfl
theorem u8_get (s : ByteArray) (k : Nat) (h : k < s.size) : s[k] = s.data.toList.getD k 0 := by
  have h' : k < s.data.toList.length := by simpa using h
  have e : s.data.toList.getD k 0 = s.data.toList[k] := by rw [List.getD, List.getElem?_eq_getElem h']; rfl
  rw [e]; rfl
theorem and63 (c : Nat) (h : c < 256) : bits .and .u8 (c : Int) 63 = ((c % 64 : Nat) : Int) := (show ∀ c : Fin 256, bits .and .u8 ((c.val : Nat) : Int) 63 = ((c.val % 64 : Nat) : Int) by decide +kernel) ⟨c, h⟩
theorem and31 (c : Nat) (h : c < 256) : bits .and .i32 (c : Int) 31 = ((c % 32 : Nat) : Int) := (show ∀ c : Fin 256, bits .and .i32 ((c.val : Nat) : Int) 31 = ((c.val % 32 : Nat) : Int) by decide +kernel) ⟨c, h⟩
theorem and15 (c : Nat) (h : c < 256) : bits .and .i32 (c : Int) 15 = ((c % 16 : Nat) : Int) := (show ∀ c : Fin 256, bits .and .i32 ((c.val : Nat) : Int) 15 = ((c.val % 16 : Nat) : Int) by decide +kernel) ⟨c, h⟩
theorem and7 (c : Nat) (h : c < 256) : bits .and .i32 (c : Int) 7 = ((c % 8 : Nat) : Int) := (show ∀ c : Fin 256, bits .and .i32 ((c.val : Nat) : Int) 7 = ((c.val % 8 : Nat) : Int) by decide +kernel) ⟨c, h⟩
theorem or6 (n x : Int) (h0 : 0 ≤ n) (h1 : n * 64 + 64 ≤ 2097152) (hx0 : 0 ≤ x) (hx : x < 64) : bits .or .i32 (wrap32 (n * 64)) x = n * 64 + x := by
  have e : wrap32 (n * 64) = n * 64 := by unfold wrap32; omega
  rw [e]
  exact bits_join .i32 30 (by decide) (fun m h0 h1 => by have : m < 1073741824 := h1; rw [IntKind.wrap_i32]; omega) 6 (n * 64) x (by omega) (by omega) (by omega) hx0 (by omega) (by omega)
/-- A result of two numbers. -/
def oneV (x : Int × Nat) : Value := .tuple #[.int .i32 x.1, .int .i64 (x.2 : Nat)]
set_option maxRecDepth 100000 in
set_option maxHeartbeats 4000000 in
theorem cone_calls (s : ByteArray) (w : World) (h : 0 < s.size) (hs : s.size ≤ 9223372036854775807) :
    Calls Tryz.prog 52 #[.string s] w fun e w' => e = .returned (oneV (oneF s.data.toList)) ∧ Below w.heap.size w w' := by
  obtain ⟨c, l, hl⟩ : ∃ c l, s.data.toList = c :: l := by
    cases q : s.data.toList with
    | nil => have : s.data.toList.length = s.size := by simp
             rw [q] at this; simp at this; omega
    | cons c l => exact ⟨c, l, rfl⟩
  have hlen : l.length + 1 = s.size := by
    have : s.data.toList.length = s.size := by simp
    rw [hl] at this; simpa using this
  have h0 := u8_get s 0 h
  rw [hl] at h0
  have h0 : s[0] = c := h0
  have HX : Hid (∀ (k : Nat) (hk : k + 1 < s.size), s[k + 1] = l.getD k 0) := fun k hk => by rw [u8_get s (k + 1) hk, hl]; rfl
  have HC := Lib.hid (lead_calls c)
  have HL := Lib.hid hlen
  have HR : Hid (oneF s.data.toList = if (leadF c.toNat).1 < 0 then (65533, 1) else if (leadF c.toNat).1 = 0 then ((c.toNat : Int), 1)
    else oneK (leadF c.toNat).2.1 (leadF c.toNat).2.2 (leadF c.toNat).1.toNat 1 ((c.toNat % 2 ^ (6 - (leadF c.toNat).1.toNat) : Nat) : Int) l) := by show _ = _; rw [hl]; exact oneF_cons c l
  obtain ⟨R, hR⟩ : ∃ R, R = oneF s.data.toList := ⟨_, rfl⟩
  rw [← hR] at HR ⊢
  clear hR hl hlen
  have hcb : c.toNat < 256 := c.toNat_lt
  rcases lead_cases c.toNat hcb with ⟨e, hb⟩ | ⟨e, hb1, hb2⟩ | ⟨e, hb1, hb2⟩ | ⟨e, hb1, hb2⟩ | e
  · unfold leadV at HC
    rw [e] at HC HR
    go_enter Tryz.func52, Tryz.ntmps52
    go_wp2_with (go_at_call 73; refine (HC.out _).mono ?_; rintro e w' ⟨rfl, rfl⟩)
    refine bodyPost_ret (results_tmp2 rfl _ _ _) rfl ⟨?_, Below.refl _ _⟩
    rw [HR.out]
    rfl
  · unfold leadV at HC
    rw [e] at HC HR
    obtain ⟨lo0, hlo0⟩ : ∃ lo0 : Nat, lo0 = 128 := ⟨_, rfl⟩
    obtain ⟨hi0, hhi0⟩ : ∃ hi0 : Nat, hi0 = 191 := ⟨_, rfl⟩
    simp only [← hlo0, ← hhi0] at HC HR
    clear hlo0 hhi0
    go_enter Tryz.func52, Tryz.ntmps52
    go_wp2_with (go_at_call 73; refine (HC.out _).mono ?_; rintro e w' ⟨rfl, rfl⟩)
    go_quiet (fail)
    rw [and31 _ hcb]
    obtain ⟨n0, hn0⟩ : ∃ n0, n0 = c.toNat % 32 := ⟨_, rfl⟩
    have HR1 : Hid (R = oneK lo0 hi0 1 1 (n0 : Int) l) := by show _ = _; rw [HR.out, hn0]; rfl
    rw [← hn0]
    have hn1 : ((n0 : Int) + 1) * 64 ^ 1 ≤ 2097152 := by omega
    clear HR HC e hb1 hb2 hcb hn0
    go_wp2
    go_loop [8, 7, 5, 6] (fun i n lo hi => ∃ (k lo' hi' : Nat) (n' : Int), i = .int .i64 ((k : Int) + 1) ∧ n = .int .i32 n' ∧ lo = .int .u8 lo' ∧ hi = .int .u8 hi' ∧ k ≤ 1 ∧ 0 ≤ n' ∧ Hid ((n' + 1) * 64 ^ (1 - k) ≤ 2097152) ∧ k ≤ l.length ∧ Hid (R = oneK lo' hi' (1 - k) (k + 1) n' (l.drop k))) (fun i _ _ _ => 5 - (intOf i).toNat)
    case atStart => exact ⟨0, lo0, hi0, n0, rfl, rfl, rfl, rfl, by omega, by omega, hn1, by omega, HR1⟩
    case round =>
      obtain ⟨k, lo, hi, n, rfl, rfl, rfl, rfl, hk, hn2, HN3, hk3, H⟩ := hrel
      have hL := HL.out
      by_cases hd : k = 1
      · subst hd
        go_wp2
        refine bodyPost_ret (results_tmp2 rfl _ _ _) rfl ⟨?_, below_drewN (Below.refl _ _) _⟩
        rw [H.out]; rfl
      · have hkm : ((k : Int) + 1 ≤ 1) := by omega
        obtain ⟨u, hu⟩ : ∃ u, 1 - k = u + 1 := ⟨1 - k - 1, by omega⟩
        by_cases hz : k = l.length
        · have hz2 : (k : Int) + 1 = (s.size : Int) := by omega
          have HH : Hid (R = (65533, k + 1)) := by show _ = _; rw [H.out, hu, hz, List.drop_length]; rfl
          have hz4 : (((k : Int) + 1) == (s.size : Int)) = true := beq_iff_eq.2 hz2
          clear hz hu hd H hL hz2
          go_wp2
          refine bodyPost_ret (results_tmp2 rfl _ _ _) rfl ⟨?_, below_drewN (Below.refl _ _) _⟩
          rw [HH.out]; rfl
        · have hz2 : ¬ ((k : Int) + 1 = (s.size : Int)) := by omega
          have hz3 : k + 1 < s.size := by omega
          have hx := HX.out k hz3
          obtain ⟨d, hdd⟩ : ∃ d, d = l.getD k 0 := ⟨_, rfl⟩
          have HD : Hid (l.drop k = d :: l.drop (k + 1)) := by show _ = _; rw [List.drop_eq_getElem_cons (by omega : k < l.length), hdd, List.getD, List.getElem?_eq_getElem (by omega : k < l.length)]; rfl
          rw [← hdd] at hx
          clear hdd
          have hdb : d.toNat < 256 := d.toNat_lt
          have hz4 : (((k : Int) + 1) == (s.size : Int)) = false := beq_eq_false_iff_ne.2 hz2
          by_cases g1 : d.toNat < lo
          · have HH : Hid (R = (65533, k + 1)) := by show _ = _; rw [H.out, hu, HD.out, oneK, if_pos (.inl g1)]
            have g2 : ((d.toNat : Int) < (lo : Int)) := by omega
            clear hz hu hd H hL hz2
            go_wp2
            refine bodyPost_ret (results_tmp2 rfl _ _ _) rfl ⟨?_, below_drewN (Below.refl _ _) _⟩
            rw [HH.out]; rfl
          · have g2 : ¬ ((d.toNat : Int) < (lo : Int)) := by omega
            by_cases g3 : hi < d.toNat
            · have HH : Hid (R = (65533, k + 1)) := by show _ = _; rw [H.out, hu, HD.out, oneK, if_pos (.inr g3)]
              have g4 : ((hi : Int) < (d.toNat : Int)) := by omega
              clear hz hu hd H hL hz2
              go_wp2
              refine bodyPost_ret (results_tmp2 rfl _ _ _) rfl ⟨?_, below_drewN (Below.refl _ _) _⟩
              rw [HH.out]; rfl
            · have g4 : ¬ ((hi : Int) < (d.toNat : Int)) := by omega
              have HH : Hid (R = oneK 128 191 u (k + 1 + 1) (n * 64 + (d.toNat % 64 : Nat)) (l.drop (k + 1))) := by show _ = _; rw [H.out, hu, HD.out, oneK, if_neg (by omega)]
              clear H hL hz2
              go_wp2
              have hb : n * 64 + 64 ≤ 2097152 ∧ (n * 64 + (d.toNat % 64 : Nat) + 1) * 64 ^ u ≤ 2097152 := by
                have hn3 := HN3.out
                rw [hu, Int.pow_succ, Int.mul_comm _ 64, ← Int.mul_assoc] at hn3
                have hp : (1 : Int) ≤ 64 ^ u := by have := Int.pow_pos (n := (64 : Int)) (m := u) (by decide); omega
                have hq := Int.mul_le_mul_of_nonneg_left hp (show 0 ≤ (n + 1) * 64 by omega)
                refine ⟨by omega, Int.le_trans (Int.mul_le_mul_of_nonneg_right (by omega) (by omega)) hn3⟩
              refine ⟨⟨k + 1, 128, 191, n * 64 + (d.toNat % 64 : Nat), by simp, ?_, rfl, rfl, by omega, by omega, ?_, by omega, ?_⟩, by simp [intOf]; omega⟩
              · congr 1
                exact or6 n _ hn2 (by omega) (by omega) (by omega)
              · show _ ≤ _
                rw [show 1 - (k + 1) = u by omega]; exact hb.2
              · show _ = _
                rw [show 1 - (k + 1) = u by omega]; exact HH.out
  · unfold leadV at HC
    rw [e] at HC HR
    obtain ⟨lo0, hlo0⟩ : ∃ lo0 : Nat, lo0 = if c.toNat = 224 then 160 else 128 := ⟨_, rfl⟩
    obtain ⟨hi0, hhi0⟩ : ∃ hi0 : Nat, hi0 = if c.toNat = 237 then 159 else 191 := ⟨_, rfl⟩
    simp only [← hlo0, ← hhi0] at HC HR
    clear hlo0 hhi0
    go_enter Tryz.func52, Tryz.ntmps52
    go_wp2_with (go_at_call 73; refine (HC.out _).mono ?_; rintro e w' ⟨rfl, rfl⟩)
    go_quiet (fail)
    rw [and15 _ hcb]
    obtain ⟨n0, hn0⟩ : ∃ n0, n0 = c.toNat % 16 := ⟨_, rfl⟩
    have HR1 : Hid (R = oneK lo0 hi0 2 1 (n0 : Int) l) := by show _ = _; rw [HR.out, hn0]; rfl
    rw [← hn0]
    have hn1 : ((n0 : Int) + 1) * 64 ^ 2 ≤ 2097152 := by omega
    clear HR HC e hb1 hb2 hcb hn0
    go_wp2
    go_loop [8, 7, 5, 6] (fun i n lo hi => ∃ (k lo' hi' : Nat) (n' : Int), i = .int .i64 ((k : Int) + 1) ∧ n = .int .i32 n' ∧ lo = .int .u8 lo' ∧ hi = .int .u8 hi' ∧ k ≤ 2 ∧ 0 ≤ n' ∧ Hid ((n' + 1) * 64 ^ (2 - k) ≤ 2097152) ∧ k ≤ l.length ∧ Hid (R = oneK lo' hi' (2 - k) (k + 1) n' (l.drop k))) (fun i _ _ _ => 5 - (intOf i).toNat)
    case atStart => exact ⟨0, lo0, hi0, n0, rfl, rfl, rfl, rfl, by omega, by omega, hn1, by omega, HR1⟩
    case round =>
      obtain ⟨k, lo, hi, n, rfl, rfl, rfl, rfl, hk, hn2, HN3, hk3, H⟩ := hrel
      have hL := HL.out
      by_cases hd : k = 2
      · subst hd
        go_wp2
        refine bodyPost_ret (results_tmp2 rfl _ _ _) rfl ⟨?_, below_drewN (Below.refl _ _) _⟩
        rw [H.out]; rfl
      · have hkm : ((k : Int) + 1 ≤ 2) := by omega
        obtain ⟨u, hu⟩ : ∃ u, 2 - k = u + 1 := ⟨2 - k - 1, by omega⟩
        by_cases hz : k = l.length
        · have hz2 : (k : Int) + 1 = (s.size : Int) := by omega
          have HH : Hid (R = (65533, k + 1)) := by show _ = _; rw [H.out, hu, hz, List.drop_length]; rfl
          have hz4 : (((k : Int) + 1) == (s.size : Int)) = true := beq_iff_eq.2 hz2
          clear hz hu hd H hL hz2
          go_wp2
          refine bodyPost_ret (results_tmp2 rfl _ _ _) rfl ⟨?_, below_drewN (Below.refl _ _) _⟩
          rw [HH.out]; rfl
        · have hz2 : ¬ ((k : Int) + 1 = (s.size : Int)) := by omega
          have hz3 : k + 1 < s.size := by omega
          have hx := HX.out k hz3
          obtain ⟨d, hdd⟩ : ∃ d, d = l.getD k 0 := ⟨_, rfl⟩
          have HD : Hid (l.drop k = d :: l.drop (k + 1)) := by show _ = _; rw [List.drop_eq_getElem_cons (by omega : k < l.length), hdd, List.getD, List.getElem?_eq_getElem (by omega : k < l.length)]; rfl
          rw [← hdd] at hx
          clear hdd
          have hdb : d.toNat < 256 := d.toNat_lt
          have hz4 : (((k : Int) + 1) == (s.size : Int)) = false := beq_eq_false_iff_ne.2 hz2
          by_cases g1 : d.toNat < lo
          · have HH : Hid (R = (65533, k + 1)) := by show _ = _; rw [H.out, hu, HD.out, oneK, if_pos (.inl g1)]
            have g2 : ((d.toNat : Int) < (lo : Int)) := by omega
            clear hz hu hd H hL hz2
            go_wp2
            refine bodyPost_ret (results_tmp2 rfl _ _ _) rfl ⟨?_, below_drewN (Below.refl _ _) _⟩
            rw [HH.out]; rfl
          · have g2 : ¬ ((d.toNat : Int) < (lo : Int)) := by omega
            by_cases g3 : hi < d.toNat
            · have HH : Hid (R = (65533, k + 1)) := by show _ = _; rw [H.out, hu, HD.out, oneK, if_pos (.inr g3)]
              have g4 : ((hi : Int) < (d.toNat : Int)) := by omega
              clear hz hu hd H hL hz2
              go_wp2
              refine bodyPost_ret (results_tmp2 rfl _ _ _) rfl ⟨?_, below_drewN (Below.refl _ _) _⟩
              rw [HH.out]; rfl
            · have g4 : ¬ ((hi : Int) < (d.toNat : Int)) := by omega
              have HH : Hid (R = oneK 128 191 u (k + 1 + 1) (n * 64 + (d.toNat % 64 : Nat)) (l.drop (k + 1))) := by show _ = _; rw [H.out, hu, HD.out, oneK, if_neg (by omega)]
              clear H hL hz2
              go_wp2
              have hb : n * 64 + 64 ≤ 2097152 ∧ (n * 64 + (d.toNat % 64 : Nat) + 1) * 64 ^ u ≤ 2097152 := by
                have hn3 := HN3.out
                rw [hu, Int.pow_succ, Int.mul_comm _ 64, ← Int.mul_assoc] at hn3
                have hp : (1 : Int) ≤ 64 ^ u := by have := Int.pow_pos (n := (64 : Int)) (m := u) (by decide); omega
                have hq := Int.mul_le_mul_of_nonneg_left hp (show 0 ≤ (n + 1) * 64 by omega)
                refine ⟨by omega, Int.le_trans (Int.mul_le_mul_of_nonneg_right (by omega) (by omega)) hn3⟩
              refine ⟨⟨k + 1, 128, 191, n * 64 + (d.toNat % 64 : Nat), by simp, ?_, rfl, rfl, by omega, by omega, ?_, by omega, ?_⟩, by simp [intOf]; omega⟩
              · congr 1
                exact or6 n _ hn2 (by omega) (by omega) (by omega)
              · show _ ≤ _
                rw [show 2 - (k + 1) = u by omega]; exact hb.2
              · show _ = _
                rw [show 2 - (k + 1) = u by omega]; exact HH.out
  · unfold leadV at HC
    rw [e] at HC HR
    obtain ⟨lo0, hlo0⟩ : ∃ lo0 : Nat, lo0 = if c.toNat = 240 then 144 else 128 := ⟨_, rfl⟩
    obtain ⟨hi0, hhi0⟩ : ∃ hi0 : Nat, hi0 = if c.toNat = 244 then 143 else 191 := ⟨_, rfl⟩
    simp only [← hlo0, ← hhi0] at HC HR
    clear hlo0 hhi0
    go_enter Tryz.func52, Tryz.ntmps52
    go_wp2_with (go_at_call 73; refine (HC.out _).mono ?_; rintro e w' ⟨rfl, rfl⟩)
    go_quiet (fail)
    rw [and7 _ hcb]
    obtain ⟨n0, hn0⟩ : ∃ n0, n0 = c.toNat % 8 := ⟨_, rfl⟩
    have HR1 : Hid (R = oneK lo0 hi0 3 1 (n0 : Int) l) := by show _ = _; rw [HR.out, hn0]; rfl
    rw [← hn0]
    have hn1 : ((n0 : Int) + 1) * 64 ^ 3 ≤ 2097152 := by omega
    clear HR HC e hb1 hb2 hcb hn0
    go_wp2
    go_loop [8, 7, 5, 6] (fun i n lo hi => ∃ (k lo' hi' : Nat) (n' : Int), i = .int .i64 ((k : Int) + 1) ∧ n = .int .i32 n' ∧ lo = .int .u8 lo' ∧ hi = .int .u8 hi' ∧ k ≤ 3 ∧ 0 ≤ n' ∧ Hid ((n' + 1) * 64 ^ (3 - k) ≤ 2097152) ∧ k ≤ l.length ∧ Hid (R = oneK lo' hi' (3 - k) (k + 1) n' (l.drop k))) (fun i _ _ _ => 5 - (intOf i).toNat)
    case atStart => exact ⟨0, lo0, hi0, n0, rfl, rfl, rfl, rfl, by omega, by omega, hn1, by omega, HR1⟩
    case round =>
      obtain ⟨k, lo, hi, n, rfl, rfl, rfl, rfl, hk, hn2, HN3, hk3, H⟩ := hrel
      have hL := HL.out
      by_cases hd : k = 3
      · subst hd
        go_wp2
        refine bodyPost_ret (results_tmp2 rfl _ _ _) rfl ⟨?_, below_drewN (Below.refl _ _) _⟩
        rw [H.out]; rfl
      · have hkm : ((k : Int) + 1 ≤ 3) := by omega
        obtain ⟨u, hu⟩ : ∃ u, 3 - k = u + 1 := ⟨3 - k - 1, by omega⟩
        by_cases hz : k = l.length
        · have hz2 : (k : Int) + 1 = (s.size : Int) := by omega
          have HH : Hid (R = (65533, k + 1)) := by show _ = _; rw [H.out, hu, hz, List.drop_length]; rfl
          have hz4 : (((k : Int) + 1) == (s.size : Int)) = true := beq_iff_eq.2 hz2
          clear hz hu hd H hL hz2
          go_wp2
          refine bodyPost_ret (results_tmp2 rfl _ _ _) rfl ⟨?_, below_drewN (Below.refl _ _) _⟩
          rw [HH.out]; rfl
        · have hz2 : ¬ ((k : Int) + 1 = (s.size : Int)) := by omega
          have hz3 : k + 1 < s.size := by omega
          have hx := HX.out k hz3
          obtain ⟨d, hdd⟩ : ∃ d, d = l.getD k 0 := ⟨_, rfl⟩
          have HD : Hid (l.drop k = d :: l.drop (k + 1)) := by show _ = _; rw [List.drop_eq_getElem_cons (by omega : k < l.length), hdd, List.getD, List.getElem?_eq_getElem (by omega : k < l.length)]; rfl
          rw [← hdd] at hx
          clear hdd
          have hdb : d.toNat < 256 := d.toNat_lt
          have hz4 : (((k : Int) + 1) == (s.size : Int)) = false := beq_eq_false_iff_ne.2 hz2
          by_cases g1 : d.toNat < lo
          · have HH : Hid (R = (65533, k + 1)) := by show _ = _; rw [H.out, hu, HD.out, oneK, if_pos (.inl g1)]
            have g2 : ((d.toNat : Int) < (lo : Int)) := by omega
            clear hz hu hd H hL hz2
            go_wp2
            refine bodyPost_ret (results_tmp2 rfl _ _ _) rfl ⟨?_, below_drewN (Below.refl _ _) _⟩
            rw [HH.out]; rfl
          · have g2 : ¬ ((d.toNat : Int) < (lo : Int)) := by omega
            by_cases g3 : hi < d.toNat
            · have HH : Hid (R = (65533, k + 1)) := by show _ = _; rw [H.out, hu, HD.out, oneK, if_pos (.inr g3)]
              have g4 : ((hi : Int) < (d.toNat : Int)) := by omega
              clear hz hu hd H hL hz2
              go_wp2
              refine bodyPost_ret (results_tmp2 rfl _ _ _) rfl ⟨?_, below_drewN (Below.refl _ _) _⟩
              rw [HH.out]; rfl
            · have g4 : ¬ ((hi : Int) < (d.toNat : Int)) := by omega
              have HH : Hid (R = oneK 128 191 u (k + 1 + 1) (n * 64 + (d.toNat % 64 : Nat)) (l.drop (k + 1))) := by show _ = _; rw [H.out, hu, HD.out, oneK, if_neg (by omega)]
              clear H hL hz2
              go_wp2
              have hb : n * 64 + 64 ≤ 2097152 ∧ (n * 64 + (d.toNat % 64 : Nat) + 1) * 64 ^ u ≤ 2097152 := by
                have hn3 := HN3.out
                rw [hu, Int.pow_succ, Int.mul_comm _ 64, ← Int.mul_assoc] at hn3
                have hp : (1 : Int) ≤ 64 ^ u := by have := Int.pow_pos (n := (64 : Int)) (m := u) (by decide); omega
                have hq := Int.mul_le_mul_of_nonneg_left hp (show 0 ≤ (n + 1) * 64 by omega)
                refine ⟨by omega, Int.le_trans (Int.mul_le_mul_of_nonneg_right (by omega) (by omega)) hn3⟩
              refine ⟨⟨k + 1, 128, 191, n * 64 + (d.toNat % 64 : Nat), by simp, ?_, rfl, rfl, by omega, by omega, ?_, by omega, ?_⟩, by simp [intOf]; omega⟩
              · congr 1
                exact or6 n _ hn2 (by omega) (by omega) (by omega)
              · show _ ≤ _
                rw [show 3 - (k + 1) = u by omega]; exact hb.2
              · show _ = _
                rw [show 3 - (k + 1) = u by omega]; exact HH.out
  · unfold leadV at HC
    rw [e] at HC HR
    go_enter Tryz.func52, Tryz.ntmps52
    go_wp2_with (go_at_call 73; refine (HC.out _).mono ?_; rintro e w' ⟨rfl, rfl⟩)
    refine bodyPost_ret (results_tmp2 rfl _ _ _) rfl ⟨?_, Below.refl _ _⟩
    rw [HR.out]
    rfl
end Go.Proofs.YtcghahfboccceaaGreatDoor
