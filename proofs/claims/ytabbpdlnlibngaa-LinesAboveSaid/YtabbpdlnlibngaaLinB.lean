/- Contracts for the closed fact lined: how wide the two texts are, and what they end with. -/
import Derived.Test.YtabbpdlnlibngaaLinA
namespace Go.Proofs.Ytabbpdlnlibngaa
open Go.RowKit
set_option linter.unusedVariables false
set_option linter.unusedSimpArgs false
attribute [local go_sem high] run_min2 run_max2

def BytesOk (s : ByteArray) : Prop := s.size ≤ 3 ∧ ∀ i (h : i < s.size), (s[i]'h).toNat = 97 ∨ (s[i]'h).toNat = 32
def accW (s : ByteArray) (p : Nat) : Int := ((s.data.toList.take p).map (fun b => advR b.toNat)).sum
theorem accW_step (s : ByteArray) (p : Nat) (h : p < s.size) : accW s (p + 1) = accW s p + advR ((s[p]'h).toNat : Int) := by
  have h1 : p < s.data.toList.length := by simpa using h
  unfold accW
  rw [List.take_succ_eq_append_getElem h1]
  simp
  rfl
theorem accW_bd (s : ByteArray) : ∀ p, 0 ≤ accW s p ∧ accW s p ≤ 32 * (p : Int) := fun p => by
  unfold accW
  generalize s.data.toList = l
  induction p generalizing l with
  | zero => simp
  | succ p ih =>
    rcases l with _ | ⟨b, l⟩
    · simp; omega
    · have := ih l
      have a : 0 ≤ advR (b.toNat : Int) ∧ advR (b.toNat : Int) ≤ 32 := by unfold advR; split <;> omega
      simp only [List.take_succ_cons, List.map_cons, List.sum_cons]
      omega
theorem ok_AA : BytesOk tAA := ⟨by decide, by decide +kernel⟩
theorem ok_AAB : BytesOk tAAB := ⟨by decide, by decide +kernel⟩
theorem acc_AA : accW tAA tAA.size = 64 := by decide +kernel
theorem acc_AAB : accW tAAB tAAB.size = 80 := by decide +kernel
set_option maxRecDepth 100000 in
set_option maxHeartbeats 2000000 in
theorem fwidth_calls (s : ByteArray) (hs : BytesOk s) (w : World) : Calls Try.prog 28 #[.string s, .int .i64 64, .int .i64 0] w fun e w' => e = .returned (.int .i64 (accW s s.size)) ∧ w' = w.iter s s.size := by
  have HS := Lib.hid hs
  have hs1 := hs.1
  clear hs
  have hc0 : cut 0 = 0 := by decide
  go_enter Try.func28, Try.ntmps28
  go_wp2_with fail
  go_loopw [7] (fun n wr => ∃ pos : Nat, pos ≤ s.size ∧ n = .int .i64 (accW s pos) ∧ wr = w.iter s pos) (fun _ wr => s.size - wr.iterPos w.heap.size)
  case atStart => exact ⟨0, Nat.zero_le _, by rfl, rfl⟩
  case round =>
    obtain ⟨pos, hpos, rfl, rfl⟩ := hrel
    have hb := accW_bd s pos
    by_cases hlt : pos < s.size
    · have hr := HS.out.2 pos hlt
      have hnx : ∀ ty, (Instr.next (.pointer (some ⟨w.heap.size, 0, none⟩)) true ty).run Try.prog (w.iter s pos) = _ := fun ty => run_next_ascii w s pos ty hlt (by rcases hr with h | h <;> omega)
      have hst := accW_step s pos hlt
      have hb2 := accW_bd s (pos + 1)
      obtain ⟨r, hr0⟩ : ∃ r : Int, r = ((s[pos]'hlt).toNat : Int) := ⟨_, rfl⟩
      rw [← hr0] at hnx hst
      have hrr : r = 97 ∨ r = 32 := by omega
      have HADV := Lib.hid (fun w => advance_calls r hrr w)
      have ha : 0 ≤ advR r ∧ advR r ≤ 32 := by unfold advR; split <;> omega
      clear hr hr0 hrr
      obtain ⟨x, hx⟩ : ∃ x, x = advR r := ⟨_, rfl⟩
      obtain ⟨y, hy⟩ : ∃ y, y = accW s pos := ⟨_, rfl⟩
      rw [← hx] at HADV hst ha
      rw [← hy] at hst hb ⊢
      have HST := Lib.hid hst
      have hb3 : 0 ≤ y + x ∧ y + x ≤ 200 := by omega
      clear hst hx hy hb2
      go_wp2_with (first | (go_at_call 41; refine (HADV.out _).mono ?_; rintro e w' ⟨rfl, rfl⟩) | (go_at_call 13; refine (cut_calls _ _).mono ?_; rintro e w' ⟨rfl, rfl⟩))
      go_roundw
      case rel => exact ⟨pos + 1, by omega, by rw [HST.out], rfl⟩
      case measure => simp only [World.iterPos_iter]; omega
    · have hnx : ∀ ty, (Instr.next (.pointer (some ⟨w.heap.size, 0, none⟩)) true ty).run Try.prog (w.iter s pos) = _ := fun ty => run_next_end w s pos ty hlt
      have e : cut (accW s pos) = accW s pos := cut_id _ (by omega) (by omega)
      obtain rfl : pos = s.size := by omega
      go_wp2_with (go_at_call 13; refine (cut_calls _ _).mono ?_; rintro e w' ⟨rfl, rfl⟩)
      go_ret
      exact ⟨rfl, rfl⟩
set_option maxRecDepth 100000 in
theorem suffixL_calls (s : ByteArray) (b : Bool) (hs : (s = tAA ∧ b = false) ∨ (s = tAAB ∧ b = true)) (w : World) : Calls Try.prog 61 #[.string s, .string ⟨#[32]⟩] w fun e w' => e = .returned (.bool b) ∧ w = w' := by
  rcases hs with ⟨rfl, rfl⟩ | ⟨rfl, rfl⟩
  · unfold tAA
    go_enter Try.func61, Try.ntmps61
    go_wp2_with fail
    go_ret
    exact ⟨congrArg (fun b => Ending.returned (Value.bool b)) (show (((⟨#[97, 97]⟩ : ByteArray).extract 1 2).toList == [32]) = false from by decide +kernel), rfl⟩
  · unfold tAAB
    go_enter Try.func61, Try.ntmps61
    go_wp2_with fail
    go_ret
    exact ⟨congrArg (fun b => Ending.returned (Value.bool b)) (show (((⟨#[97, 97, 32]⟩ : ByteArray).extract 2 3).toList == [32]) = true from by decide +kernel), rfl⟩
theorem suffix_calls (s : ByteArray) (b : Bool) (hs : (s = tAA ∧ b = false) ∨ (s = tAAB ∧ b = true)) (w : World) : Calls Try.prog 54 #[.string s, .string ⟨#[32]⟩] w fun e w' => e = .returned (.bool b) ∧ w = w' := by
  have H := Lib.hid (fun w => suffixL_calls s b hs w)
  clear hs
  go_enter Try.func54, Try.ntmps54
  go_wp2_with (go_at_call 61; refine (H.out _).mono ?_; rintro e w' ⟨rfl, rfl⟩)
  go_ret
  exact ⟨rfl, rfl⟩
end Go.Proofs.Ytabbpdlnlibngaa
