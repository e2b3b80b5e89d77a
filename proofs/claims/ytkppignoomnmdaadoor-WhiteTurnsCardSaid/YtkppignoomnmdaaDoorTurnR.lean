/- Contracts of the reference's Turn and of both Idles; the walk of WhiteTurns. -/
import Derived.Test.YtkppignoomnmdaaDoorTurn
namespace Go.Proofs.YtkppignoomnmdaaDoor
open Go.RowKit
set_option linter.unusedVariables false
set_option linter.unusedSimpArgs false

theorem u8_index (s : ByteArray) (k : Nat) (h : k < s.size) : s[k] = s.data.toList.getD k 0 := by
  have h' : k < s.data.toList.length := by simpa using h
  have e : s.data.toList.getD k 0 = s.data.toList[k] := by rw [List.getD, List.getElem?_eq_getElem h']; rfl
  rw [e]; rfl
theorem add_byte (l : List UInt8) (d : UInt8) : (⟨l.toArray⟩ : ByteArray) ++ ⟨#[d]⟩ = ⟨(l ++ [d]).toArray⟩ := by
  apply ByteArray.ext
  simp
theorem one_string (w : World) (x : Int) (d : UInt8) (h : (d.toNat : Int) = x) :
    (convert 43 9 (.slice (some ⟨w.heap.size, 0, none⟩) 1 1)).run Tryd.prog (w.alloc (.cells #[.int .u8 x] 5)) = .ok (.string ⟨#[d]⟩) (w.alloc (.cells #[.int .u8 x] 5)) := by
  subst h
  exact run_string_cells (w.alloc (.cells #[.int .u8 (d.toNat : Int)] 5)) w.heap.size 1 [d] (cell_one_new _ _ _)
theorem turn_snoc (m : Int) (l : List UInt8) (k : Nat) (h : k < l.length) : (l.take (k + 1)).map (turnB m) = (l.take k).map (turnB m) ++ [turnB m (l.getD k 0)] := by
  rw [take_snoc l 0 k h]; simp
set_option maxRecDepth 100000 in
set_option maxHeartbeats 1000000 in
theorem rturn1_calls (s : ByteArray) (w : World) (hs : s.size ≤ 400) :
    Calls Tryd.prog 7 #[.string s, .int .i64 1] w fun e w' => e = .returned (.string (turnS 1 s)) ∧ Below w.heap.size w w' := by
  have hl : s.data.toList.length = s.size := by rw [Array.length_toList]; rfl
  have HL := Lib.hid hl
  clear hl
  obtain ⟨r, hr⟩ : ∃ r, r = turnS 1 s := ⟨_, rfl⟩
  rw [← hr]
  have HRS := Lib.hid hr
  clear hr
  go_enter Tryd.func7, Tryd.ntmps7
  go_wp2_with fail
  go_loopw [5, 10] (fun v i wr => ∃ (k : Nat) (b : ByteArray), k ≤ s.size ∧ i = .int .i64 k ∧ v = .string b ∧ b = ⟨((s.data.toList.take k).map (turnB 1)).toArray⟩ ∧ Below w.heap.size w wr) (fun _ i _ => s.size - (intOf i).toNat)
  case atStart => exact ⟨0, ⟨#[]⟩, Nat.zero_le _, rfl, rfl, rfl, Below.refl _ _⟩
  case round =>
    obtain ⟨k, b, hk, rfl, rfl, hb, hbel⟩ := hrel
    have hbs : b.size ≤ 400 := by
      rw [hb]
      show ((s.data.toList.take k).map (turnB 1)).toArray.size ≤ 400
      have := HL.out
      simp at this ⊢
      omega
    have HB := Lib.hid hb
    clear hb
    by_cases hlt : k < s.size
    · have HX := Lib.hid (turn_snoc 1 s.data.toList k (by rw [HL.out]; exact hlt))
      have hix := u8_index s k hlt
      obtain ⟨c, hc⟩ : ∃ c, c = s.data.toList.getD k 0 := ⟨_, rfl⟩
      rw [← hc] at HX hix
      have hc256 := c.toNat_lt
      have KK := Lib.hid (show k ≤ s.size ∧ k < s.size from ⟨hk, hlt⟩)
      obtain ⟨d, hd⟩ : ∃ d, d = turnB 1 c := ⟨_, rfl⟩
      rw [← hd] at HX
      have HN : Hid (b ++ ⟨#[d]⟩ = ⟨((s.data.toList.take (k + 1)).map (turnB 1)).toArray⟩) := by
        show _ = _
        rw [HX.out, HB.out, add_byte]
      clear hc
      by_cases h1 : 97 ≤ (c.toNat : Int)
      · by_cases h2 : (c.toNat : Int) ≤ 122
        · have hT := turn_up c h1 h2
          rw [← hd] at hT
          have hone := fun w => one_string w _ d hT
          clear hd hT
          go_wp2_with fail
          go_roundw
          case rel => exact ⟨k + 1, b ++ ⟨#[d]⟩, by have := KK.out; omega, by go_num, rfl, HN.out, below_alloc hbel _⟩
          case measure => have := KK.out; simp [intOf]; omega
        · have hT := turn_up_no c (by omega)
          rw [← hd] at hT
          subst hT
          have hone := fun w => one_string w _ d rfl
          clear hd
          go_wp2_with fail
          go_roundw
          case rel => exact ⟨k + 1, b ++ ⟨#[d]⟩, by have := KK.out; omega, by go_num, rfl, HN.out, below_alloc hbel _⟩
          case measure => have := KK.out; simp [intOf]; omega
      · have hT := turn_up_no c (by omega)
        rw [← hd] at hT
        subst hT
        have hone := fun w => one_string w _ d rfl
        clear hd
        go_wp2_with fail
        go_roundw
        case rel => exact ⟨k + 1, b ++ ⟨#[d]⟩, by have := KK.out; omega, by go_num, rfl, HN.out, below_alloc hbel _⟩
        case measure => have := KK.out; simp [intOf]; omega
    · have e : b = r := by
        rw [HB.out, HRS.out, List.take_of_length_le (by rw [HL.out]; omega)]; rfl
      subst e
      go_wp2_with fail
      go_ret
      exact ⟨rfl, hbel⟩
set_option maxRecDepth 100000 in
set_option maxHeartbeats 1000000 in
theorem rturn2_calls (s : ByteArray) (w : World) (hs : s.size ≤ 400) :
    Calls Tryd.prog 7 #[.string s, .int .i64 2] w fun e w' => e = .returned (.string (turnS 2 s)) ∧ Below w.heap.size w w' := by
  have hl : s.data.toList.length = s.size := by rw [Array.length_toList]; rfl
  have HL := Lib.hid hl
  clear hl
  obtain ⟨r, hr⟩ : ∃ r, r = turnS 2 s := ⟨_, rfl⟩
  rw [← hr]
  have HRS := Lib.hid hr
  clear hr
  go_enter Tryd.func7, Tryd.ntmps7
  go_wp2_with fail
  go_loopw [5, 10] (fun v i wr => ∃ (k : Nat) (b : ByteArray), k ≤ s.size ∧ i = .int .i64 k ∧ v = .string b ∧ b = ⟨((s.data.toList.take k).map (turnB 2)).toArray⟩ ∧ Below w.heap.size w wr) (fun _ i _ => s.size - (intOf i).toNat)
  case atStart => exact ⟨0, ⟨#[]⟩, Nat.zero_le _, rfl, rfl, rfl, Below.refl _ _⟩
  case round =>
    obtain ⟨k, b, hk, rfl, rfl, hb, hbel⟩ := hrel
    have hbs : b.size ≤ 400 := by
      rw [hb]
      show ((s.data.toList.take k).map (turnB 2)).toArray.size ≤ 400
      have := HL.out
      simp at this ⊢
      omega
    have HB := Lib.hid hb
    clear hb
    by_cases hlt : k < s.size
    · have HX := Lib.hid (turn_snoc 2 s.data.toList k (by rw [HL.out]; exact hlt))
      have hix := u8_index s k hlt
      obtain ⟨c, hc⟩ : ∃ c, c = s.data.toList.getD k 0 := ⟨_, rfl⟩
      rw [← hc] at HX hix
      have hc256 := c.toNat_lt
      have KK := Lib.hid (show k ≤ s.size ∧ k < s.size from ⟨hk, hlt⟩)
      obtain ⟨d, hd⟩ : ∃ d, d = turnB 2 c := ⟨_, rfl⟩
      rw [← hd] at HX
      have HN : Hid (b ++ ⟨#[d]⟩ = ⟨((s.data.toList.take (k + 1)).map (turnB 2)).toArray⟩) := by
        show _ = _
        rw [HX.out, HB.out, add_byte]
      clear hc
      by_cases h1 : 65 ≤ (c.toNat : Int)
      · by_cases h2 : (c.toNat : Int) ≤ 90
        · have hT := turn_low c h1 h2
          rw [← hd] at hT
          have hone := fun w => one_string w _ d hT
          clear hd hT
          go_wp2_with fail
          go_roundw
          case rel => exact ⟨k + 1, b ++ ⟨#[d]⟩, by have := KK.out; omega, by go_num, rfl, HN.out, below_alloc hbel _⟩
          case measure => have := KK.out; simp [intOf]; omega
        · have hT := turn_low_no c (by omega)
          rw [← hd] at hT
          subst hT
          have hone := fun w => one_string w _ d rfl
          clear hd
          go_wp2_with fail
          go_roundw
          case rel => exact ⟨k + 1, b ++ ⟨#[d]⟩, by have := KK.out; omega, by go_num, rfl, HN.out, below_alloc hbel _⟩
          case measure => have := KK.out; simp [intOf]; omega
      · have hT := turn_low_no c (by omega)
        rw [← hd] at hT
        subst hT
        have hone := fun w => one_string w _ d rfl
        clear hd
        go_wp2_with fail
        go_roundw
        case rel => exact ⟨k + 1, b ++ ⟨#[d]⟩, by have := KK.out; omega, by go_num, rfl, HN.out, below_alloc hbel _⟩
        case measure => have := KK.out; simp [intOf]; omega
    · have e : b = r := by
        rw [HB.out, HRS.out, List.take_of_length_le (by rw [HL.out]; omega)]; rfl
      subst e
      go_wp2_with fail
      go_ret
      exact ⟨rfl, hbel⟩
theorem rturn_none (s : ByteArray) (m : Int) (h1 : ¬ m = 1) (h2 : ¬ m = 2) (w : World) (hs : s.size ≤ 400) :
    Calls Tryd.prog 7 #[.string s, .int .i64 m] w fun e w' => e = .returned (.string s) ∧ Below w.heap.size w w' := by
  have e1 : (m == 1) = false := by simpa using h1
  have e2 : (m == 2) = false := by simpa using h2
  have hl : s.data.toList.length = s.size := by rw [Array.length_toList]; rfl
  have HL := Lib.hid hl
  clear hl
  go_enter Tryd.func7, Tryd.ntmps7
  go_wp2_with fail
  go_loopw [5, 10] (fun v i wr => ∃ (k : Nat) (b : ByteArray), k ≤ s.size ∧ i = .int .i64 k ∧ v = .string b ∧ b = ⟨(s.data.toList.take k).toArray⟩ ∧ Below w.heap.size w wr) (fun _ i _ => s.size - (intOf i).toNat)
  case atStart => exact ⟨0, ⟨#[]⟩, Nat.zero_le _, rfl, rfl, rfl, Below.refl _ _⟩
  case round =>
    obtain ⟨k, b, hk, rfl, rfl, hb, hbel⟩ := hrel
    have hbs : b.size ≤ 400 := by
      rw [hb]
      show (s.data.toList.take k).toArray.size ≤ 400
      have := HL.out
      simp at this ⊢
      omega
    have HB := Lib.hid hb
    clear hb
    by_cases hlt : k < s.size
    · have HX := Lib.hid (take_snoc s.data.toList 0 k (by rw [HL.out]; exact hlt))
      have hix := u8_index s k hlt
      obtain ⟨c, hc⟩ : ∃ c, c = s.data.toList.getD k 0 := ⟨_, rfl⟩
      rw [← hc] at HX hix
      have hc256 := c.toNat_lt
      have KK := Lib.hid (show k ≤ s.size ∧ k < s.size from ⟨hk, hlt⟩)
      have HN : Hid (b ++ ⟨#[c]⟩ = ⟨(s.data.toList.take (k + 1)).toArray⟩) := by
        show _ = _
        rw [HX.out, HB.out, add_byte]
      have hone := fun w => one_string w _ c rfl
      clear hc
      go_wp2_with fail
      go_roundw
      case rel => exact ⟨k + 1, b ++ ⟨#[c]⟩, by have := KK.out; omega, by go_num, rfl, HN.out, below_alloc hbel _⟩
      case measure => have := KK.out; simp [intOf]; omega
    · have e : b = s := by
        rw [HB.out, List.take_of_length_le (by rw [HL.out]; omega)]
      subst e
      go_wp2_with fail
      go_ret
      exact ⟨rfl, hbel⟩
theorem rturn_calls (s : ByteArray) (m : Int) (w : World) (hs : s.size ≤ 400) :
    Calls Tryd.prog 7 #[.string s, .int .i64 m] w fun e w' => e = .returned (.string (turnS m s)) ∧ Below w.heap.size w w' := by
  by_cases h1 : m = 1
  · subst h1; exact rturn1_calls s w hs
  · by_cases h2 : m = 2
    · subst h2; exact rturn2_calls s w hs
    · rw [turnS_other m s h1 h2]; exact rturn_none s m h1 h2 w hs
def idleB (l : List UInt8) : Bool := l.all isB
theorem isB_contains (c : UInt8) : [32, 9, 10, 12, 13].contains c = isB c := by
  unfold isB; simp [List.contains, List.elem]
  cases c == 32 <;> cases c == 9 <;> cases c == 10 <;> cases c == 12 <;> cases c == 13 <;> rfl
theorem dropWhile_nil {α : Type} (p : α → Bool) : ∀ l : List α, l.dropWhile p = [] ↔ l.all p = true
  | [] => by simp
  | x :: l => by
    rw [List.dropWhile_cons]
    cases h : p x
    · simp [h]
    · simp [h, dropWhile_nil p l]
theorem trim_nil (l : List UInt8) : Lib.trimS l [32, 9, 10, 12, 13] = [] ↔ idleB l = true := by
  have e : (fun c => [32, 9, 10, 12, 13].contains c) = isB := funext isB_contains
  unfold Lib.trimS Lib.trimLeftS
  rw [e, dropWhile_nil]
  unfold Lib.trimRightS idleB
  rw [e, List.all_reverse]
  constructor
  · intro h
    rcases hd : l.reverse.dropWhile isB with _ | ⟨x, r⟩
    · have := (dropWhile_nil isB l.reverse).1 hd
      rwa [List.all_reverse] at this
    · have hx := List.head?_dropWhile_not isB l.reverse
      rw [hd] at hx h
      simp at hx h
      rw [hx] at h; simp at h
  · intro h
    have : l.reverse.dropWhile isB = [] := (dropWhile_nil isB l.reverse).2 (by rw [List.all_reverse]; exact h)
    rw [this]; rfl
end Go.Proofs.YtkppignoomnmdaaDoor
