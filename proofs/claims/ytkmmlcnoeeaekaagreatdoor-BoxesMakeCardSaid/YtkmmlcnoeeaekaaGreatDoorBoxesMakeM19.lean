/- Several texts in one: TurnR, TurnLaw, BoxesLaw. -/
import Derived.Test.YtkmmlcnoeeaekaaGreatDoorBoxesMakeM18
import Derived.Deep.Cut
import Derived.Test.YtkmmlcnoeeaekaaGreatDoorBoxesMakeM2
import Derived.Outline
/- Contracts of the reference's Turn and of both Idles; the walk of WhiteTurns. -/
namespace Go.Proofs.YtkmmlcnoeeaekaaGreatDoor
open Go.RowKit
set_option linter.unusedVariables false
set_option linter.unusedSimpArgs false

theorem u8_index (s : ByteArray) (k : Nat) (h : k < s.size) : s[k] = s.data.toList.getD k 0 := by
  have h' : k < s.data.toList.length := by simpa using h
  have e : s.data.toList.getD k 0 = s.data.toList[k] := by rw [List.getD, List.getElem?_eq_getElem h']; rfl
  rw [e]; rfl
theorem add_byte (l : List UInt8) (d : UInt8) : (⟨l.toArray⟩ : ByteArray) ++ ⟨#[d]⟩ = ⟨(l ++ [d]).toArray⟩ := by
  apply ByteArray.ext
  simp
theorem one_string (w : World) (x : Int) (d : UInt8) (h : (d.toNat : Int) = x) :
    (convert 186 9 (.slice (some ⟨w.heap.size, 0, none⟩) 1 1)).run Tryz.prog (w.alloc (.cells #[.int .u8 x] 5)) = .ok (.string ⟨#[d]⟩) (w.alloc (.cells #[.int .u8 x] 5)) := by
  subst h
  exact run_string_cells (w.alloc (.cells #[.int .u8 (d.toNat : Int)] 5)) w.heap.size 1 [d] (cell_one_new _ _ _)
theorem turn_snoc (m : Int) (l : List UInt8) (k : Nat) (h : k < l.length) : (l.take (k + 1)).map (turnB m) = (l.take k).map (turnB m) ++ [turnB m (l.getD k 0)] := by
  rw [take_snoc l 0 k h]; simp
set_option maxRecDepth 100000 in
set_option maxHeartbeats 1000000 in
theorem rturn1_calls (s : ByteArray) (w : World) (hs : s.size ≤ 400) :
    Calls Tryz.prog 116 #[.string s, .int .i64 1] w fun e w' => e = .returned (.string (turnS 1 s)) ∧ Below w.heap.size w w' := by
  have hl : s.data.toList.length = s.size := by rw [Array.length_toList]; rfl
  have HL := Lib.hid hl
  clear hl
  obtain ⟨r, hr⟩ : ∃ r, r = turnS 1 s := ⟨_, rfl⟩
  rw [← hr]
  have HRS := Lib.hid hr
  clear hr
  go_enter Tryz.func116, Tryz.ntmps116
  go_wp2_with fail
  go_loopw [5, 10] (fun v i wr => ∃ (k : Nat) (b : ByteArray), k ≤ s.size ∧ i = .int .i64 k ∧ v = .string b ∧ b = ⟨((s.data.toList.take k).map (turnB 1)).toArray⟩ ∧ Below w.heap.size w wr) (fun _ i _ => s.size - (intOf i).toNat)
  case atStart => exact ⟨0, ⟨#[]⟩, Nat.zero_le _, rfl, rfl, rfl, Below.refl _ _⟩
  case round =>
    obtain ⟨k, b, hk, rfl, rfl, hb, hbel⟩ := hrel
    have hbs : b.size ≤ 400 := by
      rw [hb]
      show ((s.data.toList.take k).map (turnB 1)).toArray.size ≤ 400
      have := HL.out
      simp at this ⊢
      omega
    have HB := Lib.hid hb
    clear hb
    by_cases hlt : k < s.size
    · have HX := Lib.hid (turn_snoc 1 s.data.toList k (by rw [HL.out]; exact hlt))
      have hix := u8_index s k hlt
      obtain ⟨c, hc⟩ : ∃ c, c = s.data.toList.getD k 0 := ⟨_, rfl⟩
      rw [← hc] at HX hix
      have hc256 := c.toNat_lt
      have KK := Lib.hid (show k ≤ s.size ∧ k < s.size from ⟨hk, hlt⟩)
      obtain ⟨d, hd⟩ : ∃ d, d = turnB 1 c := ⟨_, rfl⟩
      rw [← hd] at HX
      have HN : Hid (b ++ ⟨#[d]⟩ = ⟨((s.data.toList.take (k + 1)).map (turnB 1)).toArray⟩) := by
        show _ = _
        rw [HX.out, HB.out, add_byte]
      clear hc
      by_cases h1 : 97 ≤ (c.toNat : Int)
      · by_cases h2 : (c.toNat : Int) ≤ 122
        · have hT := turn_up c h1 h2
          rw [← hd] at hT
          have hone := fun w => one_string w _ d hT
          clear hd hT
          go_wp2_with fail
          go_roundw
          case rel => exact ⟨k + 1, b ++ ⟨#[d]⟩, by have := KK.out; omega, by go_num, rfl, HN.out, below_alloc hbel _⟩
          case measure => have := KK.out; simp [intOf]; omega
        · have hT := turn_up_no c (by omega)
          rw [← hd] at hT
          subst hT
          have hone := fun w => one_string w _ d rfl
          clear hd
          go_wp2_with fail
          go_roundw
          case rel => exact ⟨k + 1, b ++ ⟨#[d]⟩, by have := KK.out; omega, by go_num, rfl, HN.out, below_alloc hbel _⟩
          case measure => have := KK.out; simp [intOf]; omega
      · have hT := turn_up_no c (by omega)
        rw [← hd] at hT
        subst hT
        have hone := fun w => one_string w _ d rfl
        clear hd
        go_wp2_with fail
        go_roundw
        case rel => exact ⟨k + 1, b ++ ⟨#[d]⟩, by have := KK.out; omega, by go_num, rfl, HN.out, below_alloc hbel _⟩
        case measure => have := KK.out; simp [intOf]; omega
    · have e : b = r := by
        rw [HB.out, HRS.out, List.take_of_length_le (by rw [HL.out]; omega)]; rfl
      subst e
      go_wp2_with fail
      go_ret
      exact ⟨rfl, hbel⟩
set_option maxRecDepth 100000 in
set_option maxHeartbeats 1000000 in
theorem rturn2_calls (s : ByteArray) (w : World) (hs : s.size ≤ 400) :
    Calls Tryz.prog 116 #[.string s, .int .i64 2] w fun e w' => e = .returned (.string (turnS 2 s)) ∧ Below w.heap.size w w' := by
  have hl : s.data.toList.length = s.size := by rw [Array.length_toList]; rfl
  have HL := Lib.hid hl
  clear hl
  obtain ⟨r, hr⟩ : ∃ r, r = turnS 2 s := ⟨_, rfl⟩
  rw [← hr]
  have HRS := Lib.hid hr
  clear hr
  go_enter Tryz.func116, Tryz.ntmps116
  go_wp2_with fail
  go_loopw [5, 10] (fun v i wr => ∃ (k : Nat) (b : ByteArray), k ≤ s.size ∧ i = .int .i64 k ∧ v = .string b ∧ b = ⟨((s.data.toList.take k).map (turnB 2)).toArray⟩ ∧ Below w.heap.size w wr) (fun _ i _ => s.size - (intOf i).toNat)
  case atStart => exact ⟨0, ⟨#[]⟩, Nat.zero_le _, rfl, rfl, rfl, Below.refl _ _⟩
  case round =>
    obtain ⟨k, b, hk, rfl, rfl, hb, hbel⟩ := hrel
    have hbs : b.size ≤ 400 := by
      rw [hb]
      show ((s.data.toList.take k).map (turnB 2)).toArray.size ≤ 400
      have := HL.out
      simp at this ⊢
      omega
    have HB := Lib.hid hb
    clear hb
    by_cases hlt : k < s.size
    · have HX := Lib.hid (turn_snoc 2 s.data.toList k (by rw [HL.out]; exact hlt))
      have hix := u8_index s k hlt
      obtain ⟨c, hc⟩ : ∃ c, c = s.data.toList.getD k 0 := ⟨_, rfl⟩
      rw [← hc] at HX hix
      have hc256 := c.toNat_lt
      have KK := Lib.hid (show k ≤ s.size ∧ k < s.size from ⟨hk, hlt⟩)
      obtain ⟨d, hd⟩ : ∃ d, d = turnB 2 c := ⟨_, rfl⟩
      rw [← hd] at HX
      have HN : Hid (b ++ ⟨#[d]⟩ = ⟨((s.data.toList.take (k + 1)).map (turnB 2)).toArray⟩) := by
        show _ = _
        rw [HX.out, HB.out, add_byte]
      clear hc
      by_cases h1 : 65 ≤ (c.toNat : Int)
      · by_cases h2 : (c.toNat : Int) ≤ 90
        · have hT := turn_low c h1 h2
          rw [← hd] at hT
          have hone := fun w => one_string w _ d hT
          clear hd hT
          go_wp2_with fail
          go_roundw
          case rel => exact ⟨k + 1, b ++ ⟨#[d]⟩, by have := KK.out; omega, by go_num, rfl, HN.out, below_alloc hbel _⟩
          case measure => have := KK.out; simp [intOf]; omega
        · have hT := turn_low_no c (by omega)
          rw [← hd] at hT
          subst hT
          have hone := fun w => one_string w _ d rfl
          clear hd
          go_wp2_with fail
          go_roundw
          case rel => exact ⟨k + 1, b ++ ⟨#[d]⟩, by have := KK.out; omega, by go_num, rfl, HN.out, below_alloc hbel _⟩
          case measure => have := KK.out; simp [intOf]; omega
      · have hT := turn_low_no c (by omega)
        rw [← hd] at hT
        subst hT
        have hone := fun w => one_string w _ d rfl
        clear hd
        go_wp2_with fail
        go_roundw
        case rel => exact ⟨k + 1, b ++ ⟨#[d]⟩, by have := KK.out; omega, by go_num, rfl, HN.out, below_alloc hbel _⟩
        case measure => have := KK.out; simp [intOf]; omega
    · have e : b = r := by
        rw [HB.out, HRS.out, List.take_of_length_le (by rw [HL.out]; omega)]; rfl
      subst e
      go_wp2_with fail
      go_ret
      exact ⟨rfl, hbel⟩
theorem rturn_none (s : ByteArray) (m : Int) (h1 : ¬ m = 1) (h2 : ¬ m = 2) (w : World) (hs : s.size ≤ 400) :
    Calls Tryz.prog 116 #[.string s, .int .i64 m] w fun e w' => e = .returned (.string s) ∧ Below w.heap.size w w' := by
  have e1 : (m == 1) = false := by simpa using h1
  have e2 : (m == 2) = false := by simpa using h2
  have hl : s.data.toList.length = s.size := by rw [Array.length_toList]; rfl
  have HL := Lib.hid hl
  clear hl
  go_enter Tryz.func116, Tryz.ntmps116
  go_wp2_with fail
  go_loopw [5, 10] (fun v i wr => ∃ (k : Nat) (b : ByteArray), k ≤ s.size ∧ i = .int .i64 k ∧ v = .string b ∧ b = ⟨(s.data.toList.take k).toArray⟩ ∧ Below w.heap.size w wr) (fun _ i _ => s.size - (intOf i).toNat)
  case atStart => exact ⟨0, ⟨#[]⟩, Nat.zero_le _, rfl, rfl, rfl, Below.refl _ _⟩
  case round =>
    obtain ⟨k, b, hk, rfl, rfl, hb, hbel⟩ := hrel
    have hbs : b.size ≤ 400 := by
      rw [hb]
      show (s.data.toList.take k).toArray.size ≤ 400
      have := HL.out
      simp at this ⊢
      omega
    have HB := Lib.hid hb
    clear hb
    by_cases hlt : k < s.size
    · have HX := Lib.hid (take_snoc s.data.toList 0 k (by rw [HL.out]; exact hlt))
      have hix := u8_index s k hlt
      obtain ⟨c, hc⟩ : ∃ c, c = s.data.toList.getD k 0 := ⟨_, rfl⟩
      rw [← hc] at HX hix
      have hc256 := c.toNat_lt
      have KK := Lib.hid (show k ≤ s.size ∧ k < s.size from ⟨hk, hlt⟩)
      have HN : Hid (b ++ ⟨#[c]⟩ = ⟨(s.data.toList.take (k + 1)).toArray⟩) := by
        show _ = _
        rw [HX.out, HB.out, add_byte]
      have hone := fun w => one_string w _ c rfl
      clear hc
      go_wp2_with fail
      go_roundw
      case rel => exact ⟨k + 1, b ++ ⟨#[c]⟩, by have := KK.out; omega, by go_num, rfl, HN.out, below_alloc hbel _⟩
      case measure => have := KK.out; simp [intOf]; omega
    · have e : b = s := by
        rw [HB.out, List.take_of_length_le (by rw [HL.out]; omega)]
      subst e
      go_wp2_with fail
      go_ret
      exact ⟨rfl, hbel⟩
theorem rturn_calls (s : ByteArray) (m : Int) (w : World) (hs : s.size ≤ 400) :
    Calls Tryz.prog 116 #[.string s, .int .i64 m] w fun e w' => e = .returned (.string (turnS m s)) ∧ Below w.heap.size w w' := by
  by_cases h1 : m = 1
  · subst h1; exact rturn1_calls s w hs
  · by_cases h2 : m = 2
    · subst h2; exact rturn2_calls s w hs
    · rw [turnS_other m s h1 h2]; exact rturn_none s m h1 h2 w hs
def idleB (l : List UInt8) : Bool := l.all isB
theorem isB_contains (c : UInt8) : [32, 9, 10, 12, 13].contains c = isB c := by
  unfold isB; simp [List.contains, List.elem]
  cases c == 32 <;> cases c == 9 <;> cases c == 10 <;> cases c == 12 <;> cases c == 13 <;> rfl
theorem dropWhile_nil {α : Type} (p : α → Bool) : ∀ l : List α, l.dropWhile p = [] ↔ l.all p = true
  | [] => by simp
  | x :: l => by
    rw [List.dropWhile_cons]
    cases h : p x
    · simp [h]
    · simp [h, dropWhile_nil p l]
theorem trim_nil (l : List UInt8) : Lib.trimS l [32, 9, 10, 12, 13] = [] ↔ idleB l = true := by
  have e : (fun c => [32, 9, 10, 12, 13].contains c) = isB := funext isB_contains
  unfold Lib.trimS Lib.trimLeftS
  rw [e, dropWhile_nil]
  unfold Lib.trimRightS idleB
  rw [e, List.all_reverse]
  constructor
  · intro h
    rcases hd : l.reverse.dropWhile isB with _ | ⟨x, r⟩
    · have := (dropWhile_nil isB l.reverse).1 hd
      rwa [List.all_reverse] at this
    · have hx := List.head?_dropWhile_not isB l.reverse
      rw [hd] at hx h
      simp at hx h
      rw [hx] at h; simp at h
  · intro h
    have : l.reverse.dropWhile isB = [] := (dropWhile_nil isB l.reverse).2 (by rw [List.all_reverse]; exact h)
    rw [this]; rfl
end Go.Proofs.YtkmmlcnoeeaekaaGreatDoor
/- Contracts of both Idles; the walk of WhiteTurns. -/
namespace Go.Proofs.YtkmmlcnoeeaekaaGreatDoor
open Go.RowKit
set_option linter.unusedVariables false
set_option linter.unusedSimpArgs false

theorem trim_calls (s : ByteArray) (w : World) (hs : s.size ≤ 400) :
    Calls Tryz.prog 173 #[.string s, .string ⟨#[32, 9, 10, 12, 13]⟩] w fun e w' => e = .returned (.string ⟨(Lib.trimS s.data.toList [32, 9, 10, 12, 13]).toArray⟩) ∧ Below w.heap.size w w' :=
  Any.strings_Trim_laid Tryz.lays160 (by kernel_rfl) s ⟨#[32, 9, 10, 12, 13]⟩ w (by omega) (by decide) (ascii_of_all (by decide))
theorem idle_calls (s : ByteArray) (w : World) (hs : s.size ≤ 400) :
    Calls Tryz.prog 179 #[.string s] w fun e w' => e = .returned (.bool (idleB s.data.toList)) ∧ Below w.heap.size w w' := by
  have HC := Lib.hid (trim_calls s w hs)
  have hn := trim_nil s.data.toList
  cases hi : idleB s.data.toList
  · rw [hi] at hn
    obtain ⟨l, hl⟩ : ∃ l, l = Lib.trimS s.data.toList [32, 9, 10, 12, 13] := ⟨_, rfl⟩
    rw [← hl] at HC hn
    have he : (⟨l.toArray⟩ : ByteArray).toList = l := byteArray_toList l
    have hne : l.isEmpty = false := by cases l with | nil => simp at hn | cons x r => rfl
    obtain ⟨r, hr⟩ : ∃ r : ByteArray, r = ⟨l.toArray⟩ := ⟨_, rfl⟩
    rw [← hr] at HC he
    have hre : r.toList.isEmpty = false := by rw [he]; exact hne
    have hre2 : (!r.toList.isEmpty) = true := by rw [hre]; rfl
    clear hn hl he hne hr hi
    go_enter Tryz.func179, Tryz.ntmps179
    go_wp2_with (go_at_call 173; refine HC.out.mono ?_; rintro e w' ⟨rfl, hb⟩)
    go_ret
    exact ⟨rfl, hb⟩
  · rw [hn.2 hi] at HC
    clear hn hi
    go_enter Tryz.func179, Tryz.ntmps179
    go_wp2_with (go_at_call 173; refine HC.out.mono ?_; rintro e w' ⟨rfl, hb⟩)
    go_ret
    exact ⟨rfl, hb⟩
set_option maxRecDepth 100000 in
set_option maxHeartbeats 1000000 in
theorem ridle_calls (s : ByteArray) (w : World) (hs : s.size ≤ 400) :
    Calls Tryz.prog 163 #[.string s] w fun e w' => e = .returned (.bool (idleB s.data.toList)) ∧ Below w.heap.size w w' := by
  have hl : s.data.toList.length = s.size := by rw [Array.length_toList]; rfl
  have HL := Lib.hid hl
  obtain ⟨r, hr⟩ : ∃ r, r = idleB s.data.toList := ⟨_, rfl⟩
  rw [← hr]
  have HRS := Lib.hid hr
  clear hl hr
  go_enter Tryz.func163, Tryz.ntmps163
  go_wp2_with fail
  go_loopw [6] (fun i wr => ∃ k : Nat, k ≤ s.size ∧ i = .int .i64 k ∧ idleB (s.data.toList.take k) = true ∧ Below w.heap.size w wr) (fun i _ => s.size - (intOf i).toNat)
  case atStart => exact ⟨0, Nat.zero_le _, rfl, rfl, Below.refl _ _⟩
  case round =>
    obtain ⟨k, hk, rfl, hb, hbel⟩ := hrel
    have HB := Lib.hid hb
    clear hb
    by_cases hlt : k < s.size
    · have HX := Lib.hid (take_snoc s.data.toList 0 k (by rw [HL.out]; exact hlt))
      have hix := u8_index s k hlt
      have hsplit : s.data.toList = s.data.toList.take k ++ s.data.toList.getD k 0 :: s.data.toList.drop (k + 1) := by
        have h' : k < s.data.toList.length := by rw [HL.out]; exact hlt
        conv => lhs; rw [← List.take_append_drop k s.data.toList, List.drop_eq_getElem_cons h']
        rw [List.getD, List.getElem?_eq_getElem h']; rfl
      obtain ⟨c, hc⟩ : ∃ c, c = s.data.toList.getD k 0 := ⟨_, rfl⟩
      rw [← hc] at HX hix hsplit
      have HSP := Lib.hid hsplit
      have KK := Lib.hid (show k ≤ s.size ∧ k < s.size from ⟨hk, hlt⟩)
      clear hc hsplit
      cases hcb : isB c
      · have e : r = false := by rw [HRS.out, HSP.out]; simp [idleB, hcb]
        subst e
        have HC := Lib.hid (fun w => by have h := rblank_calls c w; rw [hcb] at h; exact h)
        clear hcb
        go_wp2_with (go_at_call 185; refine (HC.out _).mono ?_; rintro e w' ⟨rfl, hb⟩)
        go_ret
        exact ⟨rfl, below_then hbel hb⟩
      · have HC := Lib.hid (fun w => by have h := rblank_calls c w; rw [hcb] at h; exact h)
        have HN : Hid (idleB (s.data.toList.take (k + 1)) = true) := by
          show _ = _
          have h0 := HB.out
          unfold idleB at h0
          rw [HX.out]; simp [idleB, hcb] at h0 ⊢; exact h0
        clear hcb
        go_wp2_with (go_at_call 185; refine (HC.out _).mono ?_; rintro e w' ⟨rfl, hb⟩)
        go_roundw
        case rel => exact ⟨k + 1, by have := KK.out; omega, by go_num, HN.out, below_then hbel hb⟩
        case measure => have := KK.out; simp [intOf]; omega
    · have e : r = true := by
        have h0 := HB.out
        rw [List.take_of_length_le (by rw [HL.out]; omega)] at h0
        rw [HRS.out]; exact h0
      subst e
      go_wp2_with fail
      go_ret
      exact ⟨rfl, hbel⟩
end Go.Proofs.YtkmmlcnoeeaekaaGreatDoor
/- boxes.Out; the closed fact 'boxed'; the walk of BoxesChecks. -/
namespace Go.Proofs.YtkmmlcnoeeaekaaGreatDoor
open Go.RowKit
set_option linter.unusedVariables false
/-- P308: 1 floats, 2 is placed. -/
def outN (p f : Int) : Int := if p = 2 ∨ p = 3 then 2 else if f = 1 ∨ f = 2 then 1 else 0
set_option maxHeartbeats 400000 in
theorem out_calls (cs : Array Value) (p f : Int) (w : World) (h3 : cs[3]? = some (.int .i64 p)) (h5 : cs[5]? = some (.int .i64 f)) :
    Calls Tryz.prog 9 #[.agg cs] w fun e w' => e = .returned (.int .i64 (outN p f)) ∧ Below w.heap.size w w' := by
  have c3 := (new_cell w cs 35 3).trans h3
  have c5 := (new_cell w cs 35 5).trans h5
  clear h3 h5
  by_cases p2 : p = 2
  · subst p2
    go_enter Tryz.func9, Tryz.ntmps9
    go_wp2_with fail
    go_ret
    exact ⟨ret_i (by unfold outN; simp [*]), below_alloc (Below.refl _ _) _⟩
  by_cases p3 : p = 3
  · subst p3
    go_enter Tryz.func9, Tryz.ntmps9
    go_wp2_with fail
    go_ret
    exact ⟨ret_i (by unfold outN; simp [*]), below_alloc (Below.refl _ _) _⟩
  have e2 : (p == 2) = false := by simpa using p2
  have e3 : (p == 3) = false := by simpa using p3
  by_cases f1 : f = 1
  · subst f1
    go_enter Tryz.func9, Tryz.ntmps9
    go_wp2_with fail
    go_ret
    exact ⟨ret_i (by unfold outN; simp [*]), below_alloc (Below.refl _ _) _⟩
  by_cases f2 : f = 2
  · subst f2
    go_enter Tryz.func9, Tryz.ntmps9
    go_wp2_with fail
    go_ret
    exact ⟨ret_i (by unfold outN; simp [*]), below_alloc (Below.refl _ _) _⟩
  have e4 : (f == 1) = false := by simpa using f1
  have e5 : (f == 2) = false := by simpa using f2
  · go_enter Tryz.func9, Tryz.ntmps9
    go_wp2_with fail
    go_ret
    exact ⟨ret_i (by unfold outN; simp [*]), below_alloc (Below.refl _ _) _⟩

/-- The zero value of a style (118 cells: the seat's loader leaves it out). -/
def zst : Array Value := Array.replicate 118 (.int .i64 0)
theorem zst_size : zst.size = 118 := by simp [zst]
theorem zst_run (w : World) : (zeroValue 35).run Tryz.prog w = .ok (.agg zst) w := by kernel_rfl
attribute [local go_sem] zst_run zst_size
def bad1 (g : Nat) : List BoxV := [⟨4, 0, -1, some ⟨g, 0, none⟩, [0], 1, ⟨#[]⟩⟩]
theorem bad1_no (g : Nat) : boxesE (bad1 g) = 3 := no_of_kids _ 0 (by simp [bad1]) (by simp [bad1, bx, kidsOk])
set_option maxRecDepth 100000 in
set_option maxHeartbeats 1000000 in
theorem boxed_calls (w : World) :
    Calls Tryz.prog 8 #[] w fun e w' => e = .returned (.bool true) ∧ Below w.heap.size w w' := by
  have hc := check_calls (some ⟨w.heap.size + 1, 0, none⟩) 1 1 (w.heap.size + 2) (bad1 w.heap.size) ((w.alloc (.cells #[.int .i64 0] 3)).alloc (.cells #[.int .i64 4, .int .i64 0, .int .i64 (-1), .slice (some ⟨w.heap.size, 0, none⟩) 1 1, .string ⟨#[]⟩] 72)) rfl (by
    intro i hi
    have h0 : i = 0 := by simp [bad1] at hi; omega
    subst h0
    have e1 : (w.alloc (.cells #[.int .i64 0] 3)).heap.size = w.heap.size + 1 := alloc_size _ _
    have nc := new_cell (w.alloc (.cells #[.int .i64 0] 3)) #[.int .i64 4, .int .i64 0, .int .i64 (-1), .slice (some ⟨w.heap.size, 0, none⟩) 1 1, .string ⟨#[]⟩] 72
    rw [e1] at nc
    refine ⟨w.heap.size + 1, 0, rfl, by omega, nc 0, nc 1, nc 2, nc 3, nc 4, ?_, by simp [bad1, bx]⟩
    have hh := (Holds.new w #[.int .i64 0] 3).below ((Below.refl (w.heap.size + 1) _).alloc (by simp) (.cells #[.int .i64 4, .int .i64 0, .int .i64 (-1), .slice (some ⟨w.heap.size, 0, none⟩) 1 1, .string ⟨#[]⟩] 72)) (Nat.le_refl _)
    exact hh.more (by omega)) (by omega) (by simp)
  rw [bad1_no] at hc
  have HC := Lib.hid hc
  clear hc
  have hbel := Below.refl w.heap.size w
  go_enter Tryz.func8, Tryz.ntmps8
  go_wp2_with (first | (go_at_call 32; refine HC.out.mono ?_; rintro e w1 ⟨rfl, hb1⟩) | (go_at_call 9; refine (out_calls _ 0 1 _ rfl rfl).mono ?_; rintro e w2 ⟨rfl, hb2⟩))
  go_ret
  refine ⟨rfl, ?_⟩
  have hb0 : Below w.heap.size w ((w.alloc (.cells #[.int .i64 0] 3)).alloc (.cells #[.int .i64 4, .int .i64 0, .int .i64 (-1), .slice (some ⟨w.heap.size, 0, none⟩) 1 1, .string ⟨#[]⟩] 72)) := below_alloc (below_alloc (Below.refl _ _) _) _
  exact below_then (below_then hb0 hb1) hb2
end Go.Proofs.YtkmmlcnoeeaekaaGreatDoor
