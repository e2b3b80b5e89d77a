/- Plain law of breaks (P306, P307): the signs of a text, its breaks, its pieces. -/
import Derived.Laws.RangeAny
namespace Go.Proofs.Ytabbpdlnlibngaa
set_option linter.unusedVariables false

theorem decode_adv (s : ByteArray) (pos : Nat) (h : pos < s.size) : 1 ≤ (Utf8.decode s pos).2 := by
  by_cases ha : (s[pos]'h).toNat < 128
  · rw [decode_ascii s pos h ha]; exact Nat.le_refl _
  · exact (decode_high s pos h (by omega)).2
/-- The signs of a text from a place on. -/
def signs (s : ByteArray) (pos : Nat) : List (Nat × Int) :=
  if h : pos < s.size then (pos, ((Utf8.decode s pos).1 : Int)) :: signs s (pos + (Utf8.decode s pos).2) else []
termination_by s.size - pos
decreasing_by have := decode_adv s pos h; omega
theorem signs_at (s : ByteArray) (pos : Nat) (h : pos < s.size) : signs s pos = (pos, ((Utf8.decode s pos).1 : Int)) :: signs s (pos + (Utf8.decode s pos).2) := by
  rw [signs, dif_pos h]
theorem signs_end (s : ByteArray) (pos : Nat) (h : ¬ pos < s.size) : signs s pos = [] := by
  rw [signs, dif_neg h]
def letterB (r : Int) : Bool := (decide (97 ≤ r) && decide (r ≤ 122)) || (decide (65 ≤ r) && decide (r ≤ 90))
def otherB (r : Int) : Bool := r != 32 && r != 45 && r != 10
def wideB (a b : Int) : Bool := (decide (4352 ≤ a) && otherB b) || (decide (4352 ≤ b) && otherB a)
def mayB (a b : Int) : Bool := if a = 32 then b != 32 else if a = 45 then letterB b else wideB a b
def mayR (a b : Int) : Bool := (a == 32 && b != 32) || (a == 45 && letterB b) || (decide (4352 ≤ a) && otherB b) || (decide (4352 ≤ b) && otherB a)
theorem mayR_eq (a b : Int) : mayR a b = mayB a b := by
  unfold mayR mayB wideB
  by_cases h1 : a = 32
  · subst h1; simp [otherB]
  · by_cases h2 : a = 45
    · subst h2; simp [otherB]
    · have e1 : (a == 32) = false := by simpa using h1
      have e2 : (a == 45) = false := by simpa using h2
      simp [h1, h2, e1, e2]
def mustB (m a : Int) : Bool := (m == 1 || m == 3) && a == 10
def wrapsB (m : Int) : Bool := m == 0 || m == 3
/-- The breaks behind a sign a. -/
def brk2 (m : Int) (len : Nat) : Int → List (Nat × Int) → List (Nat × Bool)
  | a, [] => if mustB m a then [(len, true)] else []
  | a, (p, r) :: l => (if mustB m a || (wrapsB m && mayB a r) then [(p, mustB m a)] else []) ++ brk2 m len r l
def brkL (m : Int) (len : Nat) : List (Nat × Int) → List (Nat × Bool)
  | [] => []
  | (_, r) :: l => brk2 m len r l
def brks (m : Int) (s : ByteArray) : List (Nat × Bool) := brkL m s.size (signs s 0)
theorem brk2_len (m : Int) (len : Nat) : ∀ (l : List (Nat × Int)) (a : Int), (brk2 m len a l).length ≤ l.length + 1
  | [], a => by unfold brk2; split <;> simp
  | (p, r) :: l, a => by
    have := brk2_len m len l r
    unfold brk2; split <;> simp <;> omega
theorem signs_len (s : ByteArray) : ∀ n pos, s.size - pos ≤ n → (signs s pos).length ≤ s.size - pos
  | 0, pos, h => by rw [signs_end s pos (by omega)]; simp
  | n + 1, pos, h => by
    by_cases hp : pos < s.size
    · have h1 := decode_adv s pos hp
      have := signs_len s n (pos + (Utf8.decode s pos).2) (by omega)
      rw [signs_at s pos hp]; simp; omega
    · rw [signs_end s pos hp]; simp
theorem brks_len (m : Int) (s : ByteArray) : (brks m s).length ≤ s.size := by
  have h := signs_len s s.size 0 (by omega)
  unfold brks
  match hs : signs s 0 with
  | [] => simp [brkL]
  | (p, r) :: l =>
    rw [hs] at h
    have := brk2_len m s.size l r
    simp only [brkL]; simp at h; omega
/-- Places that rise, from f to len. -/
def Inc (len : Nat) : Nat → List Nat → Prop
  | f, [] => f ≤ len
  | f, a :: l => f < a ∧ a ≤ len ∧ Inc len a l
theorem brk2_inc (m : Int) (s : ByteArray) : ∀ n pos f a, s.size - pos ≤ n → f < pos → f < s.size → Inc s.size f ((brk2 m s.size a (signs s pos)).map (·.1))
  | n, pos, f, a, hn, h1, h2 => by
    by_cases hp : pos < s.size
    · match n with
      | 0 => omega
      | n + 1 =>
        have h3 := decode_adv s pos hp
        rw [signs_at s pos hp]
        unfold brk2
        split
        · simp only [List.cons_append, List.nil_append, List.map_cons, Inc]
          exact ⟨h1, by omega, brk2_inc m s n _ pos _ (by omega) (by omega) hp⟩
        · simp only [List.nil_append]
          exact brk2_inc m s n _ f _ (by omega) (by omega) h2
    · rw [signs_end s pos hp]
      unfold brk2
      split
      · exact ⟨h2, Nat.le_refl _, Nat.le_refl _⟩
      · show f ≤ s.size; omega
theorem brks_inc (m : Int) (s : ByteArray) : Inc s.size 0 ((brks m s).map (·.1)) := by
  unfold brks
  by_cases h : 0 < s.size
  · have h3 := decode_adv s 0 h
    rw [signs_at s 0 h]
    exact brk2_inc m s s.size _ 0 _ (by omega) (by omega) h
  · rw [signs_end s 0 h]; show 0 ≤ s.size; omega
/-- The pieces, as the program makes them (the end stands behind the places), and as the reference does. -/
def pcs : Nat → List Nat → List (Nat × Nat)
  | _, [] => []
  | f, a :: l => if f < a then (f, a) :: pcs a l else pcs f l
def pcsR (len : Nat) : Nat → List Nat → List (Nat × Nat)
  | f, [] => if f < len then [(f, len)] else []
  | f, a :: l => (f, a) :: pcsR len a l
theorem pcs_eq (len : Nat) : ∀ (l : List Nat) (f : Nat), Inc len f l → pcs f (l ++ [len]) = pcsR len f l
  | [], f, h => by simp [pcs, pcsR]
  | a :: l, f, h => by
    obtain ⟨h1, h2, h3⟩ := h
    simp only [List.cons_append, pcs, pcsR, if_pos h1, pcs_eq len l a h3]
theorem Inc.at_ {len : Nat} : ∀ {l : List Nat} {f : Nat} (k : Nat) {a : Nat}, Inc len f l → l[k]? = some a → a ≤ len
  | x :: l, f, 0, a, h, e => by simp at e; subst e; exact h.2.1
  | x :: l, f, k + 1, a, h, e => by simp at e; exact Inc.at_ k h.2.2 e
end Go.Proofs.Ytabbpdlnlibngaa
