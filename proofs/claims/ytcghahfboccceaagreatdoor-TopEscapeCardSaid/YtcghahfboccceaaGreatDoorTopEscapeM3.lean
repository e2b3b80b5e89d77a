/- Several texts in one: TePlain, TeChars. -/
import Derived.Lib.SplitLaws
import Derived.Lib.Replace
import Derived.Lib.RuneBytes
/- TopEscape, byte for byte: what Clean, Escape and Text make of a text; no program in sight. -/
namespace Go.Proofs.YtcghahfboccceaaGreatDoor
open Go.Lib
set_option linter.unusedVariables false

/-- A function that goes through a text as ReplaceAll does. -/
structure Replaces (old new : List UInt8) (F : List UInt8 → List UInt8) : Prop where
  nil : F [] = []
  hit : ∀ b l, old.isPrefixOf (b :: l) = true → F (b :: l) = new ++ F ((b :: l).drop old.length)
  miss : ∀ b l, old.isPrefixOf (b :: l) = false → F (b :: l) = b :: F l
theorem index_cons (b : UInt8) (l sub : List UInt8) : index (b :: l) sub = if sub.isPrefixOf (b :: l) then 0 else if index l sub == -1 then -1 else index l sub + 1 := by rw [index]
theorem Replaces.none {old new : List UInt8} {F : List UInt8 → List UInt8} (h : Replaces old new F) : ∀ s, index s old = -1 → F s = s
  | [], _ => h.nil
  | b :: l, hi => by
    rw [index_cons] at hi
    cases hp : old.isPrefixOf (b :: l) with
    | true => rw [hp] at hi; simp at hi
    | false =>
      rw [h.miss b l hp]
      rw [hp] at hi
      have hge := index_ge l old
      by_cases hl : index l old = -1
      · rw [h.none l hl]
      · simp only [Bool.false_eq_true, if_false] at hi
        rw [if_neg (by simpa using hl)] at hi
        omega
theorem Replaces.first {old new : List UInt8} {F : List UInt8 → List UInt8} (h : Replaces old new F) : ∀ s (i : Nat), index s old = i → old ≠ [] → F s = s.take i ++ new ++ F (s.drop (i + old.length))
  | [], i, hi, ho => by
    rw [index] at hi
    cases old with
    | nil => exact absurd rfl ho
    | cons a t => simp at hi
  | b :: l, i, hi, ho => by
    rw [index_cons] at hi
    cases hp : old.isPrefixOf (b :: l) with
    | true =>
      rw [hp] at hi
      simp only [if_true] at hi
      have : i = 0 := by omega
      subst this
      rw [h.hit b l hp]
      simp
    | false =>
      rw [hp] at hi
      simp only [Bool.false_eq_true, if_false] at hi
      have hge := index_ge l old
      by_cases hl : index l old = -1
      · rw [if_pos (by simpa using hl)] at hi; omega
      · rw [if_neg (by simpa using hl)] at hi
        obtain ⟨k, rfl⟩ : ∃ k, i = k + 1 := ⟨i - 1, by omega⟩
        rw [h.miss b l hp, h.first l k (by omega) ho]
        simp [Nat.add_right_comm]
theorem Replaces.all {old new : List UInt8} {F : List UInt8 → List UInt8} (h : Replaces old new F) (ho : old ≠ []) (hn : old ≠ new) (s : List UInt8) : replaceAll s old new = F s := by
  have key : ∀ n s, s.length ≤ n → replaceK old new (count s old) s = F s := by
    intro n
    induction n with
    | zero =>
      intro s hs
      have : s = [] := List.length_eq_zero_iff.1 (by omega)
      subst this
      rw [count_miss (by cases old with | nil => exact absurd rfl ho | cons a t => rfl), h.nil]; rfl
    | succ n ih =>
      intro s hs
      have hge := index_ge s old
      by_cases hi : index s old = -1
      · rw [count_miss hi, h.none s hi]; rfl
      · obtain ⟨i, hi⟩ : ∃ i : Nat, index s old = i := ⟨(index s old).toNat, by omega⟩
        have hr := index_room s old (by omega)
        have hol : 0 < old.length := by cases old with | nil => exact absurd rfl ho | cons a t => simp
        rw [count_hit ho hi, Nat.add_comm 1, replaceK_hit _ _ _ _ _ hi, h.first s i hi ho, ih _ (by simp; omega)]
  have e : (old == new) = false := by simpa using hn
  unfold replaceAll replace
  rw [e]
  simp only [Bool.false_eq_true, if_false]
  have : replaceNum s old (-1) = count s old := by unfold replaceNum; rw [if_pos (.inl (by omega))]
  rw [this]
  exact key _ s (Nat.le_refl _)
/-- One byte. -/
def rep1 (c : UInt8) (new : List UInt8) : List UInt8 → List UInt8
  | [] => []
  | b :: l => if b = c then new ++ rep1 c new l else b :: rep1 c new l
/-- Two bytes. -/
def rep2 (c d : UInt8) (new : List UInt8) : List UInt8 → List UInt8
  | [] => []
  | [b] => [b]
  | b :: b' :: l => if b = c ∧ b' = d then new ++ rep2 c d new l else b :: rep2 c d new (b' :: l)
theorem rep1_replaces (c : UInt8) (new : List UInt8) : Replaces [c] new (rep1 c new) where
  nil := rfl
  hit b l h := by
    have : c = b := by simpa [List.isPrefixOf] using h
    rw [rep1, if_pos this.symm]; rfl
  miss b l h := by
    have : ¬ b = c := fun e => by subst e; simp [List.isPrefixOf] at h
    rw [rep1, if_neg this]
theorem rep2_replaces (c d : UInt8) (new : List UInt8) : Replaces [c, d] new (rep2 c d new) where
  nil := rfl
  hit b l h := by
    cases l with
    | nil => simp [List.isPrefixOf] at h
    | cons b' l =>
      have : c = b ∧ d = b' := by simpa [List.isPrefixOf] using h
      rw [rep2, if_pos ⟨this.1.symm, this.2.symm⟩]; rfl
  miss b l h := by
    cases l with
    | nil => rfl
    | cons b' l =>
      have : ¬ (b = c ∧ b' = d) := fun e => by obtain ⟨rfl, rfl⟩ := e; simp [List.isPrefixOf] at h
      rw [rep2, if_neg this]
/-- The names of references. -/
def nAmp : List UInt8 := [38, 97, 109, 112, 59]
def nNb : List UInt8 := [38, 110, 98, 115, 112, 59]
def nLt : List UInt8 := [38, 108, 116, 59]
def nGt : List UInt8 := [38, 103, 116, 59]
/-- entity.Escape of a text. -/
def escape (s : List UInt8) : List UInt8 := replaceAll (replaceAll (replaceAll (replaceAll s [38] nAmp) [194, 160] nNb) [60] nLt) [62] nGt
/-- .. in one go. -/
def esc : List UInt8 → List UInt8
  | [] => []
  | [b] => if b = 38 then nAmp else if b = 60 then nLt else if b = 62 then nGt else [b]
  | b :: b' :: l => if b = 38 then nAmp ++ esc (b' :: l) else if b = 60 then nLt ++ esc (b' :: l) else if b = 62 then nGt ++ esc (b' :: l) else if b = 194 ∧ b' = 160 then nNb ++ esc l else b :: esc (b' :: l)
theorem rep1_app {c : UInt8} {new p : List UInt8} (h : ∀ b ∈ p, b ≠ c) (x : List UInt8) : rep1 c new (p ++ x) = p ++ rep1 c new x := by
  induction p with
  | nil => rfl
  | cons b p ih =>
    have hb : b ≠ c := h b (by simp)
    rw [List.cons_append, rep1, if_neg hb, ih (fun b hb => h b (by simp [hb]))]; rfl
theorem rep1_ne {c b : UInt8} {new : List UInt8} (h : b ≠ c) (x : List UInt8) : rep1 c new (b :: x) = b :: rep1 c new x := by rw [rep1, if_neg h]
theorem rep1_eq {c : UInt8} {new : List UInt8} (x : List UInt8) : rep1 c new (c :: x) = new ++ rep1 c new x := by rw [rep1, if_pos rfl]
theorem rep2_ne {c d b : UInt8} {new : List UInt8} (h : b ≠ c) (x : List UInt8) : rep2 c d new (b :: x) = b :: rep2 c d new x := by
  cases x with
  | nil => rfl
  | cons b' x => rw [rep2, if_neg (fun e => h e.1)]
theorem rep2_no {c d b : UInt8} {new : List UInt8} {x : List UInt8} (h : x.head? ≠ some d) : rep2 c d new (b :: x) = b :: rep2 c d new x := by
  cases x with
  | nil => rfl
  | cons b' x => rw [rep2, if_neg (fun e => h (by simp [e.2]))]
theorem rep2_app {c d : UInt8} {new p : List UInt8} (h : ∀ b ∈ p, b ≠ c) (x : List UInt8) : rep2 c d new (p ++ x) = p ++ rep2 c d new x := by
  induction p with
  | nil => rfl
  | cons b p ih => rw [List.cons_append, rep2_ne (h b (by simp)), ih (fun b hb => h b (by simp [hb]))]; rfl
theorem rep1_head {c d : UInt8} {new x : List UInt8} (hn : new.head? ≠ some d) (hne : new ≠ []) (h : x.head? ≠ some d) : (rep1 c new x).head? ≠ some d := by
  cases x with
  | nil => simp [rep1]
  | cons b x =>
    rw [rep1]
    split
    · cases new with
      | nil => exact absurd rfl hne
      | cons a t => simpa using hn
    · simpa using h
/-- The four, one after another. -/
def four (s : List UInt8) : List UInt8 := rep1 62 nGt (rep1 60 nLt (rep2 194 160 nNb (rep1 38 nAmp s)))
theorem escape_four (s : List UInt8) : escape s = four s := by
  unfold escape four
  rw [(rep1_replaces 38 nAmp).all (by decide) (by decide), (rep2_replaces 194 160 nNb).all (by decide) (by decide), (rep1_replaces 60 nLt).all (by decide) (by decide), (rep1_replaces 62 nGt).all (by decide) (by decide)]
theorem four_amp (l : List UInt8) : four (38 :: l) = nAmp ++ four l := by
  unfold four
  rw [rep1_eq, rep2_app (by decide), rep1_app (by decide), rep1_app (by decide)]
theorem four_lt (l : List UInt8) : four (60 :: l) = nLt ++ four l := by
  unfold four
  rw [rep1_ne (by decide), rep2_ne (by decide), rep1_eq, rep1_app (by decide)]
theorem four_gt (l : List UInt8) : four (62 :: l) = nGt ++ four l := by
  unfold four
  rw [rep1_ne (by decide), rep2_ne (by decide), rep1_ne (by decide), rep1_eq]
theorem four_nb (l : List UInt8) : four (194 :: 160 :: l) = nNb ++ four l := by
  unfold four
  rw [rep1_ne (by decide), rep1_ne (by decide), rep2, if_pos ⟨rfl, rfl⟩, rep1_app (by decide), rep1_app (by decide)]
theorem four_else {b : UInt8} {l : List UInt8} (h1 : b ≠ 38) (h2 : b ≠ 60) (h3 : b ≠ 62) (h4 : ¬ (b = 194 ∧ l.head? = some 160)) : four (b :: l) = b :: four l := by
  unfold four
  rw [rep1_ne h1]
  by_cases hb : b = 194
  · have : l.head? ≠ some 160 := fun e => h4 ⟨hb, e⟩
    rw [rep2_no (rep1_head (by decide) (by decide) this), rep1_ne h2, rep1_ne h3]
  · rw [rep2_ne hb, rep1_ne h2, rep1_ne h3]
theorem four_esc : ∀ s, four s = esc s
  | [] => rfl
  | [b] => by
    rw [esc]
    by_cases h1 : b = 38
    · subst h1; rw [four_amp]; rfl
    by_cases h2 : b = 60
    · subst h2; rw [four_lt]; rfl
    by_cases h3 : b = 62
    · subst h3; rw [four_gt]; rfl
    rw [if_neg h1, if_neg h2, if_neg h3, four_else h1 h2 h3 (by simp)]; rfl
  | b :: b' :: l => by
    rw [esc]
    by_cases h1 : b = 38
    · subst h1; rw [if_pos rfl, four_amp, four_esc (b' :: l)]
    by_cases h2 : b = 60
    · subst h2; rw [if_neg h1, if_pos rfl, four_lt, four_esc (b' :: l)]
    by_cases h3 : b = 62
    · subst h3; rw [if_neg h1, if_neg h2, if_pos rfl, four_gt, four_esc (b' :: l)]
    rw [if_neg h1, if_neg h2, if_neg h3]
    by_cases h4 : b = 194 ∧ b' = 160
    · obtain ⟨rfl, rfl⟩ := h4
      rw [if_pos ⟨rfl, rfl⟩, four_nb, four_esc l]
    · rw [if_neg h4, four_else h1 h2 h3 (by simpa using h4), four_esc (b' :: l)]
theorem escape_esc (s : List UInt8) : escape s = esc s := (escape_four s).trans (four_esc s)
theorem esc_length : ∀ s, (esc s).length ≤ 5 * s.length
  | [] => by simp [esc]
  | [b] => by rw [esc]; repeat' split
              all_goals simp [nAmp, nLt, nGt]
  | b :: b' :: l => by
    have h1 := esc_length (b' :: l)
    have h2 := esc_length l
    rw [esc]
    simp only [List.length_cons] at h1 ⊢
    repeat' split
    all_goals simp [nAmp, nLt, nGt, nNb] <;> omega
end Go.Proofs.YtcghahfboccceaaGreatDoor
/- chars.Clean, byte for byte: what it makes is clean, and what is clean stays. -/
namespace Go.Proofs.YtcghahfboccceaaGreatDoor
open Go.Lib
set_option linter.unusedVariables false

/-- chars.lead. -/
def leadF (b : Nat) : Int × Nat × Nat :=
  if b < 128 then (0, 128, 191) else if 194 ≤ b ∧ b ≤ 223 then (1, 128, 191)
  else if 224 ≤ b ∧ b ≤ 239 then (2, if b = 224 then 160 else 128, if b = 237 then 159 else 191)
  else if 240 ≤ b ∧ b ≤ 244 then (3, if b = 240 then 144 else 128, if b = 244 then 143 else 191)
  else (-1, 128, 191)
/-- chars.one's loop: k bytes are still wanted, i are read. -/
def oneK : Nat → Nat → Nat → Nat → Int → List UInt8 → Int × Nat
  | _, _, 0, i, n, _ => (n, i)
  | _, _, _ + 1, i, _, [] => (65533, i)
  | low, high, k + 1, i, n, b :: l => if b.toNat < low ∨ high < b.toNat then (65533, i) else oneK 128 191 k (i + 1) (n * 64 + (b.toNat % 64 : Nat)) l
/-- chars.one. -/
def oneF : List UInt8 → Int × Nat
  | [] => (65533, 1)
  | b :: l =>
    if (leadF b.toNat).1 < 0 then (65533, 1) else if (leadF b.toNat).1 = 0 then ((b.toNat : Int), 1)
    else oneK (leadF b.toNat).2.1 (leadF b.toNat).2.2 (leadF b.toNat).1.toNat 1 ((b.toNat % 2 ^ (6 - (leadF b.toNat).1.toNat) : Nat) : Int) l
/-- What a sign becomes. -/
def cleanR (last r : Int) : List UInt8 := if r = 0 then encodeRune 65533 else if r = 13 ∨ (r = 10 ∧ last ≠ 13) then [10] else if r ≠ 10 then encodeRune r else []
/-- chars.Clean. -/
def cleanF (last : Int) : Nat → List UInt8 → List UInt8
  | 0, _ => []
  | _ + 1, [] => []
  | k + 1, b :: l => cleanR last (oneF (b :: l)).1 ++ cleanF (oneF (b :: l)).1 k ((b :: l).drop (oneF (b :: l)).2)
/-- A sign that may stand in a clean text. -/
def OkR (r : Int) : Prop := (0 < r ∧ r < 55296 ∨ 57343 < r ∧ r ≤ 1114111) ∧ r ≠ 13
/-- A clean text. -/
inductive Cl : List UInt8 → Prop
  | nil : Cl []
  | cons {r : Int} {l : List UInt8} (h : OkR r) (hl : Cl l) : Cl (encodeRune r ++ l)
theorem Cl.append {a b : List UInt8} (ha : Cl a) (hb : Cl b) : Cl (a ++ b) := by
  induction ha with
  | nil => exact hb
  | cons h _ ih => rw [List.append_assoc]; exact .cons h ih
theorem enc_ascii {r : Int} (h0 : 0 ≤ r) (h1 : r ≤ 127) : encodeRune r = [r.toNat.toUInt8] := by rw [encodeRune, encodeRuneZ_one h0 h1]; rfl
theorem Cl.ascii : ∀ {l : List UInt8}, (∀ b ∈ l, 0 < b.toNat ∧ b.toNat < 128 ∧ b.toNat ≠ 13) → Cl l
  | [], _ => .nil
  | b :: l, h => by
    obtain ⟨h0, h1, h2⟩ := h b (by simp)
    have := Cl.cons (r := (b.toNat : Int)) (l := l) ⟨.inl ⟨by omega, by omega⟩, by omega⟩ (Cl.ascii fun b hb => h b (by simp [hb]))
    rw [enc_ascii (by omega) (by omega)] at this
    simpa using this
theorem oneK_ok : ∀ (low high k i : Nat) (n : Int) (l : List UInt8), 1 ≤ i → 0 ≤ n → (∀ (m : Int), n * 64 ^ k ≤ m → m < (n + 1) * 64 ^ k → (k = 0 ∨ n * 64 ^ k + ((low : Int) % 64) * 64 ^ (k - 1) ≤ m ∧ m < n * 64 ^ k + ((high : Int) % 64 + 1) * 64 ^ (k - 1)) → 0 ≤ m ∧ m < 55296 ∨ 57343 < m ∧ m ≤ 1114111) → (128 ≤ low ∧ high ≤ 191 ∧ low ≤ 191) →
    (0 ≤ (oneK low high k i n l).1 ∧ (oneK low high k i n l).1 < 55296 ∨ 57343 < (oneK low high k i n l).1 ∧ (oneK low high k i n l).1 ≤ 1114111) ∧ 1 ≤ (oneK low high k i n l).2 ∧ (oneK low high k i n l).2 ≤ i + k
  | low, high, 0, i, n, l, hi, hn, h, _ => by
    simp only [oneK]
    refine ⟨?_, hi, by omega⟩
    have := h n (by simp) (by simp; omega) (.inl rfl)
    exact this
  | low, high, k + 1, i, n, [], hi, hn, h, _ => by
    simp only [oneK]
    exact ⟨.inr ⟨by omega, by omega⟩, hi, by omega⟩
  | low, high, k + 1, i, n, b :: l, hi, hn, h, hlh => by
    rw [oneK]
    split
    · exact ⟨.inr ⟨by omega, by omega⟩, hi, by omega⟩
    · have := oneK_ok 128 191 k (i + 1) (n * 64 + (b.toNat % 64 : Nat)) l (by omega) (by omega) (fun m h1 h2 h3 => ?_) ⟨by omega, by omega, by omega⟩
      · exact ⟨this.1, this.2.1, by omega⟩
      · have hp : (0 : Int) < 64 ^ k := Int.pow_pos (by decide)
        have e : (64 : Int) ^ (k + 1) = 64 * 64 ^ k := by rw [Int.pow_succ, Int.mul_comm]
        have hb1 : ((low : Int) % 64) ≤ (b.toNat % 64 : Nat) := by omega
        have hb2 : ((b.toNat % 64 : Nat) : Int) ≤ (high : Int) % 64 := by omega
        have q1 := Int.mul_le_mul_of_nonneg_right hb1 (Int.le_of_lt hp)
        have q2 := Int.mul_le_mul_of_nonneg_right (show ((b.toNat % 64 : Nat) : Int) + 1 ≤ (high : Int) % 64 + 1 by omega) (Int.le_of_lt hp)
        have q3 := Int.mul_le_mul_of_nonneg_right (show ((b.toNat % 64 : Nat) : Int) + 1 ≤ 64 by omega) (Int.le_of_lt hp)
        have q4 := Int.mul_nonneg (show (0 : Int) ≤ (b.toNat % 64 : Nat) by omega) (Int.le_of_lt hp)
        have e1 : (n * 64 + (b.toNat % 64 : Nat)) * 64 ^ k = n * (64 * 64 ^ k) + (b.toNat % 64 : Nat) * 64 ^ k := by rw [Int.add_mul, Int.mul_assoc]
        have e2 : (n * 64 + (b.toNat % 64 : Nat) + 1) * 64 ^ k = n * (64 * 64 ^ k) + ((b.toNat % 64 : Nat) + 1) * 64 ^ k := by rw [Int.add_assoc, Int.add_mul, Int.mul_assoc]
        have e3 : (n + 1) * (64 * 64 ^ k) = n * (64 * 64 ^ k) + 64 * 64 ^ k := by rw [Int.add_mul, Int.one_mul]
        refine h m ?_ ?_ (.inr ⟨?_, ?_⟩)
        · rw [e]; omega
        · rw [e, e3]; omega
        · rw [e]; simp only [Nat.add_sub_cancel]; omega
        · rw [e]; simp only [Nat.add_sub_cancel]; omega
theorem oneK_len : ∀ (low high k i : Nat) (n : Int) (l : List UInt8), (oneK low high k i n l).2 ≤ i + l.length ∧ ((oneK low high k i n l).2 = i → k = 0 ∨ (oneK low high k i n l).1 = 65533) ∧ i ≤ (oneK low high k i n l).2
  | low, high, 0, i, n, l => by simp [oneK]
  | low, high, k + 1, i, n, [] => by simp [oneK]
  | low, high, k + 1, i, n, b :: l => by
    rw [oneK]
    split
    · simp
    · have := oneK_len 128 191 k (i + 1) (n * 64 + (b.toNat % 64 : Nat)) l
      simp only [List.length_cons]
      refine ⟨by omega, fun h => by omega, by omega⟩
theorem lead_cases (b : Nat) (hb : b < 256) : (leadF b = (0, 128, 191) ∧ b < 128) ∨ (leadF b = (1, 128, 191) ∧ 194 ≤ b ∧ b ≤ 223) ∨
    (leadF b = (2, if b = 224 then 160 else 128, if b = 237 then 159 else 191) ∧ 224 ≤ b ∧ b ≤ 239) ∨ (leadF b = (3, if b = 240 then 144 else 128, if b = 244 then 143 else 191) ∧ 240 ≤ b ∧ b ≤ 244) ∨ leadF b = (-1, 128, 191) := by
  unfold leadF
  by_cases h1 : b < 128
  · rw [if_pos h1]; exact .inl ⟨rfl, h1⟩
  rw [if_neg h1]
  by_cases h2 : 194 ≤ b ∧ b ≤ 223
  · rw [if_pos h2]; exact .inr (.inl ⟨rfl, h2⟩)
  rw [if_neg h2]
  by_cases h3 : 224 ≤ b ∧ b ≤ 239
  · rw [if_pos h3]; exact .inr (.inr (.inl ⟨rfl, h3⟩))
  rw [if_neg h3]
  by_cases h4 : 240 ≤ b ∧ b ≤ 244
  · rw [if_pos h4]; exact .inr (.inr (.inr (.inl ⟨rfl, h4⟩)))
  rw [if_neg h4]; exact .inr (.inr (.inr (.inr rfl)))
theorem oneF_cons (b : UInt8) (l : List UInt8) : oneF (b :: l) = if (leadF b.toNat).1 < 0 then (65533, 1) else if (leadF b.toNat).1 = 0 then ((b.toNat : Int), 1)
    else oneK (leadF b.toNat).2.1 (leadF b.toNat).2.2 (leadF b.toNat).1.toNat 1 ((b.toNat % 2 ^ (6 - (leadF b.toNat).1.toNat) : Nat) : Int) l := rfl
theorem oneF_ok (b : UInt8) (l : List UInt8) : (0 ≤ (oneF (b :: l)).1 ∧ (oneF (b :: l)).1 < 55296 ∨ 57343 < (oneF (b :: l)).1 ∧ (oneF (b :: l)).1 ≤ 1114111) ∧ 1 ≤ (oneF (b :: l)).2 ∧ (oneF (b :: l)).2 ≤ (b :: l).length ∧ ((oneF (b :: l)).2 = 1 → (oneF (b :: l)).1 ≤ 65535) := by
  have hb : b.toNat < 256 := b.toNat_lt
  rw [oneF_cons]
  rcases lead_cases b.toNat hb with ⟨e, h⟩ | ⟨e, h⟩ | ⟨e, h⟩ | ⟨e, h⟩ | e
  · rw [e]; simp; omega
  · rw [e]
    simp only [show ¬ ((1 : Int) < 0) by decide, show ¬ ((1 : Int) = 0) by decide, if_false, show (1 : Int).toNat = 1 from rfl]
    have h1 := oneK_ok 128 191 1 1 ((b.toNat % 2 ^ (6 - 1) : Nat) : Int) l (by omega) (by omega) (fun m h1 h2 h3 => by simp at h1 h2 h3; omega) ⟨by omega, by omega, by omega⟩
    have h2 := oneK_len 128 191 1 1 ((b.toNat % 2 ^ (6 - 1) : Nat) : Int) l
    exact ⟨h1.1, h1.2.1, by simp only [List.length_cons]; omega, fun h => by rcases h2.2.1 h with h | h <;> omega⟩
  · rw [e]
    simp only [show ¬ ((2 : Int) < 0) by decide, show ¬ ((2 : Int) = 0) by decide, if_false, show (2 : Int).toNat = 2 from rfl]
    have h1 := oneK_ok (if b.toNat = 224 then 160 else 128) (if b.toNat = 237 then 159 else 191) 2 1 ((b.toNat % 2 ^ (6 - 2) : Nat) : Int) l (by omega) (by omega) (fun m h1 h2 h3 => by simp at h1 h2 h3; split at h3 <;> split at h3 <;> omega) ⟨by split <;> omega, by split <;> omega, by split <;> omega⟩
    have h2 := oneK_len (if b.toNat = 224 then 160 else 128) (if b.toNat = 237 then 159 else 191) 2 1 ((b.toNat % 2 ^ (6 - 2) : Nat) : Int) l
    exact ⟨h1.1, h1.2.1, by simp only [List.length_cons]; omega, fun h => by rcases h2.2.1 h with h | h <;> omega⟩
  · rw [e]
    simp only [show ¬ ((3 : Int) < 0) by decide, show ¬ ((3 : Int) = 0) by decide, if_false, show (3 : Int).toNat = 3 from rfl]
    have h1 := oneK_ok (if b.toNat = 240 then 144 else 128) (if b.toNat = 244 then 143 else 191) 3 1 ((b.toNat % 2 ^ (6 - 3) : Nat) : Int) l (by omega) (by omega) (fun m h1 h2 h3 => by simp at h1 h2 h3; split at h3 <;> split at h3 <;> omega) ⟨by split <;> omega, by split <;> omega, by split <;> omega⟩
    have h2 := oneK_len (if b.toNat = 240 then 144 else 128) (if b.toNat = 244 then 143 else 191) 3 1 ((b.toNat % 2 ^ (6 - 3) : Nat) : Int) l
    exact ⟨h1.1, h1.2.1, by simp only [List.length_cons]; omega, fun h => by rcases h2.2.1 h with h | h <;> omega⟩
  · rw [e]; simp
theorem encZ_len (r : Int) : (encodeRune r).length ≤ 4 ∧ (r ≤ 65535 → (encodeRune r).length ≤ 3) := by
  rw [encodeRune, List.length_map]
  refine ⟨(encodeRuneZ_length r).2, fun h => ?_⟩
  unfold encodeRuneZ
  split
  · simp
  split
  · simp
  split
  · simp
  split
  · omega
  · simp
theorem cleanR_len (last : Int) (b : UInt8) (l : List UInt8) : (cleanR last (oneF (b :: l)).1).length ≤ 3 * (oneF (b :: l)).2 := by
  obtain ⟨_, h1, _, h2⟩ := oneF_ok b l
  have h3 := encZ_len (oneF (b :: l)).1
  unfold cleanR
  split
  · have := (encZ_len 65533).2 (by decide); omega
  split
  · simp; omega
  split
  · by_cases e : (oneF (b :: l)).2 = 1
    · have := h3.2 (h2 e); omega
    · have := h3.1; omega
  · simp
theorem cleanF_len : ∀ (k : Nat) (last : Int) (s : List UInt8), (cleanF last k s).length ≤ 3 * s.length
  | 0, last, s => by simp [cleanF]
  | k + 1, last, [] => by simp [cleanF]
  | k + 1, last, b :: l => by
    rw [cleanF, List.length_append]
    have h1 := cleanR_len last b l
    have h2 := cleanF_len k (oneF (b :: l)).1 ((b :: l).drop (oneF (b :: l)).2)
    obtain ⟨_, h3, h4, _⟩ := oneF_ok b l
    rw [List.length_drop] at h2
    omega
theorem cleanR_cl {last r : Int} (h : 0 ≤ r ∧ r < 55296 ∨ 57343 < r ∧ r ≤ 1114111) : Cl (cleanR last r) := by
  have one : ∀ {r : Int}, OkR r → Cl (encodeRune r) := fun h => by have := Cl.cons h .nil; simpa using this
  unfold cleanR
  split
  · exact one ⟨.inr ⟨by decide, by decide⟩, by decide⟩
  split
  · exact Cl.ascii (by decide)
  split
  · exact one ⟨by omega, by omega⟩
  · exact .nil
theorem cleanF_cl : ∀ (k : Nat) (last : Int) (s : List UInt8), Cl (cleanF last k s)
  | 0, last, s => .nil
  | k + 1, last, [] => .nil
  | k + 1, last, b :: l => by
    rw [cleanF]
    exact (cleanR_cl (oneF_ok b l).1).append (cleanF_cl k _ _)
end Go.Proofs.YtcghahfboccceaaGreatDoor
