/- Several texts in one: TeClean, TeText. -/
import Derived.Test.YtcghahfboccceaaGreatDoorTopEscapeM3
/- chars.Clean leaves what is clean; what is clean, escaped, is clean. -/
namespace Go.Proofs.YtcghahfboccceaaGreatDoor
open Go.Lib
set_option linter.unusedVariables false

theorem u8n {x : Int} (h0 : 0 ≤ x) (h1 : x < 256) : ((x.toNat.toUInt8).toNat : Int) = x := by
  have : (x.toNat.toUInt8).toNat = x.toNat := by
    show (UInt8.ofNat x.toNat).toNat = x.toNat
    simp only [UInt8.toNat_ofNat']
    exact Nat.mod_eq_of_lt (by omega)
  omega
theorem enc_cases {r : Int} (h : OkR r) : (encodeRune r = [r.toNat.toUInt8] ∧ 0 < r ∧ r ≤ 127) ∨
    (encodeRune r = [(192 + r / 64).toNat.toUInt8, (128 + r % 64).toNat.toUInt8] ∧ 128 ≤ r ∧ r ≤ 2047) ∨
    (encodeRune r = [(224 + r / 4096).toNat.toUInt8, (128 + r / 64 % 64).toNat.toUInt8, (128 + r % 64).toNat.toUInt8] ∧ (2048 ≤ r ∧ r < 55296 ∨ 57343 < r ∧ r ≤ 65535)) ∨
    (encodeRune r = [(240 + r / 262144).toNat.toUInt8, (128 + r / 4096 % 64).toNat.toUInt8, (128 + r / 64 % 64).toNat.toUInt8, (128 + r % 64).toNat.toUInt8] ∧ 65536 ≤ r ∧ r ≤ 1114111) := by
  obtain ⟨h, _⟩ := h
  by_cases h1 : r ≤ 127
  · exact .inl ⟨enc_ascii (by omega) h1, by omega, h1⟩
  by_cases h2 : r ≤ 2047
  · exact .inr (.inl ⟨by rw [encodeRune, encodeRuneZ_two (by omega) h2]; rfl, by omega, h2⟩)
  by_cases h3 : r ≤ 65535
  · exact .inr (.inr (.inl ⟨by rw [encodeRune, encodeRuneZ_three (by omega)]; rfl, by omega⟩))
  · exact .inr (.inr (.inr ⟨by rw [encodeRune, encodeRuneZ_four (by omega) (by omega)]; rfl, by omega, by omega⟩))
theorem oneK_step {low high k i : Nat} {n : Int} {x : Int} {l : List UInt8} (h0 : 0 ≤ x) (h1 : x < 256) (hl : (low : Int) ≤ x) (hh : x ≤ (high : Int)) :
    oneK low high (k + 1) i n (x.toNat.toUInt8 :: l) = oneK 128 191 k (i + 1) (n * 64 + x % 64) l := by
  have e := u8n h0 h1
  rw [oneK, if_neg (by omega)]
  congr 1
  omega
theorem oneF_enc {r : Int} (h : OkR r) (l : List UInt8) : oneF (encodeRune r ++ l) = (r, (encodeRune r).length) := by
  rcases enc_cases h with ⟨e, h1, h2⟩ | ⟨e, h1, h2⟩ | ⟨e, h1⟩ | ⟨e, h1, h2⟩
  · have b := u8n (x := r) (by omega) (by omega)
    rw [e, List.cons_append, oneF_cons]
    rcases lead_cases (r.toNat.toUInt8).toNat (UInt8.toNat_lt _) with ⟨e, h⟩ | ⟨e, h⟩ | ⟨e, h⟩ | ⟨e, h⟩ | e
    · rw [e]; simp; omega
    · omega
    · omega
    · omega
    · rw [leadF, if_pos (by omega)] at e; cases e
  · have b := u8n (x := 192 + r / 64) (by omega) (by omega)
    rw [e, List.cons_append, List.cons_append, oneF_cons]
    have eL : leadF ((192 + r / 64).toNat.toUInt8).toNat = (1, 128, 191) := by rw [leadF, if_neg (by omega), if_pos (by omega)]
    rw [eL]
    simp only [show ¬ ((1 : Int) < 0) by decide, show ¬ ((1 : Int) = 0) by decide, if_false, show (1 : Int).toNat = 1 from rfl]
    rw [oneK_step (by omega) (by omega) (by omega) (by omega)]
    simp only [oneK, List.length_cons, List.length_nil]
    congr 1
    omega
  · have b := u8n (x := 224 + r / 4096) (by omega) (by omega)
    rw [e, List.cons_append, List.cons_append, List.cons_append, oneF_cons]
    have eL : leadF ((224 + r / 4096).toNat.toUInt8).toNat = (2, if r / 4096 = 0 then 160 else 128, if r / 4096 = 13 then 159 else 191) := by
      rw [leadF, if_neg (by omega), if_neg (by omega), if_pos (by omega)]
      congr 2
      · by_cases q : r / 4096 = 0
        · rw [if_pos q, if_pos (by omega)]
        · rw [if_neg q, if_neg (by omega)]
      · by_cases q : r / 4096 = 13
        · rw [if_pos q, if_pos (by omega)]
        · rw [if_neg q, if_neg (by omega)]
    rw [eL]
    simp only [show ¬ ((2 : Int) < 0) by decide, show ¬ ((2 : Int) = 0) by decide, if_false, show (2 : Int).toNat = 2 from rfl]
    rw [oneK_step (by omega) (by omega) (by split <;> omega) (by split <;> omega), oneK_step (by omega) (by omega) (by omega) (by omega)]
    simp only [oneK, List.length_cons, List.length_nil]
    congr 1
    omega
  · have b := u8n (x := 240 + r / 262144) (by omega) (by omega)
    rw [e, List.cons_append, List.cons_append, List.cons_append, List.cons_append, oneF_cons]
    have eL : leadF ((240 + r / 262144).toNat.toUInt8).toNat = (3, if r / 262144 = 0 then 144 else 128, if r / 262144 = 4 then 143 else 191) := by
      rw [leadF, if_neg (by omega), if_neg (by omega), if_neg (by omega), if_pos (by omega)]
      congr 2
      · by_cases q : r / 262144 = 0
        · rw [if_pos q, if_pos (by omega)]
        · rw [if_neg q, if_neg (by omega)]
      · by_cases q : r / 262144 = 4
        · rw [if_pos q, if_pos (by omega)]
        · rw [if_neg q, if_neg (by omega)]
    rw [eL]
    simp only [show ¬ ((3 : Int) < 0) by decide, show ¬ ((3 : Int) = 0) by decide, if_false, show (3 : Int).toNat = 3 from rfl]
    rw [oneK_step (by omega) (by omega) (by split <;> omega) (by split <;> omega), oneK_step (by omega) (by omega) (by omega) (by omega), oneK_step (by omega) (by omega) (by omega) (by omega)]
    simp only [oneK, List.length_cons, List.length_nil]
    congr 1
    omega
theorem cleanR_enc {last r : Int} (h : OkR r) (hl : last ≠ 13) : cleanR last r = encodeRune r := by
  unfold cleanR
  rw [if_neg (by obtain ⟨h, _⟩ := h; omega)]
  split
  · rename_i q
    rcases q with q | q
    · exact absurd q h.2
    · rw [q.1]; rfl
  · rename_i q
    rw [if_pos (fun e => q (.inr ⟨e, hl⟩))]
theorem cleanF_stays {l : List UInt8} (h : Cl l) : ∀ (last : Int) (k : Nat), last ≠ 13 → l.length ≤ k → cleanF last k l = l := by
  induction h with
  | nil => intro last k _ _; cases k <;> rfl
  | @cons r l hr _ ih =>
    intro last k hl hk
    have hlen : 1 ≤ (encodeRune r).length := by rw [encodeRune, List.length_map]; exact (encodeRuneZ_length r).1
    rw [List.length_append] at hk
    obtain ⟨k, rfl⟩ : ∃ j, k = j + 1 := ⟨k - 1, by omega⟩
    have hone := oneF_enc hr l
    obtain ⟨b, t, e⟩ : ∃ b t, encodeRune r ++ l = b :: t := by
      cases q : encodeRune r with
      | nil => rw [q] at hlen; simp at hlen
      | cons b t => exact ⟨b, t ++ l, rfl⟩
    rw [e] at hone ⊢
    rw [cleanF, hone, ← e]
    simp only [List.drop_left]
    rw [ih r k hr.2 (by omega), cleanR_enc hr hl]
theorem esc_else {b : UInt8} {l : List UInt8} (h1 : b ≠ 38) (h2 : b ≠ 60) (h3 : b ≠ 62) (h4 : ¬ (b = 194 ∧ l.head? = some 160)) : esc (b :: l) = b :: esc l := by
  rw [← four_esc, ← four_esc]; exact four_else h1 h2 h3 h4
theorem esc_amp (l : List UInt8) : esc (38 :: l) = nAmp ++ esc l := by rw [← four_esc, ← four_esc]; exact four_amp l
theorem esc_lt (l : List UInt8) : esc (60 :: l) = nLt ++ esc l := by rw [← four_esc, ← four_esc]; exact four_lt l
theorem esc_gt (l : List UInt8) : esc (62 :: l) = nGt ++ esc l := by rw [← four_esc, ← four_esc]; exact four_gt l
theorem esc_nb (l : List UInt8) : esc (194 :: 160 :: l) = nNb ++ esc l := by rw [← four_esc, ← four_esc]; exact four_nb l
theorem u8_ne {x : Int} {c : UInt8} (h0 : 0 ≤ x) (h1 : x < 256) (h : x ≠ (c.toNat : Int)) : x.toNat.toUInt8 ≠ c := fun e => by
  have := u8n h0 h1
  rw [e] at this
  exact h this.symm
theorem esc_tail {x : Int} {l : List UInt8} (h0 : 128 ≤ x) (h1 : x < 256) (h2 : x ≠ 194) : esc (x.toNat.toUInt8 :: l) = x.toNat.toUInt8 :: esc l :=
  esc_else (u8_ne (by omega) h1 (by show x ≠ 38; omega)) (u8_ne (by omega) h1 (by show x ≠ 60; omega)) (u8_ne (by omega) h1 (by show x ≠ 62; omega)) (fun e => u8_ne (c := 194) (by omega) h1 (by show x ≠ 194; omega) e.1)
theorem Cl.esc {l : List UInt8} (h : Cl l) : Cl (esc l) := by
  induction h with
  | nil => exact .nil
  | @cons r l hr hl ih =>
    have amp : Cl nAmp := Cl.ascii (by decide)
    have lt : Cl nLt := Cl.ascii (by decide)
    have gt : Cl nGt := Cl.ascii (by decide)
    have nb : Cl nNb := Cl.ascii (by decide)
    by_cases r1 : r = 38
    · subst r1
      have e : encodeRune 38 = [38] := rfl
      rw [e, List.cons_append, List.nil_append, esc_amp]; exact amp.append ih
    by_cases r2 : r = 60
    · subst r2
      have e : encodeRune 60 = [60] := rfl
      rw [e, List.cons_append, List.nil_append, esc_lt]; exact lt.append ih
    by_cases r3 : r = 62
    · subst r3
      have e : encodeRune 62 = [62] := rfl
      rw [e, List.cons_append, List.nil_append, esc_gt]; exact gt.append ih
    by_cases r4 : r = 160
    · subst r4
      have e : encodeRune 160 = [194, 160] := rfl
      rw [e, List.cons_append, List.cons_append, List.nil_append, esc_nb]; exact nb.append ih
    suffices hh : Go.Proofs.YtcghahfboccceaaGreatDoor.esc (encodeRune r ++ l) = encodeRune r ++ Go.Proofs.YtcghahfboccceaaGreatDoor.esc l by rw [hh]; exact .cons hr ih
    rcases enc_cases hr with ⟨e, h1, h2⟩ | ⟨e, h1, h2⟩ | ⟨e, h1⟩ | ⟨e, h1, h2⟩
    · rw [e, List.cons_append, List.nil_append]
      refine (esc_else (u8_ne (by omega) (by omega) (by show r ≠ 38; omega)) (u8_ne (by omega) (by omega) (by show r ≠ 60; omega)) (u8_ne (by omega) (by omega) (by show r ≠ 62; omega)) (fun e => u8_ne (c := 194) (by omega) (by omega) (by show r ≠ 194; omega) e.1)).trans rfl
    · rw [e]
      simp only [List.cons_append, List.nil_append]
      by_cases q : 192 + r / 64 = 194
      · rw [esc_else (u8_ne (by omega) (by omega) (by show (192 + r / 64 : Int) ≠ 38; omega)) (u8_ne (by omega) (by omega) (by show (192 + r / 64 : Int) ≠ 60; omega)) (u8_ne (by omega) (by omega) (by show (192 + r / 64 : Int) ≠ 62; omega))
          (fun e => u8_ne (x := 128 + r % 64) (c := 160) (by omega) (by omega) (by show (128 + r % 64 : Int) ≠ 160; omega) (by simpa using e.2)), esc_tail (by omega) (by omega) (by omega)]
      · rw [esc_tail (by omega) (by omega) q, esc_tail (by omega) (by omega) (by omega)]
    · rw [e]
      simp only [List.cons_append, List.nil_append]
      rw [esc_tail (by omega) (by omega) (by omega), esc_tail (by omega) (by omega) (by omega), esc_tail (by omega) (by omega) (by omega)]
    · rw [e]
      simp only [List.cons_append, List.nil_append]
      rw [esc_tail (by omega) (by omega) (by omega), esc_tail (by omega) (by omega) (by omega), esc_tail (by omega) (by omega) (by omega), esc_tail (by omega) (by omega) (by omega)]
end Go.Proofs.YtcghahfboccceaaGreatDoor
/- entity.Text, byte for byte: what was escaped is read back. Printed by genTeText.py. -/
namespace Go.Proofs.YtcghahfboccceaaGreatDoor
open Go.Lib
set_option linter.unusedVariables false

/-- entity.names: the word, the sign, is it bare. -/
def namesT : List (List UInt8 × Int × Bool) := [
  ([97, 109, 112], 38, true), ([108, 116], 60, true), ([103, 116], 62, true), ([113, 117, 111, 116], 34, true),
  ([110, 98, 115, 112], 160, true), ([99, 111, 112, 121], 169, true), ([114, 101, 103], 174, true), ([116, 105, 109, 101, 115], 215, true),
  ([100, 105, 118, 105, 100, 101], 247, true), ([101, 97, 99, 117, 116, 101], 233, true), ([97, 117, 109, 108], 228, true), ([111, 117, 109, 108], 246, true),
  ([117, 117, 109, 108], 252, true), ([115, 122, 108, 105, 103], 223, true), ([121, 101, 110], 165, true), ([99, 101, 110, 116], 162, true),
  ([112, 111, 117, 110, 100], 163, true), ([115, 101, 99, 116], 167, true), ([112, 97, 114, 97], 182, true), ([109, 105, 100, 100, 111, 116], 183, true),
  ([110, 111, 116], 172, true), ([100, 101, 103], 176, true), ([102, 114, 97, 99, 49, 50], 189, true), ([102, 114, 97, 99, 49, 52], 188, true),
  ([97, 112, 111, 115], 39, false), ([104, 101, 108, 108, 105, 112], 8230, false), ([109, 100, 97, 115, 104], 8212, false), ([110, 100, 97, 115, 104], 8211, false),
  ([108, 115, 113, 117, 111], 8216, false), ([114, 115, 113, 117, 111], 8217, false), ([108, 100, 113, 117, 111], 8220, false), ([114, 100, 113, 117, 111], 8221, false),
  ([98, 117, 108, 108], 8226, false), ([101, 117, 114, 111], 8364, false), ([116, 114, 97, 100, 101], 8482, false), ([108, 97, 114, 114], 8592, false),
  ([114, 97, 114, 114], 8594, false), ([105, 110, 102, 105, 110], 8734, false), ([110, 101], 8800, false), ([108, 101], 8804, false),
  ([103, 101], 8805, false), ([110, 111, 116, 105, 110], 8713, false), ([97, 108, 112, 104, 97], 945, false), ([98, 101, 116, 97], 946, false),
  ([112, 105], 960, false), ([115, 117, 109], 8721, false), ([109, 105, 110, 117, 115], 8722, false), ([108, 97, 110, 103], 10216, false)]
/-- entity.sign. -/
def signF (n : Int) : List UInt8 := encodeRune (if n = 0 ∨ n = 13 then 65533 else n)
/-- entity.semicolon. -/
def semiF (s : List UInt8) (n : Nat) : Nat := if s[n]? = some 59 then n + 1 else n
/-- A round of entity.named. -/
def namedR (s : List UInt8) (acc : List UInt8 × Nat) (x : List UInt8 × Int × Bool) : List UInt8 × Nat :=
  if hasPrefix (s.drop 1) x.1 = false then acc
  else if semiF s (x.1.length + 1) = x.1.length + 1 ∧ x.2.2 = false ∨ semiF s (x.1.length + 1) ≤ acc.2 then acc
  else (signF x.2.1, semiF s (x.1.length + 1))
/-- entity.word. -/
def wordF (b : UInt8) : Bool := b == 61 || (48 ≤ b && b ≤ 57) || (97 ≤ (b ||| 32) && (b ||| 32) ≤ 122)
/-- entity.named. -/
def namedF (s : List UInt8) (attr : Bool) : List UInt8 × Nat :=
  let r := namesT.foldl (namedR s) ([], 0)
  if attr && decide (0 < r.2) && s.getD (r.2 - 1) 0 != 59 && decide (r.2 < s.length) && wordF (s.getD r.2 0) then ([], 0) else r
/-- entity.Find, where it is no number. -/
def findF (s : List UInt8) (attr : Bool) : List UInt8 × Nat := if s.head? = some 38 then namedF s attr else ([], 0)
/-- entity.read. -/
def readF (attr : Bool) : Nat → List UInt8 → List UInt8
  | 0, _ => []
  | _ + 1, [] => []
  | k + 1, b :: l => if (findF (b :: l) attr).2 = 0 then b :: readF attr k l else (findF (b :: l) attr).1 ++ readF attr k ((b :: l).drop (findF (b :: l) attr).2)
theorem named_amp (l : List UInt8) : namedF (nAmp ++ l) false = ([38], 5) := by rfl
theorem named_lt (l : List UInt8) : namedF (nLt ++ l) false = ([60], 4) := by rfl
theorem named_gt (l : List UInt8) : namedF (nGt ++ l) false = ([62], 4) := by rfl
theorem named_nb (l : List UInt8) : namedF (nNb ++ l) false = ([194, 160], 6) := by rfl
theorem readF_cons (attr : Bool) (k : Nat) (b : UInt8) (l : List UInt8) : readF attr (k + 1) (b :: l) = if (findF (b :: l) attr).2 = 0 then b :: readF attr k l else (findF (b :: l) attr).1 ++ readF attr k ((b :: l).drop (findF (b :: l) attr).2) := rfl
theorem readF_ref {k : Nat} {p l t : List UInt8} {n : Nat} (hp : p.head? = some 38) (hn : namedF (p ++ l) false = (t, n)) (h0 : 0 < n) (hl : n = p.length) : readF false (k + 1) (p ++ l) = t ++ readF false k l := by
  cases p with
  | nil => cases hp
  | cons b p =>
    have hb : b = 38 := by simpa using hp
    subst hb
    have e : findF (38 :: (p ++ l)) false = (t, n) := by rw [findF, if_pos (by rfl)]; exact hn
    rw [List.cons_append, readF_cons, e]
    simp only [show ¬ n = 0 by omega, if_false]
    congr 2
    subst hl
    simp
theorem readF_esc : ∀ (n : Nat) (l : List UInt8), l.length ≤ n → ∀ k, (esc l).length ≤ k → readF false k (esc l) = l
  | _, [], _, k, _ => by cases k <;> rfl
  | 0, b :: l, h, _, _ => by simp at h
  | n + 1, b :: l, h, k, hk => by
    have hn : l.length ≤ n := by simpa using h
    by_cases h1 : b = 38
    · subst h1
      rw [esc_amp] at hk ⊢
      obtain ⟨k, rfl⟩ : ∃ j, k = j + 1 := ⟨k - 1, by simp [nAmp] at hk; omega⟩
      rw [readF_ref rfl (named_amp _) (by decide) rfl, readF_esc n l hn k (by simp [nAmp] at hk; omega)]; rfl
    by_cases h2 : b = 60
    · subst h2
      rw [esc_lt] at hk ⊢
      obtain ⟨k, rfl⟩ : ∃ j, k = j + 1 := ⟨k - 1, by simp [nLt] at hk; omega⟩
      rw [readF_ref rfl (named_lt _) (by decide) rfl, readF_esc n l hn k (by simp [nLt] at hk; omega)]; rfl
    by_cases h3 : b = 62
    · subst h3
      rw [esc_gt] at hk ⊢
      obtain ⟨k, rfl⟩ : ∃ j, k = j + 1 := ⟨k - 1, by simp [nGt] at hk; omega⟩
      rw [readF_ref rfl (named_gt _) (by decide) rfl, readF_esc n l hn k (by simp [nGt] at hk; omega)]; rfl
    by_cases h4 : b = 194 ∧ l.head? = some 160
    · obtain ⟨rfl, h4⟩ := h4
      cases l with
      | nil => cases h4
      | cons b' l =>
        have : b' = 160 := by simpa using h4
        subst this
        rw [esc_nb] at hk ⊢
        obtain ⟨k, rfl⟩ : ∃ j, k = j + 1 := ⟨k - 1, by simp [nNb] at hk; omega⟩
        rw [readF_ref rfl (named_nb _) (by decide) rfl, readF_esc n l (by simp at hn; omega) k (by simp [nNb] at hk; omega)]; rfl
    · rw [esc_else h1 h2 h3 h4] at hk ⊢
      obtain ⟨k, rfl⟩ : ∃ j, k = j + 1 := ⟨k - 1, by simp at hk; omega⟩
      rw [readF_cons]
      have e : findF (b :: esc l) false = ([], 0) := by rw [findF, if_neg (by simpa using h1)]
      rw [e]
      simp only [if_true]
      rw [readF_esc n l hn k (by simpa using hk)]
/-- No byte of an escaped text is <. -/
theorem esc_noLt : ∀ (n : Nat) (l : List UInt8), l.length ≤ n → ∀ b ∈ esc l, b ≠ 60
  | _, [], _, b, hb => by simp [esc] at hb
  | 0, b :: l, h, _, _ => by simp at h
  | n + 1, b :: l, h, c, hc => by
    have hn : l.length ≤ n := by simpa using h
    have key : ∀ (p : List UInt8) (l' : List UInt8), (∀ b ∈ p, b ≠ 60) → l'.length ≤ n → c ∈ p ++ esc l' → c ≠ 60 := fun p l' hp hl h => by
      rcases List.mem_append.1 h with h | h
      · exact hp c h
      · exact esc_noLt n l' hl c h
    by_cases h1 : b = 38
    · subst h1; rw [esc_amp] at hc; exact key _ l (by decide) hn hc
    by_cases h2 : b = 60
    · subst h2; rw [esc_lt] at hc; exact key _ l (by decide) hn hc
    by_cases h3 : b = 62
    · subst h3; rw [esc_gt] at hc; exact key _ l (by decide) hn hc
    by_cases h4 : b = 194 ∧ l.head? = some 160
    · obtain ⟨rfl, h4⟩ := h4
      cases l with
      | nil => cases h4
      | cons b' l =>
        have : b' = 160 := by simpa using h4
        subst this
        rw [esc_nb] at hc; exact key _ l (by decide) (by simp at hn; omega) hc
    · rw [esc_else h1 h2 h3 h4] at hc
      exact key [b] l (by simpa using h2) hn (by simpa using hc)
end Go.Proofs.YtcghahfboccceaaGreatDoor
