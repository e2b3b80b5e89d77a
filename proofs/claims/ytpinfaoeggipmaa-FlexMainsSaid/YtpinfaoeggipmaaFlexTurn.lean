/- Plain law of P325: the turns in which items are settled, until all are. -/
import Derived.Test.YtpinfaoeggipmaaFlexPlain
namespace Go.Proofs.Ytpinfaoeggipmaa
set_option linter.unusedVariables false

def facF (gr : Bool) (x : FlexV) : Int := if gr then x.g else x.s
def curF (x : FlexV) (s : FxSt) : Int := if s.settled then s.is else x.b
def nearF (a b : Int) : Int := if max b (-b) < max a (-a) then b else a
def wtF (gr : Bool) (x : FlexV) (s : FxSt) : Int := if s.settled then 0 else if gr then x.g else part x.s (max 0 x.b) 64
def openF (gr : Bool) (x : FlexV) (s : FxSt) : Int := if s.settled then 0 else facF gr x
def wtsF (gr : Bool) (n : Nat) (xs : Nat → FlexV) (st : Nat → FxSt) : List Int := (List.range n).map (fun i => wtF gr (xs i) (st i))
def freeF (room : Int) (n : Nat) (of : Nat → Int) (xs : Nat → FlexV) : Int := room - sumTo (fun i => of i + (xs i).e) n
def nowF (room : Int) (n : Nat) (xs : Nat → FlexV) (st : Nat → FxSt) : Int := freeF room n (fun i => curF (xs i) (st i)) xs
def facs (gr : Bool) (n : Nat) (xs : Nat → FlexV) (st : Nat → FxSt) : Int := sumTo (fun i => openF gr (xs i) (st i)) n
def roomF (first now sum : Int) : Int := if sum < 1000 then nearF now (part first sum 1000) else now
def partsF (gr : Bool) (n : Nat) (xs : Nat → FlexV) (st : Nat → FxSt) (f : Int) : List Int :=
  if gr then share (max 0 f) (wtsF gr n xs st) else (share (max 0 (-f)) (wtsF gr n xs st)).map (fun x => -x)
def wouldF (gr : Bool) (n : Nat) (xs : Nat → FlexV) (st : Nat → FxSt) (f : Int) (i : Nat) : Int := (xs i).b + (partsF gr n xs st f).getD i 0
def isF (gr : Bool) (n : Nat) (xs : Nat → FlexV) (st : Nat → FxSt) (f : Int) (i : Nat) : Int :=
  if (st i).settled then (st i).is else between (wouldF gr n xs st f i) (xs i).lo (xs i).hi
def byF (gr : Bool) (n : Nat) (xs : Nat → FlexV) (st : Nat → FxSt) (f : Int) (i : Nat) : Int :=
  if (st i).settled then 0 else isF gr n xs st f i - cut (wouldF gr n xs st f i)
def allF (gr : Bool) (n : Nat) (xs : Nat → FlexV) (st : Nat → FxSt) (f : Int) : Int := sumTo (byF gr n xs st f) n
def goesF (all by' : Int) : Bool := decide (all = 0) || (decide (0 < all) && decide (0 < by')) || (decide (all < 0) && decide (by' < 0))
def turnF (gr : Bool) (n : Nat) (xs : Nat → FlexV) (st : Nat → FxSt) (f : Int) (i : Nat) : FxSt :=
  ⟨(st i).settled || goesF (allF gr n xs st f) (byF gr n xs st f i), isF gr n xs st f i⟩
/-- One turn. -/
def turn1 (gr : Bool) (room first : Int) (n : Nat) (xs : Nat → FlexV) (st : Nat → FxSt) : Nat → FxSt :=
  turnF gr n xs st (roomF first (nowF room n xs st) (facs gr n xs st))
def cntF (n : Nat) (st : Nat → FxSt) : Nat := match n with
  | 0 => 0
  | k + 1 => cntF k st + if (st k).settled then 0 else 1
theorem cnt_le (n : Nat) (st st' : Nat → FxSt) (h : ∀ i, i < n → (st i).settled = true → (st' i).settled = true) : cntF n st' ≤ cntF n st := by
  induction n with
  | zero => exact Nat.le_refl _
  | succ n ih =>
    have := ih (fun i hi => h i (by omega))
    have h1 := h n (by omega)
    simp only [cntF]
    by_cases e : (st n).settled = true
    · rw [if_pos e, if_pos (h1 e)]; omega
    · rw [if_neg e]; split <;> omega
theorem cnt_lt (n : Nat) (st st' : Nat → FxSt) (h : ∀ i, i < n → (st i).settled = true → (st' i).settled = true) (k : Nat) (hk : k < n) (h1 : ¬ (st k).settled = true) (h2 : (st' k).settled = true) : cntF n st' < cntF n st := by
  induction n with
  | zero => omega
  | succ n ih =>
    simp only [cntF]
    by_cases e : k = n
    · subst e
      have := cnt_le k st st' (fun i hi => h i (by omega))
      rw [if_neg h1, if_pos h2]; omega
    · have := ih (fun i hi => h i (by omega)) (by omega)
      have h3 := h n (by omega)
      by_cases e : (st n).settled = true
      · rw [if_pos e, if_pos (h3 e)]; omega
      · rw [if_neg e]; split <;> omega
theorem cnt_all (n : Nat) (st : Nat → FxSt) (h : ∀ i, i < n → (st i).settled = true) : cntF n st = 0 := by
  induction n with
  | zero => rfl
  | succ n ih => simp only [cntF]; rw [ih (fun i hi => h i (by omega)), h n (by omega)]; rfl
theorem cnt_pos (n : Nat) (st : Nat → FxSt) (k : Nat) (hk : k < n) (h1 : ¬ (st k).settled = true) : 0 < cntF n st := by
  induction n with
  | zero => omega
  | succ n ih =>
    simp only [cntF]
    by_cases e : k = n
    · subst e; rw [if_neg h1]; omega
    · have := ih (by omega); omega
theorem cnt_bd (n : Nat) (st : Nat → FxSt) : cntF n st ≤ n := by
  induction n with
  | zero => exact Nat.le_refl _
  | succ n ih => simp only [cntF]; split <;> omega
/-- A turn settles one at least. -/
theorem turn_less (gr : Bool) (n : Nat) (xs : Nat → FlexV) (st : Nat → FxSt) (f : Int) (k : Nat) (hk : k < n) (h1 : ¬ (st k).settled = true) : cntF n (turnF gr n xs st f) < cntF n st := by
  have hkeep : ∀ i, i < n → (st i).settled = true → (turnF gr n xs st f i).settled = true := fun i _ h => by simp [turnF, h]
  have hzero : ∀ i, (st i).settled = true → byF gr n xs st f i = 0 := fun i h => by simp [byF, h]
  rcases Int.lt_trichotomy (allF gr n xs st f) 0 with ha | ha | ha
  · have : ∃ i, i < n ∧ byF gr n xs st f i < 0 := by
      rcases Classical.em (∃ i, i < n ∧ byF gr n xs st f i < 0) with h | h
      · exact h
      · exfalso
        have := sumTo_nonneg (f := byF gr n xs st f) (n := n) (fun i hi => by
          rcases Int.lt_or_le (byF gr n xs st f i) 0 with h' | h'
          · exact absurd ⟨i, hi, h'⟩ h
          · exact h')
        unfold allF at ha; omega
    obtain ⟨i, hi, hb⟩ := this
    refine cnt_lt n st _ hkeep i hi (fun h => by rw [hzero i h] at hb; omega) ?_
    simp [turnF, goesF, ha, hb]
  · refine cnt_lt n st _ hkeep k hk h1 ?_
    simp [turnF, goesF, ha]
  · have : ∃ i, i < n ∧ 0 < byF gr n xs st f i := by
      rcases Classical.em (∃ i, i < n ∧ 0 < byF gr n xs st f i) with h | h
      · exact h
      · exfalso
        have := sumTo_zero (f := byF gr n xs st f) (n := n) (fun i hi => by
          rcases Int.lt_or_le 0 (byF gr n xs st f i) with h' | h'
          · exact absurd ⟨i, hi, h'⟩ h
          · exact h')
        unfold allF at ha; omega
    obtain ⟨i, hi, hb⟩ := this
    refine cnt_lt n st _ hkeep i hi (fun h => by rw [hzero i h] at hb; omega) ?_
    simp [turnF, goesF, ha, hb]
/-- Turns, until all are settled. -/
def goF (gr : Bool) (room first : Int) (n : Nat) (xs : Nat → FlexV) : Nat → (Nat → FxSt) → (Nat → FxSt)
  | 0, st => st
  | m + 1, st => if cntF n st = 0 then st else goF gr room first n xs m (turn1 gr room first n xs st)
theorem goF_end (gr : Bool) (room first : Int) (n : Nat) (xs : Nat → FlexV) (m : Nat) (st : Nat → FxSt) (h : cntF n st = 0) : goF gr room first n xs m st = st := by
  cases m with
  | zero => rfl
  | succ m => simp only [goF]; rw [if_pos h]
theorem goF_step (gr : Bool) (room first : Int) (n : Nat) (xs : Nat → FlexV) (m : Nat) (st : Nat → FxSt) (h : ¬ cntF n st = 0) : goF gr room first n xs (m + 1) st = goF gr room first n xs m (turn1 gr room first n xs st) := by
  simp only [goF]; rw [if_neg h]
/-- Where they begin. -/
def bornF (gr : Bool) (x : FlexV) : FxSt := if facF gr x = 0 ∨ (gr = true ∧ long x < x.b) ∨ (gr = false ∧ x.b < long x) then ⟨true, long x⟩ else ⟨false, 0⟩
def leftF (room gap : Int) (n : Nat) : Int := cut room - max 0 (cut gap) * max 0 ((n : Int) - 1)
def growsF (room gap : Int) (n : Nat) (xs : Nat → FlexV) : Bool := decide (0 < freeF (leftF room gap n) n (fun i => long (xs i)) xs)
def startF (room gap : Int) (n : Nat) (xs : Nat → FlexV) (i : Nat) : FxSt := bornF (growsF room gap n xs) (xs i)
def endF (room gap : Int) (n : Nat) (xs : Nat → FlexV) : Nat → FxSt :=
  goF (growsF room gap n xs) (leftF room gap n) (nowF (leftF room gap n) n xs (startF room gap n xs)) n xs n (startF room gap n xs)
def cutsF (l : List FlexV) (i : Nat) : FlexV := fxb (l.getD i FlexV.zero)
def mainsF (room gap : Int) (l : List FlexV) : List Int := (List.range l.length).map (fun i => max 0 (endF room gap l.length (cutsF l) i).is)
-- bounds
theorem long_bd (x : FlexV) : -16777216 ≤ long x ∧ long x ≤ 16777216 := ⟨between_lo _ _ _, between_hi _ _ _⟩
def StOk (st : Nat → FxSt) : Prop := ∀ i, -16777216 ≤ (st i).is ∧ (st i).is ≤ 16777216
theorem cur_bd (x : FlexV) (s : FxSt) (h : FxOk x) (hs : -16777216 ≤ s.is ∧ s.is ≤ 16777216) : -16777216 ≤ curF x s ∧ curF x s ≤ 16777216 := by
  unfold curF; obtain ⟨b0, b1, _⟩ := h; split <;> omega
theorem free_bd (room : Int) (n : Nat) (of : Nat → Int) (xs : Nat → FlexV) (hx : ∀ i, FxOk (xs i)) (ho : ∀ i, -16777216 ≤ of i ∧ of i ≤ 16777216) (hn : n ≤ 1000) (hr : -17179869184000 ≤ room ∧ room ≤ 17179869184000) :
    -68719476736000 ≤ freeF room n of xs ∧ freeF room n of xs ≤ 68719476736000 := by
  have := sumTo_bd (fun i => of i + (xs i).e) 33554432 (by omega) n (fun i hi => by have := (hx i).e0; have := (hx i).e1; have := ho i; (try simp only []); omega)
  unfold freeF
  have e : (33554432 : Int) * n ≤ 33554432 * 1000 := Int.mul_le_mul_of_nonneg_left (by omega) (by omega)
  omega
theorem left_bd (room gap : Int) (n : Nat) (hn : n ≤ 1000) : -17179869184000 ≤ leftF room gap n ∧ leftF room gap n ≤ 17179869184000 := by
  have h1 := cut_lo room
  have h2 := cut_hi room
  have h3 := cut_hi gap
  have h4 : max 0 (cut gap) * max 0 ((n : Int) - 1) ≤ 16777216 * 1000 :=
    Int.le_trans (Int.mul_le_mul_of_nonneg_right (by omega) (by omega)) (Int.mul_le_mul_of_nonneg_left (by omega) (by omega))
  have h5 : 0 ≤ max 0 (cut gap) * max 0 ((n : Int) - 1) := Int.mul_nonneg (by omega) (by omega)
  unfold leftF; omega
theorem fac_bd (gr : Bool) (x : FlexV) (h : FxOk x) : 0 ≤ facF gr x ∧ facF gr x ≤ 1000000 := by
  obtain ⟨_, _, _, _, _, _, g0, g1, s0, s1, _, _⟩ := h; unfold facF; split <;> omega
theorem facs_bd (gr : Bool) (n : Nat) (xs : Nat → FlexV) (st : Nat → FxSt) (hx : ∀ i, FxOk (xs i)) (hn : n ≤ 1000) : 0 ≤ facs gr n xs st ∧ facs gr n xs st ≤ 1000000000 := by
  have h0 : ∀ i, 0 ≤ openF gr (xs i) (st i) ∧ openF gr (xs i) (st i) ≤ 1000000 := fun i => by
    have := fac_bd gr (xs i) (hx i); unfold openF; split <;> omega
  have h1 := sumTo_nonneg (f := fun i => openF gr (xs i) (st i)) (n := n) (fun i _ => (h0 i).1)
  have h2 := (sumTo_bd (fun i => openF gr (xs i) (st i)) 1000000 (by omega) n (fun i _ => by have := h0 i; (try simp only []); omega)).2
  have e : (1000000 : Int) * n ≤ 1000000 * 1000 := Int.mul_le_mul_of_nonneg_left (by omega) (by omega)
  unfold facs; omega
theorem near_bd (a b : Int) (ha : -68719476736000 ≤ a ∧ a ≤ 68719476736000) (hb : -68719476736000 ≤ b ∧ b ≤ 68719476736000) : -68719476736000 ≤ nearF a b ∧ nearF a b ≤ 68719476736000 := by
  unfold nearF; split <;> omega
theorem room_bd (first now sum : Int) (ha : -68719476736000 ≤ now ∧ now ≤ 68719476736000) : -68719476736000 ≤ roomF first now sum ∧ roomF first now sum ≤ 68719476736000 := by
  have h1 := part_lo first sum 1000
  have h2 := part_hi first sum 1000
  unfold roomF; split
  · exact near_bd _ _ ha (by omega)
  · exact ha
theorem shareAt_bd (n : Int) (ws : List Int) (k : Nat) : -562949953421312000 ≤ shareAt n ws k ∧ shareAt n ws k ≤ 562949953421312000 := by
  unfold shareAt
  split
  · omega
  · rename_i h
    have h0 := (psum_bd ws ws.length).1
    have h1 := upto_bd n ws k (by omega)
    have h2 := upto_bd n ws (k + 1) (by omega)
    omega
theorem share_getD (n : Int) (ws : List Int) (k : Nat) : -562949953421312000 ≤ (share n ws).getD k 0 ∧ (share n ws).getD k 0 ≤ 562949953421312000 := by
  by_cases h : k < ws.length
  · have e : (share n ws).getD k 0 = shareAt n ws k := by simp [share, List.getD, h]
    rw [e]; exact shareAt_bd n ws k
  · have e : (share n ws).getD k 0 = 0 := by simp [share, List.getD, h]
    rw [e]; omega
theorem wts_len (gr : Bool) (n : Nat) (xs : Nat → FlexV) (st : Nat → FxSt) : (wtsF gr n xs st).length = n := by simp [wtsF]
theorem parts_len (gr : Bool) (n : Nat) (xs : Nat → FlexV) (st : Nat → FxSt) (f : Int) : (partsF gr n xs st f).length = n := by
  unfold partsF; split <;> simp [share_length, wts_len]
theorem parts_bd (gr : Bool) (n : Nat) (xs : Nat → FlexV) (st : Nat → FxSt) (f : Int) (i : Nat) : -562949953421312000 ≤ (partsF gr n xs st f).getD i 0 ∧ (partsF gr n xs st f).getD i 0 ≤ 562949953421312000 := by
  unfold partsF
  split
  · exact share_getD _ _ _
  · have h := share_getD (max 0 (-f)) (wtsF gr n xs st) i
    have e : ((share (max 0 (-f)) (wtsF gr n xs st)).map (fun x => -x)).getD i 0 = -((share (max 0 (-f)) (wtsF gr n xs st)).getD i 0) := by
      simp only [List.getD, List.getElem?_map]
      cases (share (max 0 (-f)) (wtsF gr n xs st))[i]? <;> simp
    rw [e]; omega
theorem would_bd (gr : Bool) (n : Nat) (xs : Nat → FlexV) (st : Nat → FxSt) (f : Int) (i : Nat) (hx : FxOk (xs i)) : -562949970198528000 ≤ wouldF gr n xs st f i ∧ wouldF gr n xs st f i ≤ 562949970198528000 := by
  have := parts_bd gr n xs st f i
  obtain ⟨b0, b1, _⟩ := hx
  unfold wouldF; omega
theorem is_bd (gr : Bool) (n : Nat) (xs : Nat → FlexV) (st : Nat → FxSt) (f : Int) (i : Nat) (h : -16777216 ≤ (st i).is ∧ (st i).is ≤ 16777216) : -16777216 ≤ isF gr n xs st f i ∧ isF gr n xs st f i ≤ 16777216 := by
  unfold isF; split
  · exact h
  · exact ⟨between_lo _ _ _, between_hi _ _ _⟩
theorem by_bd (gr : Bool) (n : Nat) (xs : Nat → FlexV) (st : Nat → FxSt) (f : Int) (i : Nat) (h : -16777216 ≤ (st i).is ∧ (st i).is ≤ 16777216) : -33554432 ≤ byF gr n xs st f i ∧ byF gr n xs st f i ≤ 33554432 := by
  have h1 := is_bd gr n xs st f i h
  have h2 := cut_lo (wouldF gr n xs st f i)
  have h3 := cut_hi (wouldF gr n xs st f i)
  unfold byF; split <;> omega
theorem bySum_bd (gr : Bool) (n m : Nat) (xs : Nat → FlexV) (st : Nat → FxSt) (f : Int) (h : StOk st) (hm : m ≤ 1000) : -33554432000 ≤ sumTo (byF gr n xs st f) m ∧ sumTo (byF gr n xs st f) m ≤ 33554432000 := by
  have h1 := sumTo_bd (byF gr n xs st f) 33554432 (by omega) m (fun i _ => by have := by_bd gr n xs st f i (h i); omega)
  have e : (33554432 : Int) * m ≤ 33554432 * 1000 := Int.mul_le_mul_of_nonneg_left (by omega) (by omega)
  omega
theorem turn_ok (gr : Bool) (n : Nat) (xs : Nat → FlexV) (st : Nat → FxSt) (f : Int) (h : StOk st) : StOk (turnF gr n xs st f) := fun i => is_bd gr n xs st f i (h i)
theorem born_ok (gr : Bool) (x : FlexV) : -16777216 ≤ (bornF gr x).is ∧ (bornF gr x).is ≤ 16777216 := by
  have := long_bd x
  unfold bornF; split
  · exact this
  · show (-16777216 : Int) ≤ 0 ∧ (0 : Int) ≤ 16777216; omega
end Go.Proofs.Ytpinfaoeggipmaa
