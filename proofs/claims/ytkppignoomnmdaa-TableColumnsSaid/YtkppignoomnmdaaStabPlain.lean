/- Plain laws of a stable sort by merges in place. -/
import Derived.Sort.LotA
import Derived.Sort.WalkA
namespace Go.Proofs.Ytkppignoomnmdaa
open Go.Sort
set_option linter.unusedVariables false
set_option linter.unusedSimpArgs false
set_option linter.unusedSectionVars false

section
variable {α : Type} [Inhabited α] (key : α → Nat)
/-- The array, as a function. -/
def getA (d : Array α) (i : Nat) : α := d[i]!
/-- Sorted from a up to b. -/
def Srt (f : Nat → α) (a b : Nat) : Prop := ∀ i j, a ≤ i → i ≤ j → j < b → key (f i) ≤ key (f j)
/-- Of the n elements from a on, those with the key v. -/
def filt (v : Nat) (f : Nat → α) (a : Nat) : Nat → List α
  | 0 => []
  | n + 1 => filt v f a n ++ (if key (f (a + n)) = v then [f (a + n)] else [])
theorem filt_add (v : Nat) (f : Nat → α) (a n : Nat) : ∀ m, filt key v f a (n + m) = filt key v f a n ++ filt key v f (a + n) m
  | 0 => by simp [filt]
  | m + 1 => by
    have e : a + (n + m) = a + n + m := by omega
    show filt key v f a (n + m) ++ (if key (f (a + (n + m))) = v then [f (a + (n + m))] else []) = _
    rw [filt_add v f a n m, filt, List.append_assoc, e]
theorem filt_congr (v : Nat) (f g : Nat → α) (a b : Nat) : ∀ n, (∀ i, i < n → f (a + i) = g (b + i)) → filt key v f a n = filt key v g b n
  | 0, _ => rfl
  | n + 1, h => by rw [filt, filt, filt_congr v f g a b n (fun i hi => h i (by omega)), h n (by omega)]
theorem filt_mem (v : Nat) (f : Nat → α) (a : Nat) (x : α) : ∀ n, x ∈ filt key v f a n ↔ ∃ i, i < n ∧ x = f (a + i) ∧ key x = v
  | 0 => by simp [filt]
  | n + 1 => by
    rw [filt, List.mem_append, filt_mem v f a x n]
    constructor
    · rintro (⟨i, hi, hx⟩ | h)
      · exact ⟨i, by omega, hx⟩
      · by_cases e : key (f (a + n)) = v
        · rw [if_pos e, List.mem_singleton] at h; subst h; exact ⟨n, by omega, rfl, e⟩
        · rw [if_neg e] at h; cases h
    · rintro ⟨i, hi, rfl, hv⟩
      by_cases e : i = n
      · subst e; right; rw [if_pos hv]; exact List.mem_singleton.2 rfl
      · left; exact ⟨i, by omega, rfl, hv⟩
/-- Alike outside [a, b), and inside the same elements, those of one key in their order. -/
def Sim (a b : Nat) (f g : Nat → α) : Prop := (∀ k, k < a ∨ b ≤ k → g k = f k) ∧ ∀ v, filt key v g a (b - a) = filt key v f a (b - a)
theorem Sim.refl (a b : Nat) (f : Nat → α) : Sim key a b f f := ⟨fun _ _ => rfl, fun _ => rfl⟩
variable {key}
theorem Sim.trans {a b : Nat} {f g h : Nat → α} (x : Sim key a b f g) (y : Sim key a b g h) : Sim key a b f h :=
  ⟨fun k hk => (y.1 k hk).trans (x.1 k hk), fun v => (y.2 v).trans (x.2 v)⟩
theorem Sim.mono {a b a' b' : Nat} {f g : Nat → α} (x : Sim key a b f g) (h1 : a' ≤ a) (h2 : a ≤ b) (h3 : b ≤ b') : Sim key a' b' f g := by
  refine ⟨fun k hk => x.1 k (by omega), fun v => ?_⟩
  have e : b' - a' = (a - a') + ((b - a) + (b' - b)) := by omega
  have e1 : a' + (a - a') = a := by omega
  have e2 : a + (b - a) = b := by omega
  rw [e, filt_add, filt_add, filt_add, filt_add, e1, e2, x.2 v]
  congr 1
  · exact filt_congr key v _ _ _ _ _ (fun i hi => x.1 _ (by omega))
  · congr 1
    exact filt_congr key v _ _ _ _ _ (fun i hi => x.1 _ (by omega))
theorem Sim.mem {a b : Nat} {f g : Nat → α} (x : Sim key a b f g) {i : Nat} (h1 : a ≤ i) (h2 : i < b) : ∃ j, a ≤ j ∧ j < b ∧ g i = f j := by
  have : g i ∈ filt key (key (g i)) g a (b - a) := (filt_mem key _ _ _ _ _).2 ⟨i - a, by omega, by rw [show a + (i - a) = i by omega], rfl⟩
  rw [x.2] at this
  obtain ⟨j, hj, e, _⟩ := (filt_mem key _ _ _ _ _).1 this
  exact ⟨a + j, by omega, by omega, e⟩
theorem Srt.sub {f : Nat → α} {a b a' b' : Nat} (h : Srt key f a b) (h1 : a ≤ a') (h2 : b' ≤ b) : Srt key f a' b' := fun i j p q r => h i j (by omega) q (by omega)
theorem Srt.congr {f g : Nat → α} {a b : Nat} (h : Srt key f a b) (e : ∀ k, a ≤ k → k < b → g k = f k) : Srt key g a b := fun i j p q r => by rw [e i p (by omega), e j (by omega) r]; exact h i j p q r
theorem Srt.one {f : Nat → α} {a b : Nat} (h : b ≤ a + 1) : Srt key f a b := fun i j p q r => by rw [show i = j by omega]; exact Nat.le_refl _
theorem Srt.join {f : Nat → α} {a m b : Nat} (h1 : Srt key f a m) (h2 : Srt key f m b) (h : ∀ p q, a ≤ p → p < m → m ≤ q → q < b → key (f p) ≤ key (f q)) : Srt key f a b := fun i j p q r => by
  by_cases e : j < m
  · exact h1 i j p q e
  · by_cases e2 : i < m
    · exact h i j p e2 (by omega) r
    · exact h2 i j (by omega) q r
/-- [s, m) and [m, e), exchanged. -/
def rot (f : Nat → α) (s m e k : Nat) : α := if k < s ∨ e ≤ k then f k else if k < s + (e - m) then f (k + (m - s)) else f (k - (e - m))
theorem rot_left (f : Nat → α) (m e : Nat) : rot f m m e = f := by
  funext k; unfold rot
  repeat' split
  all_goals first | rfl | (exfalso; omega) | (congr 1; omega)
theorem rot_right (f : Nat → α) (s m : Nat) (h : s ≤ m) : rot f s m m = f := by
  funext k; unfold rot
  repeat' split
  all_goals first | rfl | (exfalso; omega) | (congr 1; omega)
/-- [x, x + n) and [y, y + n), exchanged. -/
def swr (f : Nat → α) (x y n k : Nat) : α := if x ≤ k ∧ k < x + n then f (k + (y - x)) else if y ≤ k ∧ k < y + n then f (k - (y - x)) else f k
theorem swr_zero (f : Nat → α) (x y : Nat) : swr f x y 0 = f := by
  funext k; unfold swr; rw [if_neg (by omega), if_neg (by omega)]
theorem getA_swp (d : Array α) {i j : Nat} (hi : i < d.size) (hj : j < d.size) (k : Nat) : getA (swp d i j) k = if k = j then getA d i else if k = i then getA d j else getA d k := by
  unfold getA
  by_cases e1 : k = j
  · subst e1; rw [if_pos rfl, swp_right _ _ _ hj]
  · rw [if_neg e1]
    by_cases e2 : k = i
    · subst e2; rw [if_pos rfl, swp_left _ _ _ hi e1]
    · rw [if_neg e2, swp_other _ _ _ _ e2 e1]
theorem swr_step (d : Array α) (f : Nat → α) (x y n : Nat) (hd : getA d = swr f x y n) (h : x + n < y) (h1 : x + n < d.size) (h2 : y + n < d.size) : getA (swp d (x + n) (y + n)) = swr f x y (n + 1) := by
  funext k
  rw [getA_swp d h1 h2, hd]
  unfold swr
  repeat' split
  all_goals first | rfl | (exfalso; omega) | (congr 1; omega)
theorem rot_more (g : Nat → α) (m i j : Nat) (h : j < i) (hi : i ≤ m) : rot (swr g (m - i) m j) (m - (i - j)) m (m + j) = rot g (m - i) m (m + j) := by
  funext k
  unfold rot swr
  repeat' split
  all_goals first | rfl | (exfalso; omega) | (congr 1; omega)
theorem rot_less (g : Nat → α) (m i j : Nat) (h : i < j) (hi : i ≤ m) : rot (swr g (m - i) (m + j - i) i) (m - i) m (m + (j - i)) = rot g (m - i) m (m + j) := by
  funext k
  unfold rot swr
  repeat' split
  all_goals first | rfl | (exfalso; omega) | (congr 1; omega)
theorem rot_even (g : Nat → α) (m i : Nat) (hi : i ≤ m) : swr g (m - i) m i = rot g (m - i) m (m + i) := by
  funext k
  unfold rot swr
  repeat' split
  all_goals first | rfl | (exfalso; omega) | (congr 1; omega)
theorem rot_up (d : Array α) (f : Nat → α) (a k : Nat) (hd : getA d = rot f a (a + 1) (k + 1)) (hk : a ≤ k) (h : k + 1 < d.size) : getA (swp d k (k + 1)) = rot f a (a + 1) (k + 1 + 1) := by
  funext x
  rw [getA_swp d (by omega) h, hd]
  unfold rot
  repeat' split
  all_goals first | rfl | (exfalso; omega) | (congr 1; omega)
theorem rot_down (d : Array α) (f : Nat → α) (k m : Nat) (hd : getA d = rot f k m (m + 1)) (hk : 0 < k) (hm : k ≤ m) (h : m < d.size) : getA (swp d k (k - 1)) = rot f (k - 1) m (m + 1) := by
  funext x
  rw [getA_swp d (by omega) (by omega), hd]
  unfold rot
  repeat' split
  all_goals first | rfl | (exfalso; omega) | (congr 1; omega)
theorem rot_sim {f : Nat → α} {s m e : Nat} (h1 : s ≤ m) (h2 : m ≤ e) (hl : ∀ p q, s ≤ p → p < m → m ≤ q → q < e → key (f q) < key (f p)) : Sim key s e f (rot f s m e) := by
  refine ⟨fun k hk => by unfold rot; rw [if_pos hk], fun v => ?_⟩
  have ea : e - s = (e - m) + (m - s) := by omega
  have eb : e - s = (m - s) + (e - m) := by omega
  have l : filt key v (rot f s m e) s (e - s) = filt key v f m (e - m) ++ filt key v f s (m - s) := by
    rw [ea, filt_add]
    congr 1
    · refine filt_congr key v _ _ _ _ _ (fun i hi => ?_)
      unfold rot; rw [if_neg (by omega), if_pos (by omega)]; congr 1; omega
    · refine filt_congr key v _ _ _ _ _ (fun i hi => ?_)
      unfold rot; rw [if_neg (by omega), if_neg (by omega)]; congr 1; omega
  have r : filt key v f s (e - s) = filt key v f s (m - s) ++ filt key v f m (e - m) := by
    rw [eb, filt_add, show s + (m - s) = m by omega]
  rw [l, r]
  rcases e1 : filt key v f s (m - s) with _ | ⟨x, xs⟩
  · simp
  · rcases e2 : filt key v f m (e - m) with _ | ⟨y, ys⟩
    · simp
    · exfalso
      obtain ⟨i, hi, hx, hv⟩ := (filt_mem key v f s x (m - s)).1 (by rw [e1]; exact List.mem_cons_self)
      obtain ⟨j, hj, hy, hw⟩ := (filt_mem key v f m y (e - m)).1 (by rw [e2]; exact List.mem_cons_self)
      have := hl (s + i) (m + j) (by omega) (by omega) (by omega) (by omega)
      rw [← hx, ← hy] at this
      omega
/-- What the rotation leaves of two sorted runs. -/
theorem sym_rot {f : Nat → α} {a s m e b : Nat} (h1 : a ≤ s) (h2 : s ≤ m) (h3 : m ≤ e) (h4 : e ≤ b) (s1 : Srt key f a m) (s2 : Srt key f m b)
    (c1 : ∀ p q, a ≤ p → p < s → e ≤ q → q < b → key (f p) ≤ key (f q)) (c2 : ∀ p q, s ≤ p → p < m → m ≤ q → q < e → key (f q) < key (f p)) :
    Sim key a b f (rot f s m e) ∧ Srt key (rot f s m e) a s ∧ Srt key (rot f s m e) s (s + (e - m)) ∧ Srt key (rot f s m e) (s + (e - m)) e ∧ Srt key (rot f s m e) e b ∧
      (∀ p q, a ≤ p → p < s + (e - m) → s + (e - m) ≤ q → q < b → key (rot f s m e p) ≤ key (rot f s m e q)) := by
  have g1 : ∀ k, k < s → rot f s m e k = f k := fun k hk => by unfold rot; rw [if_pos (by omega)]
  have g2 : ∀ k, s ≤ k → k < s + (e - m) → rot f s m e k = f (k + (m - s)) := fun k hk hk2 => by unfold rot; rw [if_neg (by omega), if_pos hk2]
  have g3 : ∀ k, s + (e - m) ≤ k → k < e → rot f s m e k = f (k - (e - m)) := fun k hk hk2 => by unfold rot; rw [if_neg (by omega), if_neg (by omega)]
  have g4 : ∀ k, e ≤ k → rot f s m e k = f k := fun k hk => by unfold rot; rw [if_pos (by omega)]
  refine ⟨(rot_sim h2 h3 c2).mono h1 (by omega) h4, fun i j p q r => ?_, fun i j p q r => ?_, fun i j p q r => ?_, fun i j p q r => ?_, fun i j p q r t => ?_⟩
  · rw [g1 i (by omega), g1 j r]; exact s1 i j p q (by omega)
  · rw [g2 i p (by omega), g2 j (by omega) r]; exact s2 _ _ (by omega) (by omega) (by omega)
  · rw [g3 i p (by omega), g3 j (by omega) r]; exact s1 _ _ (by omega) (by omega) (by omega)
  · rw [g4 i p, g4 j (by omega)]; exact s2 _ _ (by omega) q r
  · by_cases e1 : i < s
    · rw [g1 i e1]
      by_cases e2 : j < e
      · rw [g3 j r e2]; exact s1 _ _ p (by omega) (by omega)
      · rw [g4 j (by omega)]; exact c1 _ _ p e1 (by omega) t
    · rw [g2 i (by omega) q]
      by_cases e2 : j < e
      · rw [g3 j r e2]; exact Nat.le_of_lt (c2 _ _ (by omega) (by omega) (by omega) (by omega))
      · rw [g4 j (by omega)]; exact s2 _ _ (by omega) (by omega) t
/-- The two halves sorted by themselves. -/
theorem sym_join {f g h : Nat → α} {a m b : Nat} (h1 : a ≤ m) (h2 : m ≤ b) (c : ∀ p q, a ≤ p → p < m → m ≤ q → q < b → key (f p) ≤ key (f q))
    (x : Sim key a m f g) (xs : Srt key g a m) (y : Sim key m b g h) (ys : Srt key h m b) : Sim key a b f h ∧ Srt key h a b := by
  refine ⟨(x.mono (Nat.le_refl _) h1 h2).trans (y.mono h1 h2 (Nat.le_refl _)), (xs.congr (fun k _ hk => y.1 k (Or.inl hk))).join ys (fun p q p1 p2 q1 q2 => ?_)⟩
  rw [y.1 p (Or.inl p2)]
  obtain ⟨i, i1, i2, ei⟩ := x.mem p1 p2
  obtain ⟨j, j1, j2, ej⟩ := y.mem q1 q2
  rw [ei, ej, x.1 j (Or.inr j1)]
  exact c i j i1 i2 j1 j2
/-- One element, laid into a run behind it. -/
theorem ins_left {f : Nat → α} {a b i : Nat} (h1 : a + 1 ≤ i) (h2 : i ≤ b) (s2 : Srt key f (a + 1) b) (c1 : i = a + 1 ∨ key (f (i - 1)) < key (f a)) (c2 : i = b ∨ key (f a) ≤ key (f i)) :
    Sim key a b f (rot f a (a + 1) i) ∧ Srt key (rot f a (a + 1) i) a b := by
  obtain ⟨r0, _, r2, r3, r4, r5⟩ := sym_rot (key := key) (f := f) (a := a) (s := a) (m := a + 1) (e := i) (b := b) (Nat.le_refl _) (by omega) h1 h2 (Srt.one (by omega)) s2 (fun p q _ _ _ _ => by omega)
    (fun p q p1 p2 q1 q2 => by
      obtain rfl : p = a := by omega
      rcases c1 with c1 | c1
      · omega
      · exact Nat.lt_of_le_of_lt (s2 q (i - 1) (by omega) (by omega) (by omega)) c1)
  refine ⟨r0, r2.join (r3.join r4 (fun p q p1 p2 q1 q2 => ?_)) r5⟩
  have e1 : rot f a (a + 1) i p = f a := by unfold rot; rw [if_neg (by omega), if_neg (by omega)]; congr 1; omega
  have e2 : rot f a (a + 1) i q = f q := by unfold rot; rw [if_pos (by omega)]
  rw [e1, e2]
  rcases c2 with c2 | c2
  · omega
  · exact Nat.le_trans c2 (s2 i q (by omega) (by omega) (by omega))
/-- One element, laid into a run before it. -/
theorem ins_right {f : Nat → α} {a m i : Nat} (h1 : a ≤ i) (h2 : i ≤ m) (s1 : Srt key f a m) (c1 : i = a ∨ key (f (i - 1)) ≤ key (f m)) (c2 : i = m ∨ key (f m) < key (f i)) :
    Sim key a (m + 1) f (rot f i m (m + 1)) ∧ Srt key (rot f i m (m + 1)) a (m + 1) := by
  obtain ⟨r0, r1, r2, r3, r4, r5⟩ := sym_rot (key := key) (f := f) (a := a) (s := i) (m := m) (e := m + 1) (b := m + 1) h1 h2 (by omega) (Nat.le_refl _) s1 (Srt.one (by omega)) (fun p q _ _ _ _ => by omega)
    (fun p q p1 p2 q1 q2 => by
      obtain rfl : q = m := by omega
      rcases c2 with c2 | c2
      · omega
      · exact Nat.lt_of_lt_of_le c2 (s1 i p (by omega) (by omega) (by omega)))
  refine ⟨r0, (r1.join r2 (fun p q p1 p2 q1 q2 => ?_)).join (r3.join r4 (fun p q _ _ _ _ => by omega)) r5⟩
  have e1 : rot f i m (m + 1) p = f p := by unfold rot; rw [if_pos (by omega)]
  have e2 : rot f i m (m + 1) q = f m := by unfold rot; rw [if_neg (by omega), if_pos (by omega)]; congr 1; omega
  rw [e1, e2]
  rcases c1 with c1 | c1
  · omega
  · exact Nat.le_trans (s1 p (i - 1) (by omega) (by omega) (by omega)) c1
/-- What the search of the middle keeps. -/
def SI (key : α → Nat) (f : Nat → α) (p st0 r0 st r : Nat) : Prop := st0 ≤ st ∧ st ≤ r ∧ r ≤ r0 ∧ (st = st0 ∨ key (f (st - 1)) ≤ key (f (p - (st - 1)))) ∧ (r = r0 ∨ key (f (p - r)) < key (f r))
theorem SI.up {f : Nat → α} {p st0 r0 st r c : Nat} (h : SI key f p st0 r0 st r) (h1 : st ≤ c) (h2 : c < r) (hc : key (f c) ≤ key (f (p - c))) : SI key f p st0 r0 (c + 1) r :=
  ⟨by have := h.1; omega, h2, h.2.2.1, Or.inr hc, h.2.2.2.2⟩
theorem SI.down {f : Nat → α} {p st0 r0 st r c : Nat} (h : SI key f p st0 r0 st r) (h1 : st ≤ c) (h2 : c < r) (hc : key (f (p - c)) < key (f c)) : SI key f p st0 r0 st c :=
  ⟨h.1, h1, by have := h.2.2.1; omega, h.2.2.2.1, Or.inr hc⟩
/-- What the search found. -/
theorem SI.found {f : Nat → α} {a m b mid n st0 r0 s : Nat} (ham : a ≤ m) (hmb : m ≤ b) (hmid : mid = (a + b) / 2) (hn : n = mid + m) (h0 : (mid < m ∧ st0 = n - b ∧ r0 = mid) ∨ (m ≤ mid ∧ st0 = a ∧ r0 = m))
    (s1 : Srt key f a m) (s2 : Srt key f m b) (h : SI key f (n - 1) st0 r0 s s) :
    a ≤ s ∧ s ≤ m ∧ m ≤ n - s ∧ n - s ≤ b ∧ s + (n - s - m) = mid ∧ (∀ p q, a ≤ p → p < s → n - s ≤ q → q < b → key (f p) ≤ key (f q)) ∧ (∀ p q, s ≤ p → p < m → m ≤ q → q < n - s → key (f q) < key (f p)) := by
  obtain ⟨h1, -, h3, h4, h5⟩ := h
  refine ⟨by omega, by omega, by omega, by omega, by omega, fun p q p1 p2 q1 q2 => ?_, fun p q p1 p2 q1 q2 => ?_⟩
  · rcases h4 with h4 | h4
    · exfalso; omega
    · rw [show n - 1 - (s - 1) = n - s by omega] at h4
      exact Nat.le_trans (s1 p (s - 1) (by omega) (by omega) (by omega)) (Nat.le_trans h4 (s2 (n - s) q (by omega) (by omega) (by omega)))
  · rcases h5 with h5 | h5
    · exfalso; omega
    · exact Nat.lt_of_le_of_lt (s2 q (n - 1 - s) (by omega) (by omega) (by omega)) (Nat.lt_of_lt_of_le h5 (s1 s p (by omega) (by omega) (by omega)))
/-- The insertion sort keeps the order of what has one key. -/
theorem inner_sim {lt : α → α → Bool} (hlt : ∀ x y, lt x y = true → key x < key y) (a b : Nat) : ∀ (j : Nat) (d : Array α), j < b → b ≤ d.size → a ≤ j → Sim key a b (getA d) (getA (insInner lt a j d)) ∧ (insInner lt a j d).size = d.size
  | 0, d, h1, h2, h3 => ⟨by unfold insInner; exact Sim.refl _ _ _ _, by unfold insInner; rfl⟩
  | j + 1, d, h1, h2, h3 => by
    by_cases c : a < j + 1 ∧ lt d[j + 1]! d[j]! = true
    · have e := insInner_go lt a (j + 1) d c.1 (by simpa using c.2)
      simp only [Nat.add_sub_cancel] at e
      obtain ⟨i1, i2⟩ := inner_sim hlt a b j (swp d (j + 1) j) (by omega) (by rw [size_swp]; exact h2) (by omega)
      rw [e]
      refine ⟨Sim.trans ?_ i1, by rw [i2, size_swp]⟩
      have e2 : getA (swp d (j + 1) j) = rot (getA d) j (j + 1) (j + 1 + 1) := by
        have := rot_down d (getA d) (j + 1) (j + 1) (by rw [show rot (getA d) (j + 1) (j + 1) (j + 1 + 1) = getA d from rot_left _ _ _]) (by omega) (by omega) (by omega)
        simpa using this
      rw [e2]
      refine (rot_sim (by omega) (by omega) (fun p q p1 p2 q1 q2 => ?_)).mono (by omega) (by omega) (by omega)
      obtain rfl : p = j := by omega
      obtain rfl : q = p + 1 := by omega
      exact hlt _ _ c.2
    · rw [insInner_stop lt a (j + 1) d (by
        simp only [Nat.add_sub_cancel]
        by_cases c1 : a < j + 1
        · right; rcases e : lt d[j + 1]! d[j]! with _ | _
          · rfl
          · exact absurd ⟨c1, e⟩ c
        · left; omega)]
      exact ⟨Sim.refl _ _ _ _, rfl⟩
theorem outer_sim {lt : α → α → Bool} (hlt : ∀ x y, lt x y = true → key x < key y) (a b : Nat) : ∀ (g i : Nat) (d : Array α), b - i ≤ g → a ≤ i → b ≤ d.size → Sim key a b (getA d) (getA (insOuter lt a b i d))
  | 0, i, d, h0, h1, h2 => by rw [insOuter_stop lt a b i d (by omega)]; exact Sim.refl _ _ _ _
  | g + 1, i, d, h0, h1, h2 => by
    by_cases c : i < b
    · rw [insOuter_go lt a b i d c]
      obtain ⟨i1, i2⟩ := inner_sim hlt a b i d c h2 h1
      exact i1.trans (outer_sim hlt a b g (i + 1) _ (by omega) (by omega) (by rw [i2]; exact h2))
    · rw [insOuter_stop lt a b i d c]; exact Sim.refl _ _ _ _
theorem ins_sim {lt : α → α → Bool} (hlt : ∀ x y, lt x y = true ↔ key x < key y) (d : Array α) (a b : Nat) (h1 : a ≤ b) (h2 : b ≤ d.size) :
    Sim key a b (getA d) (getA (insertionSort lt d a b)) ∧ Srt key (getA (insertionSort lt d a b)) a b ∧ (insertionSort lt d a b).size = d.size := by
  have hf : ∀ x y, lt x y = false ↔ key y ≤ key x := fun x y => by rw [← Bool.not_eq_true, hlt]; omega
  have hS : SWO lt := ⟨fun x => (hf x x).2 (Nat.le_refl _), fun x y z p q => (hlt _ _).2 (by have := (hlt _ _).1 p; have := (hlt _ _).1 q; omega), fun x y z p q => (hf _ _).2 (by have := (hf _ _).1 p; have := (hf _ _).1 q; omega)⟩
  have h := insertionSort_holds (lt := lt) hS d a b h1 h2
  refine ⟨outer_sim (fun x y => (hlt x y).1) a b _ (a + 1) d (Nat.le_refl _) (by omega) h2, fun i j p q r => ?_, h.1.1⟩
  by_cases e : i = j
  · subst e; exact Nat.le_refl _
  · exact (hf _ _).1 (h.2 i j p (by omega) r)
/-- The blocks of B that begin before a are sorted. -/
def BlkS (key : α → Nat) (f : Nat → α) (n B a : Nat) : Prop := ∀ q, q * B < a → Srt key f (q * B) (min (q * B + B) n)
theorem BlkS.next {f g : Nat → α} {n B q : Nat} (h : BlkS key f n B (q * B)) (hB : 0 < B) (hq : q * B + B ≤ n) (x : ∀ k, k < q * B → g k = f k) (y : Srt key g (q * B) (q * B + B)) : BlkS key g n B ((q + 1) * B) := fun t ht => by
  have ht' : t < q + 1 := Nat.lt_of_mul_lt_mul_right ht
  by_cases e : t = q
  · subst e; exact y.sub (Nat.le_refl _) (by omega)
  · have e2 : (t + 1) * B ≤ q * B := Nat.mul_le_mul_right _ (by omega)
    rw [Nat.add_mul, Nat.one_mul] at e2
    exact (h t (by omega)).congr (fun k _ hk => x k (by omega))
theorem BlkS.last {f g : Nat → α} {n B q : Nat} (h : BlkS key f n B (q * B)) (hB : 0 < B) (hq : n < q * B + B) (x : ∀ k, k < q * B → g k = f k) (y : Srt key g (q * B) n) : BlkS key g n B n := fun t ht => by
  by_cases e : t = q
  · subst e; exact y.sub (Nat.le_refl _) (by omega)
  · have ht' : t * B < (q + 1) * B := by rw [Nat.add_mul, Nat.one_mul]; omega
    have ht2 : t < q + 1 := Nat.lt_of_mul_lt_mul_right ht'
    have e2 : (t + 1) * B ≤ q * B := Nat.mul_le_mul_right _ (by omega)
    rw [Nat.add_mul, Nat.one_mul] at e2
    exact (h t (by omega)).congr (fun k _ hk => x k (by omega))
theorem BlkS.whole {f : Nat → α} {n B : Nat} (h : BlkS key f n B n) (hB : n ≤ B) : Srt key f 0 n := by
  by_cases e : n = 0
  · exact fun i j _ _ r => by omega
  · have := h 0 (by omega)
    rw [Nat.zero_mul] at this
    exact this.sub (Nat.le_refl _) (by omega)
end
end Go.Proofs.Ytkppignoomnmdaa
