/- Plain law of P327, second part: columns as cells widen them. -/
import Derived.Test.YtkppignoomnmdaaCellPlain
namespace Go.Proofs.Ytkppignoomnmdaa
open Go.RowKit
set_option linter.unusedVariables false

/-- The numbers of s places from p on. -/
def winL (f : Nat → Int) (p s : Nat) : List Int := fnL s (fun i => f (p + i))
def winS (f : Nat → Int) (p s : Nat) : Int := sumTo (fun i => f (p + i)) s
def wtsW (f : Nat → Int) (p s : Nat) : List Int := if winS f p s = 0 then onesL s else winL f p s
theorem wtsW_len (f : Nat → Int) (p s : Nat) : (wtsW f p s).length = s := by unfold wtsW winL; split <;> simp [ones_len, fnL_len]
/-- Widen: what lacks is shared out, by weights. -/
def addsF (f : Nat → Int) (p s : Nat) (lack : Int) (ws : List Int) (k : Nat) : Nat → Int := fun i => if p ≤ i ∧ i < p + k then f i + (share lack ws).getD (i - p) 0 else f i
def widenF (f : Nat → Int) (p s : Nat) (want : Int) (ws : List Int) : Nat → Int :=
  if want - winS f p s ≤ 0 then f else addsF f p s (want - winS f p s) ws s
theorem widen_no {f : Nat → Int} {p s : Nat} {want : Int} {ws : List Int} (h : want - winS f p s ≤ 0) : widenF f p s want ws = f := by unfold widenF; rw [if_pos h]
theorem widen_yes {f : Nat → Int} {p s : Nat} {want : Int} {ws : List Int} (h : ¬ want - winS f p s ≤ 0) : widenF f p s want ws = addsF f p s (want - winS f p s) ws s := by unfold widenF; rw [if_neg h]
theorem addsF_zero (f : Nat → Int) (p s : Nat) (lack : Int) (ws : List Int) : addsF f p s lack ws 0 = f := by
  funext i; unfold addsF; rw [if_neg (by omega)]
theorem addsF_at (f : Nat → Int) (p s : Nat) (lack : Int) (ws : List Int) (k : Nat) : addsF f p s lack ws k (p + k) = f (p + k) := by
  unfold addsF; rw [if_neg (by omega)]
theorem addsF_set (n : Nat) (f : Nat → Int) (p s : Nat) (lack : Int) (ws : List Int) (k : Nat) (hk : p + k < n) :
    (ints (fnL n (addsF f p s lack ws k))).set (p + k) (.int .i64 (f (p + k) + (share lack ws).getD k 0)) = ints (fnL n (addsF f p s lack ws (k + 1))) := by
  unfold ints fnL
  apply List.ext_getElem
  · simp
  · intro i h1 h2
    simp only [List.getElem_set, List.getElem_map, List.getElem_range]
    by_cases e : p + k = i
    · subst e
      rw [if_pos rfl]
      unfold addsF
      rw [if_pos (by omega), Nat.add_sub_cancel_left]
    · rw [if_neg e]
      unfold addsF
      by_cases e2 : p ≤ i ∧ i < p + k
      · rw [if_pos e2, if_pos (by omega)]
      · rw [if_neg e2, if_neg (by omega)]
/-- One number turned. -/
def updF (f : Nat → Int) (p : Nat) (x : Int) : Nat → Int := fun i => if i = p then x else f i
theorem updF_set (n : Nat) (f : Nat → Int) (p : Nat) (x : Int) (hp : p < n) : (ints (fnL n f)).set p (.int .i64 x) = ints (fnL n (updF f p x)) := by
  unfold ints fnL
  apply List.ext_getElem
  · simp
  · intro i h1 h2
    simp only [List.getElem_set, List.getElem_map, List.getElem_range]
    unfold updF
    by_cases e : p = i
    · rw [if_pos e, if_pos e.symm]
    · rw [if_neg e, if_neg (fun h => e h.symm)]
/-- One cell. -/
def colStep (st : (Nat → Int) × (Nat → Int)) (c : CellV) : (Nat → Int) × (Nat → Int) :=
  if c.span = 1 then (updF st.1 c.pos (max (st.1 c.pos) c.least), updF st.2 c.pos (max (st.2 c.pos) c.most))
  else (widenF st.1 c.pos c.span c.least (wtsW st.2 c.pos c.span), widenF st.2 c.pos c.span c.most (wtsW st.2 c.pos c.span))
theorem colStep_one {st : (Nat → Int) × (Nat → Int)} {c : CellV} (h : c.span = 1) : colStep st c = (updF st.1 c.pos (max (st.1 c.pos) c.least), updF st.2 c.pos (max (st.2 c.pos) c.most)) := by unfold colStep; rw [if_pos h]
theorem colStep_more {st : (Nat → Int) × (Nat → Int)} {c : CellV} (h : ¬ c.span = 1) : colStep st c = (widenF st.1 c.pos c.span c.least (wtsW st.2 c.pos c.span), widenF st.2 c.pos c.span c.most (wtsW st.2 c.pos c.span)) := by unfold colStep; rw [if_neg h]
def zeroF : Nat → Int := fun _ => 0
def colsF (S : List CellV) : (Nat → Int) × (Nat → Int) := S.foldl colStep (zeroF, zeroF)
theorem colsF_snoc (S : List CellV) (c : CellV) : colsF (S ++ [c]) = colStep (colsF S) c := by simp [colsF]
/-- Bounds. -/
def FnOk (f : Nat → Int) : Prop := ∀ i, 0 ≤ f i ∧ f i ≤ 16777216
theorem zeroF_ok : FnOk zeroF := fun i => by simp [zeroF]
theorem updF_ok {f : Nat → Int} (h : FnOk f) (p : Nat) {x : Int} (h0 : 0 ≤ x) (h1 : x ≤ 16777216) : FnOk (updF f p x) := fun i => by
  have := h i; unfold updF; split <;> omega
theorem winS_bd {f : Nat → Int} (h : FnOk f) (p s : Nat) : 0 ≤ winS f p s ∧ winS f p s ≤ 16777216 * s := sumTo_le _ s (fun i => h (p + i))
theorem sumTo_at (f : Nat → Int) (h : ∀ i, 0 ≤ f i) : ∀ (n i : Nat), i < n → f i ≤ sumTo f n
  | 0, i, hi => by omega
  | n + 1, i, hi => by
    simp only [sumTo]
    by_cases e : i = n
    · subst e
      have : 0 ≤ sumTo f i := by
        clear hi
        induction i with
        | zero => simp [sumTo]
        | succ n ih => have := h n; simp only [sumTo]; omega
      omega
    · have := sumTo_at f h n i (by omega)
      have := h n
      omega
theorem fdiv_mono {a b d : Int} (hd : 0 < d) (h : a ≤ b) : a.fdiv d ≤ b.fdiv d := by
  rw [Int.fdiv_eq_ediv_of_nonneg a (by omega), Int.fdiv_eq_ediv_of_nonneg b (by omega)]
  exact Int.ediv_le_ediv hd h
theorem share_part (lack : Int) (ws : List Int) (h0 : 0 ≤ lack) (h1 : lack ≤ 16777216) (j : Nat) : 0 ≤ (share lack ws).getD j 0 ∧ (share lack ws).getD j 0 ≤ lack := by
  by_cases hj : j < ws.length
  · have e : (share lack ws).getD j 0 = shareAt lack ws j := by simp [share, List.getD, hj]
    rw [e]
    unfold shareAt
    split
    · omega
    · rename_i hz
      have hp := psum_pos ws hz
      have m1 := psum_mono ws 0 j (by omega)
      have m2 := psum_mono ws j (j + 1) (by omega)
      have m3 := psum_mono ws (j + 1) ws.length (by omega)
      simp only [psum] at m1
      unfold upto
      rw [cut_id lack (by omega) h1]
      have a1 : 0 ≤ lack * psum ws j := Int.mul_nonneg h0 (by omega)
      have a2 : lack * psum ws j ≤ lack * psum ws (j + 1) := Int.mul_le_mul_of_nonneg_left m2 h0
      have a3 : lack * psum ws (j + 1) ≤ lack * psum ws ws.length := Int.mul_le_mul_of_nonneg_left m3 h0
      have d1 := fdiv_mono hp a1
      have d2 := fdiv_mono hp a2
      have d3 := fdiv_mono hp a3
      rw [Int.mul_fdiv_cancel _ (by omega : psum ws ws.length ≠ 0)] at d3
      rw [Int.zero_fdiv] at d1
      omega
  · have e : (share lack ws).getD j 0 = 0 := by simp [share, List.getD, hj]
    omega
theorem widenF_ok {f : Nat → Int} (h : FnOk f) (p s : Nat) {want : Int} (hw : want ≤ 16777216) (ws : List Int) : FnOk (widenF f p s want ws) := by
  by_cases hl : want - winS f p s ≤ 0
  · rw [widen_no hl]; exact h
  · rw [widen_yes hl]
    intro i
    have hs := (winS_bd h p s).1
    unfold addsF
    split
    · rename_i hi
      have h1 := share_part (want - winS f p s) ws (by omega) (by omega) (i - p)
      have h2 := sumTo_at (fun i => f (p + i)) (fun j => (h (p + j)).1) s (i - p) (by omega)
      have h3 : p + (i - p) = i := by omega
      simp only [h3] at h2
      have := h i
      unfold winS at h1 hs ⊢
      omega
    · exact h i
theorem colStep_ok {st : (Nat → Int) × (Nat → Int)} (h1 : FnOk st.1) (h2 : FnOk st.2) {c : CellV} (hc : CellOk c) : FnOk (colStep st c).1 ∧ FnOk (colStep st c).2 := by
  have := hc.l0; have := hc.l1; have := hc.m1
  by_cases hs : c.span = 1
  · rw [colStep_one hs]
    have a := h1 c.pos
    have b := h2 c.pos
    exact ⟨updF_ok h1 _ (by omega) (by omega), updF_ok h2 _ (by omega) (by omega)⟩
  · rw [colStep_more hs]
    exact ⟨widenF_ok h1 _ _ (by omega) _, widenF_ok h2 _ _ (by omega) _⟩
theorem colsF_ok (S : List CellV) (h : ∀ c ∈ S, CellOk c) : FnOk (colsF S).1 ∧ FnOk (colsF S).2 := by
  have key : ∀ (S : List CellV) (st : (Nat → Int) × (Nat → Int)), (∀ c ∈ S, CellOk c) → FnOk st.1 → FnOk st.2 → FnOk (S.foldl colStep st).1 ∧ FnOk (S.foldl colStep st).2 := by
    intro S
    induction S with
    | nil => intro st _ h1 h2; exact ⟨h1, h2⟩
    | cons c S ih =>
      intro st hS h1 h2
      have := colStep_ok h1 h2 (hS c (by simp))
      exact ih _ (fun d hd => hS d (by simp [hd])) this.1 this.2
  exact key S _ h zeroF_ok zeroF_ok
/-- P327. -/
def leastF (S : List CellV) (n : Nat) : List Int := fnL n (colsF S).1
def mostF (S : List CellV) (n : Nat) : List Int := fnL n (fun i => max ((colsF S).2 i) ((colsF S).1 i))
/-- Cells by their spans. -/
def bucket (L : List CellV) : List CellV := (List.range 50).flatMap (fun s => L.filter (fun c => c.span == s + 1))
theorem bucket_mem {L : List CellV} {c : CellV} (h : c ∈ bucket L) : c ∈ L := by
  unfold bucket at h
  simp only [List.mem_flatMap, List.mem_filter] at h
  obtain ⟨_, _, h, _⟩ := h
  exact h
end Go.Proofs.Ytkppignoomnmdaa
