/- What the reference's Tell writes: plain laws of steps told, the state of a stacker that tells. -/
import Derived.Test.YtpamfhplklhnpaaDoorStkG
namespace Go.Proofs.YtpamfhplklhnpaaDoor
open Go.RowKit
set_option linter.unusedVariables false
set_option linter.unusedSimpArgs false

section
variable {n : Nat} {par : Nat → Nat} {flat : Nat → Bool} {z phase : Nat → Int}
theorem climb_le (hp : ∀ k, 0 < k → k < n → par k < k) : ∀ (u g : Nat), g < n → climb par flat u g ≤ g
  | 0, g, _ => Nat.le_refl _
  | u + 1, g, hg => by
    rw [climb]
    split
    · rename_i h
      have h1 := hp g h.1 hg
      have := climb_le hp u (par g) (by omega)
      omega
    · exact Nat.le_refl _
theorem owner_lt (hp : ∀ k, 0 < k → k < n → par k < k) {k : Nat} (h0 : 0 < k) (hk : k < n) : ownerP par flat k < k := by
  have h1 := hp k h0 hk
  have := climb_le (flat := flat) hp (par k) (par k) (by omega)
  unfold ownerP; omega
theorem climb_firm (hp : ∀ k, 0 < k → k < n → par k < k) : ∀ (u g : Nat), g ≤ u → g < n → climb par flat u g = 0 ∨ flat (climb par flat u g) = false
  | 0, g, h, _ => by obtain rfl : g = 0 := by omega
                     exact .inl rfl
  | u + 1, g, h, hg => by
    rw [climb]
    split
    · rename_i h'
      have h1 := hp g h'.1 hg
      exact climb_firm hp u (par g) (by omega) (by omega)
    · rename_i h'
      by_cases e : g = 0
      · exact .inl e
      · refine .inr ?_
        cases hf : flat g
        · rfl
        · exact absurd ⟨by omega, hf⟩ h'
theorem owner_firm (hp : ∀ k, 0 < k → k < n → par k < k) (h00 : flat 0 = false) {k : Nat} (h0 : 0 < k) (hk : k < n) : flat (ownerP par flat k) = false := by
  have h1 := hp k h0 hk
  rcases climb_firm (flat := flat) hp (par k) (par k) (Nat.le_refl _) (by omega) with h | h
  · unfold ownerP; rw [h]; exact h00
  · exact h
theorem rankedP_step (f : Nat) (ph : Int) (m : Nat) : rankedP par flat z phase f ph (m + 1) = if 0 < m ∧ ownerP par flat m = f ∧ phase m = ph then insR z m (rankedP par flat z phase f ph m) else rankedP par flat z phase f ph m := rfl
theorem insR_len (k : Nat) : ∀ l, (insR z k l).length = l.length + 1
  | [] => rfl
  | a :: l => by rw [insR]; split <;> simp [insR_len k l]
theorem ranked_len (f : Nat) (ph : Int) : ∀ m, (rankedP par flat z phase f ph m).length ≤ m
  | 0 => by simp [rankedP]
  | m + 1 => by
    rw [rankedP_step]
    have := ranked_len f ph m
    split
    · rw [insR_len]; omega
    · omega
theorem len_nodup {l : List Nat} {n : Nat} (h : l.Nodup) (hl : ∀ x ∈ l, x < n) : l.length ≤ n := by
  have hp : l.Perm ((List.range n).filter (fun x => decide (x ∈ l))) := (List.perm_ext_iff_of_nodup h (List.Nodup.sublist List.filter_sublist List.nodup_range)).2 (fun x => by
    simp only [List.mem_filter, List.mem_range, decide_eq_true_eq]
    exact ⟨fun hx => ⟨hl x hx, hx⟩, fun hx => hx.2⟩)
  rw [hp.length_eq]
  have := List.length_filter_le (fun x => decide (x ∈ l)) (List.range n)
  simpa using this
/-- What is told, counted. -/
theorem tells_len (g : Nat → Nat → List (Nat × Nat)) (c : Nat → Nat) (hg : ∀ k a, (g k a).length = c k) : ∀ (l : List Nat) (a : Nat), (tells g l a).length = (l.map c).sum
  | [], a => rfl
  | k :: l, a => by simp [tells, hg, tells_len g c hg l]
def cntT (own : Nat → List Nat) : Nat → Nat → Nat
  | 0, _ => 0
  | u + 1, f => 1 + ((own f).map (cntT own u)).sum
theorem tellN_len (own : Nat → List Nat) : ∀ (u f a : Nat), (tellN own u f a).length = cntT own u f
  | 0, f, a => rfl
  | u + 1, f, a => by
    rw [tellN, List.length_cons, tells_len (tellN own u) (cntT own u) (fun k a => tellN_len own u k a), cntT]
    omega
/-- .. as many as there are below, at most. -/
theorem cntT_le (hp : ∀ k, 0 < k → k < n → par k < k) (own : Nat → List Nat) (ow : Nat → Nat) (ho : ∀ k, 0 < k → k < n → ow k < k) (hown : ∀ f, own f = [] ∨ (own f).Perm (kidsP n ow f)) : ∀ (u f : Nat), cntT own u f ≤ 1 + (belongP n ow (fun _ => true) u f).length
  | 0, f => by simp [cntT]
  | u + 1, f => by
    rw [cntT, belongP]
    rcases hown f with h | h
    · rw [h]; simp
    · rw [(h.map (cntT own u)).sum_nat]
      have : ∀ l : List Nat, (l.map (cntT own u)).sum ≤ (l.flatMap (fun k => k :: if (fun _ => true) k = true then belongP n ow (fun _ => true) u k else [])).length := by
        intro l
        induction l with
        | nil => simp
        | cons k l ih =>
          have h1 := cntT_le hp own ow ho hown u k
          simp only [List.map_cons, List.sum_cons, List.flatMap_cons, List.length_append, List.length_cons, if_true]
          simp only [if_true] at ih
          omega
      exact Nat.add_le_add_left (this (kidsP n ow f)) 1
theorem tell_count (hp : ∀ k, 0 < k → k < n → par k < k) (h00 : flat 0 = false) (hph : ∀ k, 0 ≤ phase k ∧ phase k < 5) (h0 : 0 < n) (a : Nat) :
    (tellN (fun f => if flat f then [] else ownL n par flat z phase f) n 0 a).length ≤ n := by
  have ho : ∀ k, 0 < k → k < n → ownerP par flat k < k := fun k h1 h2 => owner_lt hp h1 h2
  rw [tellN_len]
  have h1 := cntT_le (n := n) hp (fun f => if flat f then [] else ownL n par flat z phase f) (ownerP par flat) ho (fun f => by
    cases hf : flat f
    · refine .inr ?_
      simp only [Bool.false_eq_true, if_false]
      refine (List.perm_ext_iff_of_nodup ?_ (kids_nodup n (ownerP par flat) ho f)).2 (fun x => ?_)
      · exact (ownL_sorted n par flat z phase f).imp (fun {a b} h => by intro e; subst e; exact ltP_irr z phase a h)
      · rw [mem_ownL n par flat z phase hph, mem_kids]
        constructor
        · rintro ⟨⟨h1, h2⟩, h3⟩; exact ⟨h2, h1, h3⟩
        · rintro ⟨h1, h2, h3⟩; exact ⟨⟨h2, h1⟩, h3⟩
    · left; simp) n 0
  have h2 : (belongP n (ownerP par flat) (fun _ => true) n 0).length + 1 ≤ n := by
    have hnd := belong_nodup n (ownerP par flat) (fun _ => true) ho n 0 (by omega)
    have hsub : (0 :: belongP n (ownerP par flat) (fun _ => true) n 0) ⊆ List.range n := by
      intro x hx
      rcases List.mem_cons.1 hx with rfl | hx
      · simpa using h0
      · have := belong_gt n (ownerP par flat) (fun _ => true) ho _ _ _ hx
        simpa using this.2
    have hnd2 : (0 :: belongP n (ownerP par flat) (fun _ => true) n 0).Nodup := by
      rw [List.nodup_cons]
      exact ⟨fun hx => by have := belong_gt n (ownerP par flat) (fun _ => true) ho _ _ _ hx; omega, hnd⟩
    have := len_nodup hnd2 (fun x hx => by simpa using hsub hx)
    simpa using this
  omega
end
end Go.Proofs.YtpamfhplklhnpaaDoor
