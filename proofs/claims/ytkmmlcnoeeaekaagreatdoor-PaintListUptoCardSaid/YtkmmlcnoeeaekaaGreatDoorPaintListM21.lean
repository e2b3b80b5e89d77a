/- Several texts in one: StkPlain, HitPlain. -/
import Derived.WalkKit
/- Plain law of P341, P342: what belongs to a frag; what is painted ahead of what. -/
namespace Go.Proofs.YtkmmlcnoeeaekaaGreatDoor
set_option linter.unusedVariables false
set_option linter.unusedSectionVars false

section
variable (n : Nat) (par : Nat → Nat) (flat : Nat → Bool) (z phase : Nat → Int)
/-- The kids of a frag. -/
def kidsP (f : Nat) : List Nat := (List.range n).filter (fun k => decide (0 < k) && par k == f)
/-- What belongs to a frag, as the program gathers it. -/
def belongP : Nat → Nat → List Nat
  | 0, _ => []
  | u + 1, f => (kidsP n par f).flatMap (fun k => k :: if flat k then belongP u k else [])
/-- The nearest frag that owns. -/
def climb : Nat → Nat → Nat
  | 0, g => g
  | u + 1, g => if 0 < g ∧ flat g = true then climb u (par g) else g
def ownerP (k : Nat) : Nat := climb par flat (par k) (par k)
/-- The document's list: k goes behind all that have no greater rank. -/
def insR (k : Nat) : List Nat → List Nat
  | [] => [k]
  | a :: l => if z a ≤ z k then a :: insR k l else k :: a :: l
def rankedP (f : Nat) (ph : Int) : Nat → List Nat
  | 0 => []
  | m + 1 => if 0 < m ∧ ownerP par flat m = f ∧ phase m = ph then insR z m (rankedP f ph m) else rankedP f ph m
/-- What a layer or pocket owns, in the order of painting. -/
def ownL (f : Nat) : List Nat := (List.range 5).flatMap (fun p => rankedP par flat z phase f (p : Nat) n)
/-- The order of painting. -/
def ltP (a b : Nat) : Prop := phase a < phase b ∨ (phase a = phase b ∧ (z a < z b ∨ (z a = z b ∧ a < b)))

theorem mem_kids {f k : Nat} : k ∈ kidsP n par f ↔ k < n ∧ 0 < k ∧ par k = f := by
  simp [kidsP]
variable (hp : ∀ k, 0 < k → k < n → par k < k)
include hp
theorem kid_gt {f k : Nat} (h : k ∈ kidsP n par f) : f < k := by
  rw [mem_kids] at h
  obtain ⟨h1, h2, h3⟩ := h
  rw [← h3]
  exact hp k h2 h1
theorem mem_belong {u f x : Nat} : x ∈ belongP n par flat (u + 1) f ↔ ∃ k, k ∈ kidsP n par f ∧ (x = k ∨ (flat k = true ∧ x ∈ belongP n par flat u k)) := by
  simp only [belongP, List.mem_flatMap, List.mem_cons]
  constructor
  · rintro ⟨k, hk, h⟩
    refine ⟨k, hk, ?_⟩
    rcases h with h | h
    · exact .inl h
    · split at h
      · exact .inr ⟨‹_›, h⟩
      · cases h
  · rintro ⟨k, hk, h⟩
    refine ⟨k, hk, ?_⟩
    rcases h with h | ⟨h1, h2⟩
    · exact .inl h
    · exact .inr (by rw [if_pos h1]; exact h2)
theorem belong_gt : ∀ (u f x : Nat), x ∈ belongP n par flat u f → f < x ∧ x < n
  | 0, f, x, h => by simp [belongP] at h
  | u + 1, f, x, h => by
    rw [mem_belong n par flat hp] at h
    obtain ⟨k, hk, h⟩ := h
    have h1 := kid_gt n par hp hk
    rw [mem_kids] at hk
    rcases h with rfl | ⟨_, h⟩
    · exact ⟨h1, hk.1⟩
    · have := belong_gt u k x h
      omega
theorem belong_up : ∀ (u f x : Nat), n ≤ f + u → (x ∈ belongP n par flat u f ↔ (0 < x ∧ x < n) ∧ (par x = f ∨ (flat (par x) = true ∧ par x ∈ belongP n par flat u f)))
  | 0, f, x, hn => by
    simp only [belongP, List.not_mem_nil, and_false, or_false, false_iff, not_and]
    intro h1 h2
    have := hp x h1.1 h1.2
    omega
  | u + 1, f, x, hn => by
    constructor
    · intro h
      have hb := belong_gt n par flat hp _ _ _ h
      refine ⟨⟨by omega, hb.2⟩, ?_⟩
      rw [mem_belong n par flat hp] at h
      obtain ⟨k, hk, h⟩ := h
      have h1 := kid_gt n par hp hk
      rcases h with rfl | ⟨h2, h⟩
      · exact .inl ((mem_kids n par).1 hk).2.2
      · rw [belong_up u k x (by omega)] at h
        rcases h.2 with h3 | ⟨h3, h4⟩
        · right
          rw [h3]
          exact ⟨h2, (mem_belong n par flat hp).2 ⟨k, hk, .inl rfl⟩⟩
        · exact .inr ⟨h3, (mem_belong n par flat hp).2 ⟨k, hk, .inr ⟨h2, h4⟩⟩⟩
    · rintro ⟨hx, h⟩
      rcases h with h | ⟨h2, h⟩
      · exact (mem_belong n par flat hp).2 ⟨x, (mem_kids n par).2 ⟨hx.2, hx.1, h⟩, .inl rfl⟩
      · rw [mem_belong n par flat hp] at h ⊢
        obtain ⟨k, hk, h⟩ := h
        have h1 := kid_gt n par hp hk
        refine ⟨k, hk, .inr ?_⟩
        rcases h with h3 | ⟨h3, h4⟩
        · rw [h3] at h2
          exact ⟨h2, (belong_up u k x (by omega)).2 ⟨hx, .inl h3⟩⟩
        · exact ⟨h3, (belong_up u k x (by omega)).2 ⟨hx, .inr ⟨h2, h4⟩⟩⟩
/-- What belongs to a frag that owns: what climbs to it. -/
theorem belong_climb {u f : Nat} (hn : n ≤ f + u) (hf : f = 0 ∨ flat f = false) : ∀ (v x : Nat), par x ≤ v → (x ∈ belongP n par flat u f ↔ (0 < x ∧ x < n) ∧ climb par flat v (par x) = f)
  | 0, x, hv => by
    rw [belong_up n par flat hp u f x hn, climb]
    constructor
    · rintro ⟨h1, h2⟩
      refine ⟨h1, ?_⟩
      rcases h2 with h2 | ⟨_, h2⟩
      · exact h2
      · have := belong_gt n par flat hp _ _ _ h2; omega
    · rintro ⟨h1, h2⟩
      exact ⟨h1, .inl h2⟩
  | v + 1, x, hv => by
    rw [belong_up n par flat hp u f x hn, climb]
    by_cases hx : 0 < x ∧ x < n
    · have hpx := hp x hx.1 hx.2
      by_cases hc : 0 < par x ∧ flat (par x) = true
      · rw [if_pos hc]
        have hpp := hp (par x) hc.1 (by omega)
        have ih := belong_climb hn hf v (par x) (by omega)
        constructor
        · rintro ⟨_, h⟩
          refine ⟨hx, ?_⟩
          rcases h with h | h
          · exfalso
            rcases hf with hf | hf
            · omega
            · rw [h, hf] at hc; exact absurd hc.2 (by simp)
          · exact (ih.1 h.2).2
        · rintro ⟨_, h⟩
          exact ⟨hx, .inr ⟨hc.2, ih.2 ⟨⟨hc.1, by omega⟩, h⟩⟩⟩
      · rw [if_neg hc]
        constructor
        · rintro ⟨_, h⟩
          refine ⟨hx, ?_⟩
          rcases h with h | ⟨h1, h2⟩
          · exact h
          · have := belong_gt n par flat hp _ _ _ h2
            exact absurd ⟨by omega, h1⟩ hc
        · rintro ⟨_, h⟩
          exact ⟨hx, .inl h⟩
    · constructor
      · rintro ⟨h, _⟩; exact absurd h hx
      · rintro ⟨h, _⟩; exact absurd h hx
theorem piece_one (u f k k' : Nat) (hn : n ≤ f + (u + 1)) (hk : k ∈ kidsP n par f) (hk' : k' ∈ kidsP n par f) : ∀ (b x : Nat), x ≤ b → (x = k ∨ x ∈ belongP n par flat u k) → (x = k' ∨ x ∈ belongP n par flat u k') → k = k'
  | b, x, hb, h, h' => by
    have g1 := kid_gt n par hp hk
    have g2 := kid_gt n par hp hk'
    have p1 := ((mem_kids n par).1 hk).2.2
    have p2 := ((mem_kids n par).1 hk').2.2
    rcases h with h | h <;> rcases h' with h' | h'
    · rw [← h, ← h']
    · exfalso
      rw [belong_up n par flat hp u k' x (by omega)] at h'
      rw [h, p1] at h'
      rcases h'.2 with h3 | ⟨_, h3⟩
      · omega
      · have := belong_gt n par flat hp _ _ _ h3; omega
    · exfalso
      rw [belong_up n par flat hp u k x (by omega)] at h
      rw [h', p2] at h
      rcases h.2 with h3 | ⟨_, h3⟩
      · omega
      · have := belong_gt n par flat hp _ _ _ h3; omega
    · have hx := belong_gt n par flat hp _ _ _ h
      rw [belong_up n par flat hp u k x (by omega)] at h
      rw [belong_up n par flat hp u k' x (by omega)] at h'
      have hpx := hp x h.1.1 h.1.2
      match b, hb with
      | 0, hb => exact absurd hb (by omega)
      | b + 1, hb => exact piece_one u f k k' hn hk hk' b (par x) (by omega) (h.2.imp id (·.2)) (h'.2.imp id (·.2))
theorem kids_nodup (f : Nat) : (kidsP n par f).Nodup := List.Nodup.sublist List.filter_sublist List.nodup_range
theorem belong_nodup : ∀ (u f : Nat), n ≤ f + u → (belongP n par flat u f).Nodup
  | 0, f, _ => by simp [belongP]
  | u + 1, f, hn => by
    have hin : ∀ k x, x ∈ (k :: if flat k = true then belongP n par flat u k else []) → (x = k ∨ x ∈ belongP n par flat u k) := by
      intro k x h
      rcases List.mem_cons.1 h with h | h
      · exact .inl h
      · split at h
        · exact .inr h
        · cases h
    rw [belongP, List.Nodup, List.pairwise_flatMap]
    refine ⟨fun k hk => ?_, ?_⟩
    · have h1 := kid_gt n par hp hk
      rw [List.pairwise_cons]
      refine ⟨fun x hx => ?_, ?_⟩
      · split at hx
        · have := belong_gt n par flat hp _ _ _ hx; omega
        · cases hx
      · split
        · exact belong_nodup u k (by omega)
        · exact List.Pairwise.nil
    · refine (kids_nodup n par hp f).imp_of_mem (fun {a b} ha hb hab => ?_)
      intro x hx y hy hxy
      subst hxy
      exact hab (piece_one n par flat hp u f a b (by omega) ha hb x x (Nat.le_refl _) (hin a x hx) (hin b x hy))
omit hp
theorem mem_insR {k x : Nat} : ∀ {l : List Nat}, x ∈ insR z k l ↔ x = k ∨ x ∈ l
  | [] => by simp [insR]
  | a :: l => by
    rw [insR]
    split
    · rw [List.mem_cons, mem_insR, List.mem_cons]
      constructor
      · rintro (h | h | h)
        · exact .inr (.inl h)
        · exact .inl h
        · exact .inr (.inr h)
      · rintro (h | h | h)
        · exact .inr (.inl h)
        · exact .inl h
        · exact .inr (.inr h)
    · rw [List.mem_cons]
theorem insR_sorted {k : Nat} : ∀ {l : List Nat}, (∀ x ∈ l, x < k) → l.Pairwise (fun a b => z a < z b ∨ (z a = z b ∧ a < b)) → (insR z k l).Pairwise (fun a b => z a < z b ∨ (z a = z b ∧ a < b))
  | [], _, _ => by simp [insR]
  | a :: l, hl, h => by
    rw [List.pairwise_cons] at h
    rw [insR]
    split
    · rename_i hz
      rw [List.pairwise_cons]
      refine ⟨fun b hb => ?_, insR_sorted (fun x hx => hl x (by simp [hx])) h.2⟩
      rw [mem_insR] at hb
      rcases hb with rfl | hb
      · have := hl a (by simp); omega
      · exact h.1 b hb
    · rename_i hz
      rw [List.pairwise_cons, List.pairwise_cons]
      refine ⟨fun b hb => ?_, h⟩
      rcases List.mem_cons.1 hb with rfl | hb
      · omega
      · have := h.1 b hb; omega
theorem insR_at {k : Nat} : ∀ (l : List Nat) (i : Nat), i ≤ l.length → (∀ j, j < i → z (l.getD j 0) ≤ z k) → (i < l.length → z k < z (l.getD i 0)) → insR z k l = l.take i ++ k :: l.drop i
  | [], i, hi, _, _ => by
    obtain rfl : i = 0 := by simpa using hi
    rfl
  | a :: l, 0, hi, _, h => by
    have := h (by simp)
    simp at this
    rw [insR, if_neg (by omega)]
    rfl
  | a :: l, i + 1, hi, h, h' => by
    have h0 := h 0 (by omega)
    simp at h0
    rw [insR, if_pos h0, insR_at l i (by simpa using hi) (fun j hj => by have := h (j + 1) (by omega); simpa using this) (fun hj => by have := h' (by simpa using hj); simpa using this)]
    rfl
theorem mem_ranked {f : Nat} {ph : Int} {x : Nat} : ∀ {m : Nat}, x ∈ rankedP par flat z phase f ph m ↔ x < m ∧ 0 < x ∧ ownerP par flat x = f ∧ phase x = ph
  | 0 => by simp [rankedP]
  | m + 1 => by
    rw [rankedP]
    split
    · rename_i h
      rw [mem_insR, mem_ranked]
      constructor
      · rintro (rfl | h1)
        · exact ⟨by omega, h⟩
        · exact ⟨by omega, h1.2⟩
      · rintro ⟨h1, h2⟩
        by_cases e : x = m
        · exact .inl e
        · exact .inr ⟨by omega, h2⟩
    · rename_i h
      rw [mem_ranked]
      constructor
      · rintro ⟨h1, h2⟩; exact ⟨by omega, h2⟩
      · rintro ⟨h1, h2⟩
        refine ⟨?_, h2⟩
        have : x ≠ m := fun e => h (by rw [← e]; exact h2)
        omega
theorem ranked_sorted (f : Nat) (ph : Int) : ∀ m, (rankedP par flat z phase f ph m).Pairwise (fun a b => z a < z b ∨ (z a = z b ∧ a < b))
  | 0 => by simp [rankedP]
  | m + 1 => by
    rw [rankedP]
    split
    · exact insR_sorted z (fun x hx => ((mem_ranked par flat z phase).1 hx).1) (ranked_sorted f ph m)
    · exact ranked_sorted f ph m
theorem mem_ownL {f x : Nat} (hph : ∀ k, 0 ≤ phase k ∧ phase k < 5) : x ∈ ownL n par flat z phase f ↔ (0 < x ∧ x < n) ∧ ownerP par flat x = f := by
  simp only [ownL, List.mem_flatMap, List.mem_range, mem_ranked]
  constructor
  · rintro ⟨p, _, h1, h2, h3, _⟩; exact ⟨⟨h2, h1⟩, h3⟩
  · rintro ⟨⟨h1, h2⟩, h3⟩
    have := hph x
    exact ⟨(phase x).toNat, by omega, h2, h1, h3, by omega⟩
theorem ownL_sorted (f : Nat) : (ownL n par flat z phase f).Pairwise (ltP z phase) := by
  rw [ownL, List.pairwise_flatMap]
  refine ⟨fun p _ => ?_, ?_⟩
  · refine (ranked_sorted par flat z phase f p n).imp_of_mem (fun {a b} ha hb h => ?_)
    have h1 := ((mem_ranked par flat z phase).1 ha).2.2.2
    have h2 := ((mem_ranked par flat z phase).1 hb).2.2.2
    exact .inr ⟨by rw [h1, h2], h⟩
  · refine (List.pairwise_lt_range).imp (fun {a b} hab x hx y hy => ?_)
    have h1 := ((mem_ranked par flat z phase).1 hx).2.2.2
    have h2 := ((mem_ranked par flat z phase).1 hy).2.2.2
    exact .inl (by rw [h1, h2]; omega)
theorem ltP_irr (a : Nat) : ¬ ltP z phase a a := by unfold ltP; omega
theorem ltP_trans {a b c : Nat} (h : ltP z phase a b) (h' : ltP z phase b c) : ltP z phase a c := by unfold ltP at *; omega
theorem ltP_tri {a b : Nat} (h : a ≠ b) : ltP z phase a b ∨ ltP z phase b a := by unfold ltP; omega
/-- Two lists in one strict order that hold the same are the same. -/
theorem sorted_same : ∀ {l l' : List Nat}, l.Pairwise (ltP z phase) → l'.Pairwise (ltP z phase) → (∀ x, x ∈ l ↔ x ∈ l') → l = l'
  | [], [], _, _, _ => rfl
  | [], b :: l', _, _, h => by have := (h b).2 (by simp); cases this
  | a :: l, [], _, _, h => by have := (h a).1 (by simp); cases this
  | a :: l, b :: l', hl, hl', h => by
    rw [List.pairwise_cons] at hl hl'
    have e : a = b := by
      have h1 := (h a).1 (by simp)
      have h2 := (h b).2 (by simp)
      rcases List.mem_cons.1 h1 with h1 | h1
      · exact h1
      · rcases List.mem_cons.1 h2 with h2 | h2
        · exact h2.symm
        · exact absurd (ltP_trans z phase (hl.1 b h2) (hl'.1 a h1)) (ltP_irr z phase a)
    subst e
    congr 1
    refine sorted_same hl.2 hl'.2 (fun x => ?_)
    have hx := h x
    constructor
    · intro h1
      rcases List.mem_cons.1 (hx.1 (by simp [h1])) with e | h2
      · subst e; exact absurd (hl.1 x h1) (ltP_irr z phase x)
      · exact h2
    · intro h1
      rcases List.mem_cons.1 (hx.2 (by simp [h1])) with e | h2
      · subst e; exact absurd (hl'.1 x h1) (ltP_irr z phase x)
      · exact h2
include hp
/-- Whatever order of what belongs to an owner is sorted: it is the document's. -/
theorem sorted_own {u f : Nat} (hn : n ≤ f + u) (hf : f = 0 ∨ flat f = false) (hph : ∀ k, 0 ≤ phase k ∧ phase k < 5) {l : List Nat} (hperm : l.Perm (belongP n par flat u f)) (hs : l.Pairwise (fun a b => ¬ ltP z phase b a)) : l = ownL n par flat z phase f := by
  have hnd : l.Nodup := hperm.symm.nodup (belong_nodup n par flat hp u f hn)
  refine sorted_same z phase ?_ (ownL_sorted n par flat z phase f) (fun x => ?_)
  · refine (List.Pairwise.and hs hnd).imp (fun {a b} h => ?_)
    rcases ltP_tri z phase h.2 with h1 | h1
    · exact h1
    · exact absurd h1 h.1
  · rw [hperm.mem_iff, mem_ownL n par flat z phase hph, belong_climb n par flat hp hn hf (par x) x (Nat.le_refl _)]
    rfl
end

/-- The steps: frag and end. -/
def tells (g : Nat → Nat → List (Nat × Nat)) : List Nat → Nat → List (Nat × Nat)
  | [], _ => []
  | k :: ks, at_ => g k at_ ++ tells g ks (at_ + (g k at_).length)
def tellN (own : Nat → List Nat) : Nat → Nat → Nat → List (Nat × Nat)
  | 0, _, _ => []
  | u + 1, f, at_ => (f, at_ + 1 + (tells (tellN own u) (own f) (at_ + 1)).length) :: tells (tellN own u) (own f) (at_ + 1)
theorem tells_append (g : Nat → Nat → List (Nat × Nat)) : ∀ (l l' : List Nat) (at_ : Nat), tells g (l ++ l') at_ = tells g l at_ ++ tells g l' (at_ + (tells g l at_).length)
  | [], l', at_ => by simp [tells]
  | k :: ks, l', at_ => by
    simp only [List.cons_append, tells, tells_append g ks l', List.append_assoc, List.length_append]
    rw [Nat.add_assoc]
end Go.Proofs.YtkmmlcnoeeaekaaGreatDoor
/- Plain law of P348: steps whose ends nest; the clips that reach beyond a step; who is hit. -/
namespace Go.Proofs.YtkmmlcnoeeaekaaGreatDoor
set_option linter.unusedVariables false

/-- A step's end. -/
def endAt (l : List (Nat × Nat)) (i : Nat) : Nat := (l.getD i (0, 0)).2
/-- Ends that nest. -/
def Lam (l : List (Nat × Nat)) (b : Nat) : Prop := (∀ i, i < l.length → b + i < endAt l i ∧ endAt l i ≤ b + l.length) ∧ ∀ i j, i < j → j < l.length → endAt l i ≤ b + j ∨ endAt l j ≤ endAt l i
theorem endAt_left {l l' : List (Nat × Nat)} {i : Nat} (h : i < l.length) : endAt (l ++ l') i = endAt l i := by
  unfold endAt
  rw [List.getD_eq_getElem?_getD, List.getD_eq_getElem?_getD, List.getElem?_append_left h]
theorem endAt_right {l l' : List (Nat × Nat)} {i : Nat} (h : l.length ≤ i) : endAt (l ++ l') i = endAt l' (i - l.length) := by
  unfold endAt
  rw [List.getD_eq_getElem?_getD, List.getD_eq_getElem?_getD, List.getElem?_append_right h]
theorem lam_append {l l' : List (Nat × Nat)} {b : Nat} (h : Lam l b) (h' : Lam l' (b + l.length)) : Lam (l ++ l') b := by
  refine ⟨fun i hi => ?_, fun i j hij hj => ?_⟩
  · rw [List.length_append] at hi ⊢
    rcases Nat.lt_or_ge i l.length with h1 | h1
    · rw [endAt_left h1]
      have := h.1 i h1
      omega
    · rw [endAt_right h1]
      have := h'.1 (i - l.length) (by omega)
      omega
  · rw [List.length_append] at hj
    rcases Nat.lt_or_ge i l.length with h1 | h1
    · rw [endAt_left h1]
      rcases Nat.lt_or_ge j l.length with h2 | h2
      · rw [endAt_left h2]
        exact h.2 i j hij h2
      · have := h.1 i h1
        left; omega
    · have h2 : l.length ≤ j := by omega
      rw [endAt_right h1, endAt_right h2]
      have := h'.2 (i - l.length) (j - l.length) (by omega) (by omega)
      omega
theorem lam_nil (b : Nat) : Lam [] b := ⟨fun i hi => absurd hi (by simp), fun i j _ hj => absurd hj (by simp)⟩
theorem lam_cons {l : List (Nat × Nat)} {b f : Nat} (h : Lam l (b + 1)) : Lam ((f, b + 1 + l.length) :: l) b := by
  have e0 : endAt ((f, b + 1 + l.length) :: l) 0 = b + 1 + l.length := rfl
  have es : ∀ i, endAt ((f, b + 1 + l.length) :: l) (i + 1) = endAt l i := fun i => by simp [endAt]
  refine ⟨fun i hi => ?_, fun i j hij hj => ?_⟩
  · simp only [List.length_cons] at hi ⊢
    match i with
    | 0 => rw [e0]; omega
    | i + 1 =>
      rw [es]
      have := h.1 i (by omega)
      omega
  · simp only [List.length_cons] at hj
    match i, j with
    | _, 0 => omega
    | 0, j + 1 =>
      rw [e0, es]
      have := h.1 j (by omega)
      omega
    | i + 1, j + 1 =>
      rw [es, es]
      have := h.2 i j (by omega) (by omega)
      omega
theorem lam_tells {g : Nat → Nat → List (Nat × Nat)} (hg : ∀ k b, Lam (g k b) b) : ∀ (ks : List Nat) (b : Nat), Lam (tells g ks b) b
  | [], b => lam_nil b
  | k :: ks, b => by rw [tells]; exact lam_append (hg k b) (lam_tells hg ks _)
theorem lam_tellN (own : Nat → List Nat) : ∀ (u f b : Nat), Lam (tellN own u f b) b
  | 0, f, b => lam_nil b
  | u + 1, f, b => by rw [tellN]; exact lam_cons (lam_tells (fun k b => lam_tellN own u k b) _ _)

section
variable (cl : Nat → Bool) (en : Nat → Nat)
/-- The clips among the first i steps that reach beyond j. -/
def alive (i j : Nat) : List Nat := (List.range i).filter (fun k => cl k && decide (j < en k))
theorem alive_push {i : Nat} (h : i < en i) : alive cl en (i + 1) i = alive cl en i i ++ (if cl i = true then [i] else []) := by
  unfold alive
  rw [List.range_succ, List.filter_append]
  congr 1
  by_cases hc : cl i = true
  · rw [if_pos hc]; simp [hc, h]
  · rw [if_neg hc]; simp [hc]
theorem alive_lt {i j k : Nat} (h : k ∈ alive cl en i j) : k < i ∧ cl k = true ∧ j < en k := by
  unfold alive at h
  rw [List.mem_filter, List.mem_range] at h
  simpa using h
theorem alive_sorted (i j : Nat) : (alive cl en i j).Pairwise (· < ·) := (List.pairwise_lt_range).sublist List.filter_sublist
/-- Behind the popping only those stay that reach beyond i. -/
theorem pop_done {i : Nat} {S D : List Nat} (hlam : ∀ a b, a < b → b < i → en a ≤ b ∨ en b ≤ en a) (h : S ++ D = alive cl en i (i - 1)) (hD : ∀ d ∈ D, en d ≤ i) (hS : S = [] ∨ ∃ T t, S = T ++ [t] ∧ i < en t) : S = alive cl en i i := by
  have e : alive cl en i i = (alive cl en i (i - 1)).filter (fun k => decide (i < en k)) := by
    unfold alive
    rw [List.filter_filter]
    congr 1
    funext k
    by_cases hk : i < en k
    · have : i - 1 < en k := by omega
      simp [hk, this]
    · simp [hk]
  rw [e, ← h, List.filter_append]
  have e1 : D.filter (fun k => decide (i < en k)) = [] := by
    rw [List.filter_eq_nil_iff]
    intro d hd
    have := hD d hd
    simp; omega
  rw [e1, List.append_nil]
  symm
  rw [List.filter_eq_self]
  intro s hs
  rcases hS with rfl | ⟨T, t, rfl, ht⟩
  · cases hs
  · rw [List.mem_append] at hs
    rcases hs with hs | hs
    · have hso := alive_sorted cl en i (i - 1)
      rw [← h, List.append_assoc, List.pairwise_append] at hso
      have hlt : s < t := hso.2.2 s hs t (by simp)
      have ht' : t ∈ alive cl en i (i - 1) := by rw [← h]; simp
      have hs' : s ∈ alive cl en i (i - 1) := by rw [← h]; simp [hs]
      have h1 := alive_lt cl en ht'
      have h2 := alive_lt cl en hs'
      have := hlam s t hlt h1.1
      simp; omega
    · rw [List.mem_singleton] at hs
      subst hs
      simpa using ht
end
section
variable (cl is inn : Nat → Bool) (en : Nat → Nat)
/-- Is it hit? -/
def hitQ (i : Nat) : Bool := is i && (alive cl en i i).all inn
/-- As the reference asks: of each step before. -/
def askN (i : Nat) : Nat → Bool
  | 0 => is i
  | k + 1 => if decide (i < en k) && cl k then askN i k && inn k else askN i k
theorem ask_hit (i : Nat) : ∀ m, askN cl is inn en i m = (is i && ((List.range m).filter (fun k => cl k && decide (i < en k))).all inn)
  | 0 => by simp [askN]
  | m + 1 => by
    rw [askN, ask_hit i m, List.range_succ, List.filter_append, List.all_append]
    by_cases h1 : i < en m <;> by_cases h2 : cl m = true <;> simp [h1, h2]
    rw [Bool.and_assoc]
theorem ask_eq (i : Nat) : askN cl is inn en i i = hitQ cl is inn en i := ask_hit cl is inn en i i
variable (who : Nat → Int)
/-- Who is hit by the first steps, the last one first. -/
def hitsN (q : Nat → Bool) : Nat → List Int
  | 0 => []
  | i + 1 => if q i then who i :: hitsN q i else hitsN q i
end
end Go.Proofs.YtkmmlcnoeeaekaaGreatDoor
