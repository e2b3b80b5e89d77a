/- The items of boxes: what they come to, and how many there are at most. -/
import Derived.Test.YtpamfhplklhnpaaDoorItmG
import Derived.Test.YtpamfhplklhnpaaDoorBoxesLaw
import Derived.Test.YtpamfhplklhnpaaDoorFrame
namespace Go.Proofs.YtpamfhplklhnpaaDoor
open Go.RowKit
set_option linter.unusedVariables false
set_option linter.unusedSimpArgs false

/-- The edges of an inline box at one side. -/
def edgeW (zs : List Int) (q room : Int) : Int := cut (len4 zs (11 + q) room + max 0 (len4 zs (19 + q) room) + max 0 (len4 zs (15 + q) room))
def openX (M : MkV) (k : Nat) : ItemV := ⟨2, k, ByteArray.empty, 0, 0, 0, 0, 0, edgeW (rowL M.lz k) 3 M.room, 0, 0⟩
def closeX (M : MkV) (k : Nat) : ItemV := ⟨3, k, ByteArray.empty, 0, 0, 0, 0, 0, edgeW (rowL M.lz k) 1 M.room, 0, 0⟩
def floatX (M : MkV) (k : Nat) : ItemV := ⟨5, k, ByteArray.empty, 0, 0, 0, 0, 0, 0, 0, stN (rowL M.lz k) 2⟩
def absX (k : Nat) : ItemV := ⟨7, k, ByteArray.empty, 0, 0, 0, 0, 0, 0, 0, 0⟩
def atomX (M : MkV) (k : Nat) : ItemV := ⟨4, k, ByteArray.empty, 0, 0, 0, 0, shiftN (rowL M.lz k), 0, 0, 0⟩
def outL (zs : List Int) : Int := outN (stN zs 1) (stN zs 2)
/-- The items of boxes in a row. -/
def walkL (f : Nat → Bool → List ItemV × Bool) : List Int → Bool → List ItemV × Bool
  | [], bl => ([], bl)
  | k :: ks, bl => ((f k.toNat bl).1 ++ (walkL f ks (f k.toNat bl).2).1, (walkL f ks (f k.toNat bl).2).2)
def boxW (M : MkV) : Nat → Nat → Bool → List ItemV × Bool
  | 0, _, bl => ([], bl)
  | u + 1, k, bl =>
    if (bx M.bs k).kind = 4 then (textI M k bl, textB M k bl)
    else if (bx M.bs k).kind = 3 then ([openX M k] ++ (walkL (boxW M u) (bx M.bs k).kids bl).1 ++ [closeX M k], (walkL (boxW M u) (bx M.bs k).kids bl).2)
    else if ¬ (bx M.bs k).kind = 5 ∧ outL (rowL M.lz k) = 1 then ([floatX M k], bl)
    else if ¬ (bx M.bs k).kind = 5 ∧ outL (rowL M.lz k) = 2 then ([absX k], bl)
    else ([atomX M k], false)
/-- How many items a box makes at most. -/
def ownC (bs : List BoxV) (k : Nat) : Nat := 2 * (bx bs k).text.size + 2
def costL (f : Nat → Nat) : List Int → Nat
  | [] => 0
  | k :: ks => f k.toNat + costL f ks
def costB (bs : List BoxV) : Nat → Nat → Nat
  | 0, _ => 0
  | u + 1, k => ownC bs k + costL (costB bs u) (bx bs k).kids
theorem partsL_len (l : List UInt8) : (partsL l).length ≤ l.length + 1 := by
  induction l with
  | nil => simp [partsL]
  | cons c l ih =>
    unfold partsL
    split
    · simp; exact ih
    · split
      · rename_i p ps h; rw [h] at ih; simp at ih ⊢; omega
      · simp
theorem textP_len (M : MkV) (k : Nat) (bl : Bool) : (textP M k bl).length * 2 ≤ ownC M.bs k := by
  have h1 : (textR M k bl).1.data.toList.length ≤ (bx M.bs k).text.size := by
    have := colR_size (bx M.bs k).text (stN (rowL M.lz k) 41) bl
    show (textR M k bl).1.data.size ≤ _
    exact this
  unfold textP partsOf ownC
  split
  · have := partsL_len (textR M k bl).1.data.toList; omega
  · simp
theorem textI_len (M : MkV) (k : Nat) (bl : Bool) : (textI M k bl).length ≤ ownC M.bs k := by
  have h1 := emit_len (itemX M k) (mustX k) (textP M k bl) true
  have h2 := textP_len M k bl
  unfold textI
  omega
theorem walk_len {f : Nat → Bool → List ItemV × Bool} {g : Nat → Nat} (h : ∀ k bl, (f k bl).1.length ≤ g k) : ∀ (ks : List Int) (bl : Bool), (walkL f ks bl).1.length ≤ costL g ks
  | [], _ => by simp [walkL]
  | k :: ks, bl => by
    have h1 := h k.toNat bl
    have h2 := walk_len h ks (f k.toNat bl).2
    simp only [walkL, costL, List.length_append]
    omega
theorem box_len (M : MkV) : ∀ (u k : Nat) (bl : Bool), (boxW M u k bl).1.length ≤ costB M.bs u k
  | 0, _, _ => by simp [boxW]
  | u + 1, k, bl => by
    have h1 := walk_len (box_len M u) (bx M.bs k).kids bl
    have h2 := textI_len M k bl
    have h3 : 2 ≤ ownC M.bs k := by unfold ownC; omega
    unfold boxW costB
    split
    · show (textI M k bl).length ≤ _; omega
    split
    · simp only [List.length_append, List.length_singleton]; omega
    split
    · simp only [List.length_singleton]; omega
    split
    · simp only [List.length_singleton]; omega
    · simp only [List.length_singleton]; omega
/-- The boxes that a walk comes by. -/
def visB (bs : List BoxV) : Nat → Nat → List Nat
  | 0, _ => []
  | u + 1, k => k :: (bx bs k).kids.flatMap (fun j => visB bs u j.toNat)
theorem cost_vis (bs : List BoxV) : ∀ u k, costB bs u k = ((visB bs u k).map (ownC bs)).sum
  | 0, _ => rfl
  | u + 1, k => by
    have h : ∀ ks : List Int, costL (costB bs u) ks = ((ks.flatMap (fun j => visB bs u j.toNat)).map (ownC bs)).sum := by
      intro ks
      induction ks with
      | nil => rfl
      | cons j ks ih => rw [costL, ih, cost_vis bs u j.toNat, List.flatMap_cons, List.map_append, List.sum_append]
    rw [costB, visB, h, List.map_cons, List.sum_cons]
theorem kids_facts (bs : List BoxV) (i : Int) : ∀ (ks : List Int) (last : Int), kidsOk bs i last ks = true → (∀ k ∈ ks, last < k ∧ k < bs.length ∧ (bx bs k.toNat).parent = i) ∧ ks.Pairwise (· < ·)
  | [], _, _ => ⟨fun _ h => by simp at h, List.Pairwise.nil⟩
  | k :: ks, last, h => by
    simp only [kidsOk, Bool.and_eq_true, decide_eq_true_eq] at h
    obtain ⟨⟨⟨h1, h2⟩, h3⟩, h4⟩ := h
    obtain ⟨h5, h6⟩ := kids_facts bs i ks k h4
    refine ⟨fun j hj => ?_, List.pairwise_cons.2 ⟨fun j hj => (h5 j hj).1, h6⟩⟩
    rcases List.mem_cons.1 hj with rfl | hj
    · exact ⟨h1, h2, h3⟩
    · have := h5 j hj; exact ⟨by omega, this.2⟩
def par (bs : List BoxV) (j : Nat) : Nat := if (bx bs j).parent.toNat < j then (bx bs j).parent.toNat else j
def anc (bs : List BoxV) : Nat → Nat → Nat
  | 0, x => x
  | a + 1, x => par bs (anc bs a x)
theorem par_le (bs : List BoxV) (j : Nat) : par bs j ≤ j := by unfold par; split <;> omega
theorem anc_le (bs : List BoxV) (x : Nat) : ∀ a, anc bs a x ≤ x
  | 0 => Nat.le_refl _
  | a + 1 => Nat.le_trans (par_le bs _) (anc_le bs x a)
theorem anc_add (bs : List BoxV) (x a : Nat) : ∀ b, anc bs (a + b) x = anc bs b (anc bs a x)
  | 0 => rfl
  | b + 1 => congrArg (par bs) (anc_add bs x a b)
section
variable {bs : List BoxV} (h : ∀ i, i < bs.length → kidsOk bs i i (bx bs i).kids = true)
include h
theorem kid_of {i : Nat} (hi : i < bs.length) {j : Int} (hj : j ∈ (bx bs i).kids) : (i : Int) < j ∧ j < bs.length ∧ par bs j.toNat = i := by
  obtain ⟨h1, h2, h3⟩ := (kids_facts bs i _ _ (h i hi)).1 j hj
  refine ⟨h1, h2, ?_⟩
  unfold par
  rw [h3, if_pos (by omega)]
  omega
theorem vis_anc : ∀ (u k : Nat), k < bs.length → ∀ x ∈ visB bs u k, (∃ a, anc bs a x = k) ∧ x < bs.length
  | 0, _, _, _, hx => by simp [visB] at hx
  | u + 1, k, hk, x, hx => by
    rcases List.mem_cons.1 hx with rfl | hx
    · exact ⟨⟨0, rfl⟩, hk⟩
    · obtain ⟨j, hj, hx⟩ := List.mem_flatMap.1 hx
      obtain ⟨h1, h2, h3⟩ := kid_of h hk hj
      obtain ⟨⟨a, ha⟩, hl⟩ := vis_anc u j.toNat (by omega) x hx
      exact ⟨⟨a + 1, by rw [anc, ha, h3]⟩, hl⟩
theorem vis_nodup : ∀ (u k : Nat), k < bs.length → (visB bs u k).Nodup
  | 0, _, _ => List.Pairwise.nil
  | u + 1, k, hk => by
    refine List.pairwise_cons.2 ⟨fun x hx e => ?_, List.pairwise_flatMap.2 ⟨fun j hj => ?_, ?_⟩⟩
    · subst e
      obtain ⟨j, hj, hx⟩ := List.mem_flatMap.1 hx
      obtain ⟨h1, h2, h3⟩ := kid_of h hk hj
      obtain ⟨⟨a, ha⟩, _⟩ := vis_anc h u j.toNat (by omega) k hx
      have := anc_le bs k a
      omega
    · obtain ⟨h1, h2, h3⟩ := kid_of h hk hj
      exact vis_nodup u j.toNat (by omega)
    · refine (kids_facts bs k _ _ (h k hk)).2.imp_of_mem (fun {j1 j2} m1 m2 hlt x hx y hy e => ?_)
      subst e
      obtain ⟨p1, p2, p3⟩ := kid_of h hk m1
      obtain ⟨q1, q2, q3⟩ := kid_of h hk m2
      obtain ⟨⟨a, ha⟩, _⟩ := vis_anc h u j1.toNat (by omega) x hx
      obtain ⟨⟨b, hb⟩, _⟩ := vis_anc h u j2.toNat (by omega) x hy
      have key : ∀ (a b j1 j2 : Nat), a ≤ b → anc bs a x = j1 → anc bs b x = j2 → par bs j1 = k → k < j2 → j1 = j2 := by
        intro a b j1 j2 hab ha hb hp hk2
        obtain ⟨c, rfl⟩ := Nat.exists_eq_add_of_le hab
        rw [anc_add, ha] at hb
        cases c with
        | zero => exact hb
        | succ c =>
          rw [Nat.add_comm, anc_add] at hb
          have h1 : anc bs 1 j1 = k := hp
          rw [h1] at hb
          have := anc_le bs k c
          omega
      rcases Nat.le_total a b with hab | hab
      · have := key a b _ _ hab ha hb p3 (by omega); omega
      · have := key b a _ _ hab hb ha q3 (by omega); omega
end
theorem sum_nodup (f : Nat → Nat) : ∀ (n : Nat) (l : List Nat), l.Nodup → (∀ x ∈ l, x < n) → (l.map f).sum ≤ ((List.range n).map f).sum
  | 0, l, _, h => by
    cases l with
    | nil => simp
    | cons x l => exact absurd (h x (by simp)) (by omega)
  | n + 1, l, hd, h => by
    rw [List.range_succ, List.map_append, List.sum_append]
    by_cases hm : n ∈ l
    · have hp := (List.perm_cons_erase hm)
      have h1 := (hp.map f).sum_nat
      rw [h1, List.map_cons, List.sum_cons]
      have h2 := sum_nodup f n (l.erase n) (hd.erase n) (fun x hx => by
        have h3 := h x (List.mem_of_mem_erase hx)
        have h4 : x ≠ n := fun e => by subst e; exact (hd.mem_erase_iff.1 hx).1 rfl
        omega)
      simp only [List.map_cons, List.map_nil, List.sum_cons, List.sum_nil]
      omega
    · have h2 := sum_nodup f n l hd (fun x hx => by
        have h3 := h x hx
        have h4 : x ≠ n := fun e => by subst e; exact hm hx
        omega)
      omega
/-- The whole text of boxes. -/
def textAll (bs : List BoxV) : Nat := (bs.map (fun b => b.text.size + 1)).sum
theorem range_all (bs : List BoxV) : ((List.range bs.length).map (ownC bs)).sum = 2 * textAll bs := by
  have h : ∀ l : List BoxV, (l.map (fun b => 2 * b.text.size + 2)).sum = 2 * (l.map (fun b => b.text.size + 1)).sum := by
    intro l
    induction l with
    | nil => rfl
    | cons b l ih => simp only [List.map_cons, List.sum_cons, ih]; omega
  rw [textAll, ← h]
  congr 1
  apply List.ext_getElem
  · simp
  · intro i h1 h2
    simp only [List.length_map, List.length_range] at h1
    simp [ownC, bx, List.getD, h1]
theorem cost_all (bs : List BoxV) (h : ∀ i, i < bs.length → kidsOk bs i i (bx bs i).kids = true) (u k : Nat) (hk : k < bs.length) : costB bs u k ≤ 2 * textAll bs := by
  rw [cost_vis, ← range_all]
  exact sum_nodup _ _ _ (vis_nodup h u k hk) (fun x hx => (vis_anc h u k hk x hx).2)
theorem text_all (bs : List BoxV) (k : Nat) : (bx bs k).text.size ≤ textAll bs := by
  by_cases hk : k < bs.length
  · have h : ∀ l : List Nat, ∀ x ∈ l, ownC bs x ≤ (l.map (ownC bs)).sum := by
      intro l
      induction l with
      | nil => simp
      | cons y l ih =>
        intro x hx
        rw [List.map_cons, List.sum_cons]
        rcases List.mem_cons.1 hx with rfl | hx
        · omega
        · have := ih x hx; omega
    have h1 := h (List.range bs.length) k (by simpa using hk)
    rw [range_all] at h1
    unfold ownC at h1
    omega
  · have : bx bs k = BoxV.zero := by unfold bx; simp [List.getD, hk]
    rw [this]
    exact Nat.zero_le _
end Go.Proofs.YtpamfhplklhnpaaDoor
