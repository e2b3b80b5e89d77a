/- Several texts in one: BxOut. -/
import Derived.Test.YtkmmlcnoeeaekaaGreatDoorBoxesMakeM4
import Derived.Test.YtkmmlcnoeeaekaaGreatDoorBoxesMakeM20
import Derived.Test.YtkmmlcnoeeaekaaGreatDoorBoxesMakeM2
/- A list of boxes in memory, while it is made: a box appended, a kid's number appended to one's kids. -/
namespace Go.Proofs.YtkmmlcnoeeaekaaGreatDoor
open Go.RowKit
set_option linter.unusedVariables false
set_option linter.unusedSimpArgs false

/-- A box with where its kids' numbers lie. -/
abbrev RowB := PBox × Option Addr × Nat
def kidV (r : RowB) : Value := .slice r.2.1 r.1.kids.length r.2.2
def boxC (r : RowB) : List Value := [.int .i64 r.1.kind, .int .i64 r.1.node, .int .i64 r.1.parent, kidV r, .string r.1.text]
theorem boxC_len (r : RowB) : (boxC r).length = 5 := rfl
theorem boxC_one (r : RowB) : ∀ u ∈ boxC r, u.oneCell' = true := fun u hu => by
  simp [boxC, kidV] at hu
  rcases hu with rfl | rfl | rfl | rfl | rfl <;> rfl
theorem boxCs_at : ∀ (rs : List RowB) (i j : Nat) (u : Value) (hi : i < rs.length), (boxC rs[i])[j]? = some u → (rs.flatMap boxC)[i * 5 + j]? = some u
  | [], _, _, _, hi, _ => by simp at hi
  | r :: rs, 0, j, u, _, h => by
    have hj : j < 5 := by
      rcases Nat.lt_or_ge j 5 with h1 | h1
      · exact h1
      · rw [List.getElem?_eq_none (by rw [boxC_len]; exact h1)] at h; cases h
    rw [List.flatMap_cons, List.getElem?_append_left (by rw [boxC_len]; omega), Nat.zero_mul, Nat.zero_add]
    exact h
  | r :: rs, i + 1, j, u, hi, h => by
    rw [List.flatMap_cons, List.getElem?_append_right (by rw [boxC_len]; omega), boxC_len, show (i + 1) * 5 + j - 5 = i * 5 + j from by omega]
    exact boxCs_at rs i j u (by simpa using hi) h
theorem boxCs_set : ∀ (rs : List RowB) (i : Nat) (r' : RowB) (u : Value) (hi : i < rs.length), boxC r' = (boxC rs[i]).set 3 u → (rs.flatMap boxC).set (i * 5 + 3) u = (rs.set i r').flatMap boxC
  | [], _, _, _, hi, _ => by simp at hi
  | r :: rs, 0, r', u, _, h => by
    rw [List.flatMap_cons, List.set_cons_zero, List.flatMap_cons, Nat.zero_mul, Nat.zero_add, List.set_append_left _ _ (by rw [boxC_len]; omega), h]
    rfl
  | r :: rs, i + 1, r', u, hi, h => by
    rw [List.flatMap_cons, List.set_cons_succ, List.flatMap_cons, List.set_append_right _ _ (by rw [boxC_len]; omega), boxC_len, show (i + 1) * 5 + 3 - 5 = i * 5 + 3 from by omega, boxCs_set rs i r' u (by simpa using hi) h]
/-- The blocks of a list. -/
def OwnL (v : Value) (rs : List RowB) (b : Nat) : Prop := v.ownBlock = some b ∨ ∃ r ∈ rs, (kidV r).ownBlock = some b
structure BoxL (w : World) (base : Nat) (v : Value) (rs : List RowB) : Prop where
  own : w.ownsRow base 72 5 v rs.length (rs.flatMap boxC)
  kids : ∀ r ∈ rs, w.ownsRow base 3 1 (kidV r) r.1.kids.length (nums r.1.kids)
  apart : rs.Pairwise fun r r' => (kidV r).ownBlock = none ∨ (kidV r).ownBlock ≠ (kidV r').ownBlock
theorem boxL_nil (w : World) (base : Nat) : BoxL w base (.slice none 0 0) [] := ⟨World.ownsRow_nil _ _ _ _, fun r hr => (by cases hr), List.Pairwise.nil⟩
theorem BoxL.ownN {w : World} {base n : Nat} {v : Value} {rs : List RowB} (h : BoxL w base v rs) (hn : rs.length = n) : w.ownsRow base 72 5 v n (rs.flatMap boxC) := by
  have h1 := h.own
  rwa [hn] at h1
theorem BoxL.lt {w : World} {base : Nat} {v : Value} {rs : List RowB} (h : BoxL w base v rs) {b : Nat} (hb : OwnL v rs b) : base ≤ b ∧ b < w.heap.size := by
  rcases hb with hb | ⟨r, hr, hb⟩
  · exact h.own.lt b hb
  · exact (h.kids r hr).lt b hb
theorem BoxL.keep {w w' : World} {base : Nat} {v : Value} {rs : List RowB} (h : BoxL w base v rs) (hk : ∀ b, OwnL v rs b → w'.heap[b]? = w.heap[b]?) : BoxL w' base v rs :=
  ⟨own_heap h.own fun g hg => hk g (.inl hg), fun r hr => own_heap (h.kids r hr) fun g hg => hk g (.inr ⟨r, hr, hg⟩), h.apart⟩
theorem BoxL.below {w w' : World} {base : Nat} {v : Value} {rs : List RowB} (h : BoxL w base v rs) (hb : Below w.heap.size w w') : BoxL w' base v rs := h.keep fun b hq => hb.block b (h.lt hq).2
theorem BoxL.ne {w : World} {base : Nat} {v : Value} {rs : List RowB} (h : BoxL w base v rs) {r : RowB} (hr : r ∈ rs) {b : Nat} (hb : (kidV r).ownBlock = some b) : v.ownBlock ≠ some b := fun hv => by
  rcases own_far (h.kids r hr) h.own (by decide) with h1 | h1
  · rw [h1] at hb; cases hb
  · exact h1 (hb.trans hv.symm)
/-- A box appended. -/
theorem BoxL.app {w w' : World} {base : Nat} {v : Value} {rs : List RowB} {A9 : Option Addr} {c9 n : Nat} {k nd p : Int} {tx : ByteArray} (h : BoxL w base v rs) (hn : rs.length = n)
    (ho : w'.ownsRow base 72 5 (.slice A9 (n + 1) c9) (n + 1) (rs.flatMap boxC ++ boxC (⟨k, nd, p, [], tx⟩, none, 0))) (hg : w.grownBy w' v.ownBlock) : BoxL w' base (.slice A9 (n + 1) c9) (rs ++ [(⟨k, nd, p, [], tx⟩, none, 0)]) := by
  refine ⟨?_, fun r hr => ?_, ?_⟩
  · rw [List.flatMap_append, List.length_append, hn]
    simpa using ho
  · rcases List.mem_append.1 hr with hr | hr
    · exact own_heap (h.kids r hr) fun g hg' => hg.block g ((h.kids r hr).lt g hg').2 (fun e => h.ne hr hg' e.symm)
    · simp at hr
      subst hr
      exact World.ownsRow_nil _ _ _ _
  · rw [List.pairwise_append]
    refine ⟨h.apart, List.pairwise_singleton _ _, fun a ha b hb => ?_⟩
    simp at hb
    subst hb
    cases hq : (kidV a).ownBlock with
    | none => exact .inl rfl
    | some g => exact .inr (by simp [kidV, Value.ownBlock])
theorem own_app {v : Value} {rs : List RowB} {A9 : Option Addr} {c9 n B : Nat} {b0 : PBox} (hat : (Value.slice A9 (n + 1) c9).ownBlock = v.ownBlock ∨ (Value.slice A9 (n + 1) c9).ownBlock = some B) {b : Nat} (hb : OwnL (.slice A9 (n + 1) c9) (rs ++ [(b0, none, 0)]) b) : OwnL v rs b ∨ b = B := by
  rcases hb with hb | ⟨r, hr, hb⟩
  · rcases hat with h | h
    · exact .inl (.inl (h.symm.trans hb))
    · rw [h] at hb; injection hb with hb; exact .inr hb.symm
  · rcases List.mem_append.1 hr with hr | hr
    · exact .inl (.inr ⟨r, hr, hb⟩)
    · simp at hr
      subst hr
      simp [kidV, Value.ownBlock] at hb
/-- A kid's number appended to the i-th box's kids. -/
theorem BoxL.kid {w w' : World} {base : Nat} {g n cap : Nat} {rs : List RowB} {A9 : Option Addr} {c9 i m k : Nat} (h : BoxL w base (.slice (some ⟨g, 0, none⟩) n cap) rs) (hn : rs.length = n) (hi : i < rs.length) (hm : rs[i].1.kids.length = m)
    (ho : w'.ownsRow base 3 1 (.slice A9 (m + 1) c9) (m + 1) (nums rs[i].1.kids ++ [.int .i64 (k : Nat)])) (hg : w.grownBy w' (kidV rs[i]).ownBlock) (hat : (Value.slice A9 (m + 1) c9).ownBlock = (kidV rs[i]).ownBlock ∨ (Value.slice A9 (m + 1) c9).ownBlock = some w.heap.size) :
    BoxL (w'.setCell ⟨g, i * 5 + 3, none⟩ (.slice A9 (m + 1) c9)) base (.slice (some ⟨g, 0, none⟩) n cap) (rs.set i ({ rs[i].1 with kids := rs[i].1.kids ++ [k] }, A9, c9)) := by
  have hgo : (Value.slice (some ⟨g, 0, none⟩) n cap).ownBlock = some g := rfl
  have hmem : rs[i] ∈ rs := List.getElem_mem hi
  have hgl := (h.own.lt g hgo).2
  have hne : ∀ j (hj : j < rs.length), (kidV rs[j]).ownBlock ≠ some g := fun j hj e => h.ne (List.getElem_mem hj) e hgo
  have hnum : nums rs[i].1.kids ++ [.int .i64 (k : Nat)] = nums (rs[i].1.kids ++ [k]) := by simp [nums]
  have hlen : (rs[i].1.kids ++ [k]).length = m + 1 := by rw [List.length_append, hm]; rfl
  have hkv : kidV ({ rs[i].1 with kids := rs[i].1.kids ++ [k] }, A9, c9) = .slice A9 (m + 1) c9 := by unfold kidV; rw [hlen]
  have hap := List.pairwise_iff_getElem.1 h.apart
  have hsep : ∀ j (hj : j < rs.length), j ≠ i → ∀ q, (kidV rs[j]).ownBlock = some q → (kidV rs[i]).ownBlock ≠ some q ∧ (Value.slice A9 (m + 1) c9).ownBlock ≠ some q := fun j hj hji q hq => by
    have h1 : (kidV rs[i]).ownBlock ≠ some q := fun e => by
      rcases Nat.lt_or_gt_of_ne hji with h2 | h2
      · rcases hap j i hj hi h2 with h3 | h3
        · rw [h3] at hq; cases hq
        · exact h3 (hq.trans e.symm)
      · rcases hap i j hi hj h2 with h3 | h3
        · rw [h3] at e; cases e
        · exact h3 (e.trans hq.symm)
    refine ⟨h1, fun e => ?_⟩
    rcases hat with h2 | h2
    · exact h1 (h2.symm.trans e)
    · rw [h2] at e
      injection e with e
      have := ((h.kids _ (List.getElem_mem hj)).lt q hq).2
      omega
  have hown' : w'.ownsRow base 72 5 (.slice (some ⟨g, 0, none⟩) n cap) rs.length (rs.flatMap boxC) := own_heap h.own fun q hq => by
    have hqg : q = g := by rw [hgo] at hq; injection hq with hq; exact hq.symm
    subst hqg
    exact hg.block q hgl (fun e => hne i hi e.symm)
  refine ⟨?_, fun r hr => ?_, ?_⟩
  · rw [List.length_set, ← boxCs_set rs i _ (.slice A9 (m + 1) c9) hi (by unfold boxC; rw [hkv]; rfl)]
    rw [hn] at hown' ⊢
    exact own_set hown'
  · obtain ⟨j, hj, rfl⟩ := List.mem_iff_getElem.1 hr
    rw [List.length_set] at hj
    rw [List.getElem_set]
    by_cases hji : i = j
    · subst hji
      rw [if_pos rfl, hkv]
      show World.ownsRow _ _ _ _ _ (rs[i].1.kids ++ [k]).length (nums (rs[i].1.kids ++ [k]))
      rw [hlen, ← hnum]
      exact own_setFar ho (fun e => by
        rcases hat with h2 | h2
        · exact hne i hi (h2.symm.trans e)
        · rw [h2] at e; injection e with e; omega)
    · rw [if_neg hji]
      exact own_heap (h.kids _ (List.getElem_mem hj)) fun q hq => by
        have h5 := hsep j hj (fun e => hji e.symm) q hq
        have h6 := ((h.kids _ (List.getElem_mem hj)).lt q hq).2
        rw [Below.heap_setCell w' ⟨g, i * 5 + 3, none⟩ _ q (fun e => hne j hj (by rw [hq]; exact congrArg some e))]
        exact hg.block q h6 (fun e => h5.1 e.symm)
  · refine List.pairwise_iff_getElem.2 fun a b ha hb hab => ?_
    rw [List.length_set] at ha hb
    rw [List.getElem_set, List.getElem_set]
    by_cases h1 : i = a
    · subst h1
      rw [if_pos rfl, if_neg (by omega), hkv]
      cases hq : (kidV rs[b]).ownBlock with
      | none =>
        cases hq2 : (Value.slice A9 (m + 1) c9).ownBlock with
        | none => exact .inl rfl
        | some q => exact .inr (by simp)
      | some q => exact .inr (hsep b hb (by omega) q hq).2
    · rw [if_neg h1]
      by_cases h2 : i = b
      · subst h2
        rw [if_pos rfl, hkv]
        cases hq : (kidV rs[a]).ownBlock with
        | none => exact .inl rfl
        | some q => exact .inr fun e => (hsep a ha (by omega) q hq).2 e.symm
      · rw [if_neg h2]
        exact hap a b ha hb hab
/-- .. the i-th box known. -/
theorem BoxL.kid' {w w' : World} {base : Nat} {g n cap : Nat} {rs : List RowB} {A9 : Option Addr} {c9 i m k : Nat} {R : RowB} (h : BoxL w base (.slice (some ⟨g, 0, none⟩) n cap) rs) (hn : rs.length = n) (hi : i < rs.length) (hRi : rs[i]'hi = R) (hm : R.1.kids.length = m)
    (ho : w'.ownsRow base 3 1 (.slice A9 (m + 1) c9) (m + 1) (nums R.1.kids ++ [.int .i64 (k : Nat)])) (hg : w.grownBy w' (Value.slice R.2.1 m R.2.2).ownBlock) (hat : (Value.slice A9 (m + 1) c9).ownBlock = (Value.slice R.2.1 m R.2.2).ownBlock ∨ (Value.slice A9 (m + 1) c9).ownBlock = some w.heap.size) :
    BoxL (w'.setCell ⟨g, i * 5 + 3, none⟩ (.slice A9 (m + 1) c9)) base (.slice (some ⟨g, 0, none⟩) n cap) (rs.set i ({ R.1 with kids := R.1.kids ++ [k] }, A9, c9)) := by
  subst hRi
  subst hm
  exact BoxL.kid h hn hi rfl ho hg hat
theorem own_kid {g n cap : Nat} {rs : List RowB} {A9 : Option Addr} {c9 i m B : Nat} {b0 : PBox} (hi : i < rs.length) (hb0 : b0.kids.length = m) (hat : (Value.slice A9 m c9).ownBlock = (kidV rs[i]).ownBlock ∨ (Value.slice A9 m c9).ownBlock = some B) {b : Nat} (hb : OwnL (.slice (some ⟨g, 0, none⟩) n cap) (rs.set i (b0, A9, c9)) b) : OwnL (.slice (some ⟨g, 0, none⟩) n cap) rs b ∨ b = B := by
  rcases hb with hb | ⟨r, hr, hb⟩
  · exact .inl (.inl hb)
  · rcases List.mem_or_eq_of_mem_set hr with hr | rfl
    · exact .inl (.inr ⟨r, hr, hb⟩)
    · have e : kidV (b0, A9, c9) = .slice A9 m c9 := by unfold kidV; rw [hb0]
      rw [e] at hb
      rcases hat with h | h
      · exact .inl (.inr ⟨rs[i], List.getElem_mem hi, h.symm.trans hb⟩)
      · rw [h] at hb; injection hb with hb; exact .inr hb.symm
theorem kid_fst (rs : List RowB) (i k : Nat) (hi : i < rs.length) (A9 : Option Addr) (c9 : Nat) : (rs.set i ({ rs[i].1 with kids := rs[i].1.kids ++ [k] }, A9, c9)).map (·.1) = addKid (rs.map (·.1)) i k := by
  unfold addKid
  apply List.ext_getElem?
  intro j
  rw [List.getElem?_map, List.getElem?_modify, List.getElem?_map, List.getElem?_set]
  by_cases h : i = j
  · subst h
    simp [hi]
  · simp [h]
/-- The cells of the i-th box. -/
theorem BoxL.cells {w : World} {base : Nat} {g n cap : Nat} {rs : List RowB} (h : BoxL w base (.slice (some ⟨g, 0, none⟩) n cap) rs) {i j : Nat} {u : Value} (hi : i < rs.length) (hu : (boxC rs[i])[j]? = some u) : w.cell? ⟨g, i * 5 + j, none⟩ = some u := by
  have hn : n = rs.length := by
    rcases h.own.2 with ⟨h1, _⟩ | ⟨g', cap', cur, hv, _⟩
    · cases h1
    · injection hv
  subst hn
  exact own_cell h.own (boxCs_at rs i j u hi hu)
/-- No box has more kids than there are boxes. -/
def FewS (rs : List RowB) : Prop := ∀ r ∈ rs, r.1.kids.length < rs.length
def FewW (rs : List RowB) : Prop := ∀ r ∈ rs, r.1.kids.length ≤ rs.length
theorem FewS.weak {rs : List RowB} (h : FewS rs) : FewW rs := fun r hr => Nat.le_of_lt (h r hr)
theorem fewS_nil : FewS [] := fun r hr => (by cases hr)
theorem FewW.app {rs : List RowB} (h : FewW rs) (k n p : Int) (tx : ByteArray) (A : Option Addr) (c : Nat) : FewS (rs ++ [(⟨k, n, p, [], tx⟩, A, c)]) := fun r hr => by
  rw [List.length_append, List.length_singleton]
  rcases List.mem_append.1 hr with hr | hr
  · have := h r hr; omega
  · simp at hr; subst hr; simp
theorem FewS.kid {rs : List RowB} (h : FewS rs) {i : Nat} (hi : i < rs.length) (k : Nat) (A : Option Addr) (c : Nat) : FewW (rs.set i ({ rs[i].1 with kids := rs[i].1.kids ++ [k] }, A, c)) := fun r hr => by
  rw [List.length_set]
  rcases List.mem_or_eq_of_mem_set hr with hr | rfl
  · exact Nat.le_of_lt (h r hr)
  · have := h rs[i] (List.getElem_mem hi)
    show (rs[i].1.kids ++ [k]).length ≤ _
    rw [List.length_append, List.length_singleton]; omega
/-- A box put, and its number told to its parent. -/
theorem FewS.put {rs : List RowB} (h : FewS rs) {i : Nat} (hi : i < rs.length) (r0 : RowB) (hr0 : r0.1.kids = []) (k : Nat) (A : Option Addr) (c : Nat) : FewS ((rs ++ [r0]).set i ({ rs[i].1 with kids := rs[i].1.kids ++ [k] }, A, c)) := fun r hr => by
  rw [List.length_set, List.length_append, List.length_singleton]
  rcases List.mem_or_eq_of_mem_set hr with hr | rfl
  · rcases List.mem_append.1 hr with hr | hr
    · have := h r hr; omega
    · simp at hr; subst hr; rw [hr0]; simp
  · have := h rs[i] (List.getElem_mem hi)
    show (rs[i].1.kids ++ [k]).length < _
    rw [List.length_append, List.length_singleton]; omega
end Go.Proofs.YtkmmlcnoeeaekaaGreatDoor
