/- Several texts in one: TeM. -/
import Derived.Test.YtcghahfboccceaaGreatDoorTopEscapeM14
import Derived.Test.YtcghahfboccceaaGreatDoorTopEscapeM8
import Derived.Test.YtcghahfboccceaaGreatDoorTopEscapeM9
import Derived.Test.YtcghahfboccceaaGreatDoorTopEscapeM26
/- A tree that is built, in memory: its nodes with their kids and attributes, what is open. -/
namespace Go.Proofs.YtcghahfboccceaaGreatDoor
open Go.RowKit
set_option linter.unusedVariables false
set_option linter.unusedSimpArgs false

def kidsV (x : NodeV) : Value := .slice x.kidsA x.kids.length x.kcap
def attrsV (x : NodeV) : Value := .slice x.attrsA x.attrs.length x.acap
def nodeL (x : NodeV) : List Value := [.int .i64 x.kind, .string x.name, attrsV x, .string x.text, .int .i64 x.parent, kidsV x]
theorem nodeC_toList (x : NodeV) : (nodeC x).toList = nodeL x := rfl
theorem nodeL_len (x : NodeV) : (nodeL x).length = 6 := rfl
theorem nodeL_one (x : NodeV) : ∀ u ∈ nodeL x, u.oneCell' = true := fun u hu => by
  simp [nodeL, kidsV, attrsV] at hu
  rcases hu with rfl | rfl | rfl | rfl | rfl | rfl <;> rfl
theorem nodesL_len (ns : List NodeV) : (ns.flatMap nodeL).length = ns.length * 6 := by
  induction ns with
  | nil => rfl
  | cons r rs ih => rw [List.flatMap_cons, List.length_append, ih, nodeL_len, List.length_cons]; omega
theorem nodesL_at : ∀ (ns : List NodeV) (i j : Nat) (u : Value) (hi : i < ns.length), (nodeL ns[i])[j]? = some u → (ns.flatMap nodeL)[i * 6 + j]? = some u
  | [], _, _, _, hi, _ => by simp at hi
  | r :: rs, 0, j, u, _, h => by
    have hj : j < 6 := by
      rcases Nat.lt_or_ge j 6 with h1 | h1
      · exact h1
      · rw [List.getElem?_eq_none (by rw [nodeL_len]; exact h1)] at h; cases h
    rw [List.flatMap_cons, List.getElem?_append_left (by rw [nodeL_len]; omega), Nat.zero_mul, Nat.zero_add]
    exact h
  | r :: rs, i + 1, j, u, hi, h => by
    rw [List.flatMap_cons, List.getElem?_append_right (by rw [nodeL_len]; omega), nodeL_len, show (i + 1) * 6 + j - 6 = i * 6 + j from by omega]
    exact nodesL_at rs i j u (by simpa using hi) h
theorem nodesL_set : ∀ (ns : List NodeV) (i j : Nat) (r' : NodeV) (u : Value) (hi : i < ns.length) (hj : j < 6), nodeL r' = (nodeL ns[i]).set j u → (ns.flatMap nodeL).set (i * 6 + j) u = (ns.set i r').flatMap nodeL
  | [], _, _, _, _, hi, _, _ => by simp at hi
  | r :: rs, 0, j, r', u, _, hj, h => by
    rw [List.flatMap_cons, List.set_cons_zero, List.flatMap_cons, Nat.zero_mul, Nat.zero_add, List.set_append_left _ _ (by rw [nodeL_len]; omega), h]
    rfl
  | r :: rs, i + 1, j, r', u, hi, hj, h => by
    rw [List.flatMap_cons, List.set_cons_succ, List.flatMap_cons, List.set_append_right _ _ (by rw [nodeL_len]; omega), nodeL_len, show (i + 1) * 6 + j - 6 = i * 6 + j from by omega, nodesL_set rs i j r' u (by simpa using hi) hj h]
/-- The blocks of a tree. -/
def OwnT (v vo : Value) (ns : List NodeV) (b : Nat) : Prop := v.ownBlock = some b ∨ vo.ownBlock = some b ∨ ∃ x ∈ ns, (kidsV x).ownBlock = some b ∨ (attrsV x).ownBlock = some b
structure TreeM (w : World) (base : Nat) (v vo : Value) (ns : List NodeV) (op : List Int) : Prop where
  own : w.ownsRow base 35 6 v ns.length (ns.flatMap nodeL)
  kids : ∀ x ∈ ns, w.ownsRow base 3 1 (kidsV x) x.kids.length (ints x.kids)
  attrs : ∀ x ∈ ns, w.ownsRow base 91 2 (attrsV x) x.attrs.length (x.attrs.flatMap attrF)
  apart : ns.Pairwise fun x y => Ap (kidsV x) (kidsV y)
  open' : w.ownsRow base 3 1 vo op.length (ints op)
  oapart : ∀ x ∈ ns, Ap (kidsV x) vo
section
variable {w w' : World} {base : Nat} {v vo : Value} {ns : List NodeV} {op : List Int}
theorem TreeM.lt (h : TreeM w base v vo ns op) {b : Nat} (hb : OwnT v vo ns b) : base ≤ b ∧ b < w.heap.size := by
  rcases hb with hb | hb | ⟨r, hr, hb | hb⟩
  · exact h.own.lt b hb
  · exact h.open'.lt b hb
  · exact (h.kids r hr).lt b hb
  · exact (h.attrs r hr).lt b hb
theorem TreeM.keep (h : TreeM w base v vo ns op) (hk : ∀ b, OwnT v vo ns b → w'.heap[b]? = w.heap[b]?) : TreeM w' base v vo ns op :=
  ⟨own_heap h.own fun g hg => hk g (.inl hg), fun r hr => own_heap (h.kids r hr) fun g hg => hk g (.inr (.inr ⟨r, hr, .inl hg⟩)), fun r hr => own_heap (h.attrs r hr) fun g hg => hk g (.inr (.inr ⟨r, hr, .inr hg⟩)), h.apart, own_heap h.open' fun g hg => hk g (.inr (.inl hg)), h.oapart⟩
theorem TreeM.below (h : TreeM w base v vo ns op) (hb : Below w.heap.size w w') : TreeM w' base v vo ns op := h.keep fun b hq => hb.block b (h.lt hq).2
/-- What is of another type's block is no block of the tree. -/
theorem TreeM.ne_blk (h : TreeM w base v vo ns op) {g : Nat} {t : TypeId} {cs : Array Value} (hg : Blk w g t cs) (h1 : t ≠ 35) (h2 : t ≠ 3) (h3 : t ≠ 91) {b : Nat} (hb : OwnT v vo ns b) : b ≠ g := by
  rintro rfl
  rcases hb with hb | hb | ⟨r, hr, hb | hb⟩
  · exact blk_ne hg h.own h1 hb
  · exact blk_ne hg h.open' h2 hb
  · exact blk_ne hg (h.kids r hr) h2 hb
  · exact blk_ne hg (h.attrs r hr) h3 hb
theorem far_ne {w : World} {base base' size size' n n' : Nat} {e e' : TypeId} {v v' : Value} {xs xs' : List Value} (h : w.ownsRow base e size v n xs) (h' : w.ownsRow base' e' size' v' n' xs') (hne : e ≠ e') : Ap v v' := fun g h1 h2 => by
  rcases own_far h h' hne with h3 | h3
  · rw [h3] at h1; cases h1
  · exact h3 (h1.trans h2.symm)
theorem TreeM.nk (h : TreeM w base v vo ns op) {x : NodeV} (hx : x ∈ ns) : Ap v (kidsV x) := far_ne h.own (h.kids x hx) (by decide)
theorem TreeM.na (h : TreeM w base v vo ns op) {x : NodeV} (hx : x ∈ ns) : Ap v (attrsV x) := far_ne h.own (h.attrs x hx) (by decide)
theorem TreeM.no (h : TreeM w base v vo ns op) : Ap v vo := far_ne h.own h.open' (by decide)
theorem TreeM.ka (h : TreeM w base v vo ns op) {x y : NodeV} (hx : x ∈ ns) (hy : y ∈ ns) : Ap (kidsV x) (attrsV y) := far_ne (h.kids x hx) (h.attrs y hy) (by decide)
theorem TreeM.oa (h : TreeM w base v vo ns op) {x : NodeV} (hx : x ∈ ns) : Ap vo (attrsV x) := far_ne h.open' (h.attrs x hx) (by decide)
theorem ap_none {a b : Value} (h : a.ownBlock = none) : Ap a b := fun g h1 => by rw [h] at h1; cases h1
/-- A node appended. -/
theorem TreeM.app (h : TreeM w base v vo ns op) {v9 : Value} {n : Nat} {x : NodeV} (hn : ns.length = n) (hx : x.kidsA = none) (hxk : x.kids = []) (hxc : x.kcap = 0)
    (hxa : w.ownsRow base 91 2 (attrsV x) x.attrs.length (x.attrs.flatMap attrF))
    (ho : w'.ownsRow base 35 6 v9 (n + 1) (ns.flatMap nodeL ++ nodeL x)) (hg : w.grownBy w' v.ownBlock) : TreeM w' base v9 vo (ns ++ [x]) op := by
  have hkn : (kidsV x).ownBlock = none := by simp [kidsV, hx, Value.ownBlock]
  have hat : Ap v (attrsV x) := far_ne h.own hxa (by decide)
  refine ⟨?_, fun r hr => ?_, fun r hr => ?_, ?_, own_grownFar h.open' h.no hg, fun r hr => ?_⟩
  · rw [List.flatMap_append, List.length_append, hn]
    simpa using ho
  · rcases List.mem_append.1 hr with hr | hr
    · exact own_grownFar (h.kids r hr) (h.nk hr) hg
    · simp at hr
      subst hr
      unfold kidsV
      rw [hx, hxk, hxc]
      exact World.ownsRow_nil _ _ _ _
  · rcases List.mem_append.1 hr with hr | hr
    · exact own_grownFar (h.attrs r hr) (h.na hr) hg
    · simp at hr
      subst hr
      exact own_grownFar hxa hat hg
  · rw [List.pairwise_append]
    refine ⟨h.apart, List.pairwise_singleton _ _, fun a ha b hb => ?_⟩
    simp at hb
    subst hb
    exact (ap_none hkn).symm
  · rcases List.mem_append.1 hr with hr | hr
    · exact h.oapart r hr
    · simp at hr
      subst hr
      exact ap_none hkn
/-- What is open, appended to. -/
theorem TreeM.openApp (h : TreeM w base v vo ns op) {v9 : Value} {m : Nat} {op' : List Int} (ho : w'.ownsRow base 3 1 v9 op'.length (ints op')) (hg : w.grownBy w' vo.ownBlock) (hat : v9.ownBlock = vo.ownBlock ∨ v9.ownBlock = some w.heap.size) : TreeM w' base v v9 ns op' := by
  refine ⟨own_grownFar h.own h.no.symm hg, fun r hr => own_grownFar (h.kids r hr) (h.oapart r hr).symm hg, fun r hr => own_grownFar (h.attrs r hr) (h.oa hr) hg, h.apart, ho, fun r hr g h1 h2 => ?_⟩
  rcases hat with h3 | h3
  · exact h.oapart r hr g h1 (h3.symm.trans h2)
  · rw [h3] at h2
    injection h2 with h2
    have := ((h.kids r hr).lt g h1).2
    omega
/-- What is open stands elsewhere. -/
theorem TreeM.openTo (h : TreeM w base v vo ns op) {v9 : Value} {op' : List Int} (ho : w.ownsRow base 3 1 v9 op'.length (ints op')) (hat : v9.ownBlock = vo.ownBlock ∨ v9.ownBlock = none) : TreeM w base v v9 ns op' := by
  refine ⟨h.own, h.kids, h.attrs, h.apart, ho, fun r hr g h1 h2 => ?_⟩
  rcases hat with h3 | h3
  · exact h.oapart r hr g h1 (h3.symm.trans h2)
  · rw [h3] at h2; cases h2
theorem TreeM.cell {g n cap : Nat} (h : TreeM w base (.slice (some ⟨g, 0, none⟩) n cap) vo ns op) {i j : Nat} {u : Value} (hi : i < ns.length) (hu : (nodeL ns[i])[j]? = some u) : w.cell? ⟨g, i * 6 + j, none⟩ = some u := by
  have hn : n = ns.length := by
    rcases h.own.2 with ⟨h1, _⟩ | ⟨g', cap', cur, hv, _⟩
    · cases h1
    · injection hv
  subst hn
  exact own_cell h.own (nodesL_at ns i j u hi hu)
/-- A kid's number appended to the i-th node's kids. -/
theorem TreeM.kid {g n cap : Nat} {A9 : Option Addr} {c9 i : Nat} {k : Int} (h : TreeM w base (.slice (some ⟨g, 0, none⟩) n cap) vo ns op) (hn : ns.length = n) {x x' : NodeV} (hi : i < ns.length) (hx : ns[i] = x)
    (hx' : x' = { x with kids := x.kids ++ [k], kidsA := A9, kcap := c9 })
    (ho : w'.ownsRow base 3 1 (.slice A9 (x.kids.length + 1) c9) (x.kids.length + 1) (ints (x.kids ++ [k]))) (hg : w.grownBy w' (kidsV x).ownBlock) (hat : (Value.slice A9 (x.kids.length + 1) c9).ownBlock = (kidsV x).ownBlock ∨ (Value.slice A9 (x.kids.length + 1) c9).ownBlock = some w.heap.size) :
    TreeM (w'.setCell ⟨g, i * 6 + 5, none⟩ (.slice A9 (x.kids.length + 1) c9)) base (.slice (some ⟨g, 0, none⟩) n cap) vo (ns.set i x') op := by
  have hmem : x ∈ ns := hx ▸ List.getElem_mem hi
  have hgo : (Value.slice (some ⟨g, 0, none⟩) n cap).ownBlock = some g := rfl
  have hgl := (h.own.lt g hgo).2
  have hlen : x'.kids.length = x.kids.length + 1 := by rw [hx']; simp
  have hkv : kidsV x' = .slice A9 (x.kids.length + 1) c9 := by unfold kidsV; rw [hlen, hx']
  have hav : attrsV x' = attrsV x := by rw [hx']; rfl
  have hap := List.pairwise_iff_getElem.1 h.apart
  -- what lies apart from x's kids lies apart from the new ones
  have new : ∀ {u : Value} {m s : Nat} {e : TypeId} {ys : List Value}, w.ownsRow base e s u m ys → Ap (kidsV x) u → Ap (kidsV x') u := fun {u m s e ys} hu hxu q h1 h2 => by
    rw [hkv] at h1
    rcases hat with h3 | h3
    · exact hxu q (h3.symm.trans h1) h2
    · rw [h3] at h1
      injection h1 with h1
      have := (hu.lt q h2).2
      omega
  have hgne : (kidsV x').ownBlock ≠ some g := fun e => new h.own (h.nk hmem).symm g e hgo
  have keep : ∀ {u : Value} {m s : Nat} {e : TypeId} {ys : List Value}, w.ownsRow base e s u m ys → Ap (kidsV x) u → u.ownBlock ≠ some g → (w'.setCell ⟨g, i * 6 + 5, none⟩ (.slice A9 (x.kids.length + 1) c9)).ownsRow base e s u m ys := fun {u m s e ys} hu hxu hug => own_setFar (own_grownFar hu hxu hg) hug
  have hkk : ∀ j (hj : j < ns.length), j ≠ i → Ap (kidsV x) (kidsV ns[j]) := fun j hj hji => by
    rcases Nat.lt_or_gt_of_ne hji with h2 | h2
    · have := hap j i hj hi h2; rw [hx] at this; exact this.symm
    · have := hap i j hi hj h2; rw [hx] at this; exact this
  refine ⟨?_, fun r hr => ?_, fun r hr => ?_, ?_, keep h.open' (h.oapart x hmem) (fun e => h.no g hgo e), fun r hr => ?_⟩
  · rw [List.length_set, ← nodesL_set ns i 5 x' (.slice A9 (x.kids.length + 1) c9) hi (by omega) (by rw [hx]; unfold nodeL; rw [hkv, hav, hx']; rfl)]
    have h2 := own_grownFar h.own (h.nk hmem).symm hg
    rw [hn] at h2 ⊢
    exact own_set h2
  · obtain ⟨j, hj, rfl⟩ := List.mem_iff_getElem.1 hr
    rw [List.length_set] at hj
    rw [List.getElem_set]
    by_cases hji : i = j
    · subst hji
      rw [if_pos rfl, hkv, hlen]
      have e : x'.kids = x.kids ++ [k] := by rw [hx']
      rw [e]
      exact own_setFar ho (by rw [← hkv]; exact hgne)
    · rw [if_neg hji]
      have hm := List.getElem_mem hj
      exact keep (h.kids _ hm) (hkk j hj (fun e => hji e.symm)) (fun e => h.nk hm g hgo e)
  · have : ∃ y ∈ ns, attrsV r = attrsV y ∧ r.attrs = y.attrs := by
      rcases List.mem_or_eq_of_mem_set hr with hr | rfl
      · exact ⟨r, hr, rfl, rfl⟩
      · exact ⟨x, hmem, hav, by rw [hx']⟩
    obtain ⟨y, hy, e1, e2⟩ := this
    rw [e1, e2]
    exact keep (h.attrs y hy) (h.ka hmem hy) (fun e => h.na hy g hgo e)
  · refine List.pairwise_iff_getElem.2 fun a b ha hb hab => ?_
    rw [List.length_set] at ha hb
    rw [List.getElem_set, List.getElem_set]
    by_cases h1 : i = a
    · subst h1
      rw [if_pos rfl, if_neg (by omega)]
      exact new (h.kids _ (List.getElem_mem hb)) (hkk b hb (by omega))
    · rw [if_neg h1]
      by_cases h2 : i = b
      · subst h2
        rw [if_pos rfl]
        exact (new (h.kids _ (List.getElem_mem ha)) (hkk a ha (by omega))).symm
      · rw [if_neg h2]
        exact hap a b ha hb hab
  · rcases List.mem_or_eq_of_mem_set hr with hr | rfl
    · exact h.oapart r hr
    · exact new h.open' (h.oapart x hmem)
/-- A node's parent stored. -/
theorem TreeM.par {g n cap : Nat} {i : Nat} {p : Int} (h : TreeM w base (.slice (some ⟨g, 0, none⟩) n cap) vo ns op) (hn : ns.length = n) {x : NodeV} (hi : i < ns.length) (hx : ns[i] = x) :
    TreeM (w.setCell ⟨g, i * 6 + 4, none⟩ (.int .i64 p)) base (.slice (some ⟨g, 0, none⟩) n cap) vo (ns.set i { x with parent := p }) op := by
  have hmem : x ∈ ns := hx ▸ List.getElem_mem hi
  have hgo : (Value.slice (some ⟨g, 0, none⟩) n cap).ownBlock = some g := rfl
  have hy : ∀ r ∈ ns.set i { x with parent := p }, ∃ y ∈ ns, kidsV r = kidsV y ∧ r.kids = y.kids ∧ attrsV r = attrsV y ∧ r.attrs = y.attrs := fun r hr => by
    rcases List.mem_or_eq_of_mem_set hr with hr | rfl
    · exact ⟨r, hr, rfl, rfl, rfl, rfl⟩
    · exact ⟨x, hmem, rfl, rfl, rfl, rfl⟩
  refine ⟨?_, fun r hr => ?_, fun r hr => ?_, ?_, own_setFar h.open' (fun e => h.no g hgo e), fun r hr => ?_⟩
  · rw [List.length_set, ← nodesL_set ns i 4 { x with parent := p } (.int .i64 p) hi (by omega) (by rw [hx]; rfl)]
    have h2 := h.own
    rw [hn] at h2 ⊢
    exact own_set h2
  · obtain ⟨y, hy, e1, e2, _⟩ := hy r hr
    rw [e1, e2]
    exact own_setFar (h.kids y hy) (fun e => h.nk hy g hgo e)
  · obtain ⟨y, hy, _, _, e1, e2⟩ := hy r hr
    rw [e1, e2]
    exact own_setFar (h.attrs y hy) (fun e => h.na hy g hgo e)
  · refine List.pairwise_iff_getElem.2 fun a b ha hb hab => ?_
    rw [List.length_set] at ha hb
    have key : ∀ j (hj : j < (ns.set i { x with parent := p }).length) (hj' : j < ns.length), kidsV ((ns.set i { x with parent := p })[j]) = kidsV ns[j] := fun j hj hj' => by
      rw [List.getElem_set]
      split
      · rename_i e; subst e; rw [hx]; rfl
      · rfl
    rw [key a _ ha, key b _ hb]
    exact List.pairwise_iff_getElem.1 h.apart a b ha hb hab
  · obtain ⟨y, hy, e1, e2, _⟩ := hy r hr
    rw [e1]
    exact h.oapart y hy
/-- The tree's nodes, as a document's. -/
theorem TreeM.nodes {A : Option Addr} {n cap : Nat} (h : TreeM w base (.slice A n cap) vo ns op) (ha : ∀ x ∈ ns, x.attrs.length ≤ 140737488355328 ∧ x.kids.length ≤ 140737488355328) : Nodes w w.heap.size A ns := fun i hi => by
  obtain ⟨g, cap', hv, h1, h2⟩ := own_some h.own (by omega)
  obtain ⟨rfl, rfl, rfl⟩ : A = some ⟨g, 0, none⟩ ∧ n = ns.length ∧ cap = cap' := by injection hv with a b c; exact ⟨a, b, c⟩
  have hnd : nd ns i = ns[i] := by rw [nd, List.getD_eq_getElem?_getD, List.getElem?_eq_getElem hi]; rfl
  have hm := List.getElem_mem hi
  refine ⟨g, 0, rfl, h2, fun j hj => ?_, ?_⟩
  · rw [hnd, Nat.zero_add]
    have : ∃ u, (nodeL ns[i])[j]? = some u := ⟨_, List.getElem?_eq_getElem (by rw [nodeL_len]; exact hj)⟩
    obtain ⟨u, hu⟩ := this
    rw [h.cell hi hu, ← hu, ← nodeC_toList]
    simp
  · rw [hnd]
    refine ⟨?_, ?_, (ha _ hm).1, ?_, (ha _ hm).2⟩
    · have := h.attrs _ hm
      exact Holds.of_own this
    · exact Holds.of_own (h.kids _ hm)
    · have := h.attrs _ hm
      rcases this.2 with ⟨h3, h4⟩ | ⟨g', cap'', cur, hv, _, _, h3, _⟩
      · rw [h4]; exact Nat.zero_le _
      · unfold attrsV at hv
        injection hv with _ _ hc
        rw [hc]; exact h3
end
end Go.Proofs.YtcghahfboccceaaGreatDoor
