/- A region that draws its order, walked by what holds behind each set of operations done: no order is picked. -/
import Derived.WalkKit
import Derived.OrdersHeld
namespace Go.Proofs.Ytpinfaoeggipmaa
open Go.RowKit
set_option linter.unusedVariables false
section
variable {P : Program} {ops : Array Oper} {Q : Exit → Act → World → Prop} {md : Region.Mode}

theorem count_set : ∀ (l : List Bool) (i : Nat), l[i]? = some false → (l.set i true).count false + 1 = l.count false
  | [], i, h => by simp at h
  | x :: l, 0, h => by
    have : x = false := by simpa using h
    subst this; simp
  | x :: l, i + 1, h => by
    have := count_set l i (by simpa using h)
    simp only [List.set_cons_succ, List.count_cons]
    omega
theorem ready_none {listed : Array Bool} (h : listed.toList.count false = 0) : Region.ready md ops listed = [] := by
  apply List.eq_nil_iff_forall_not_mem.2
  intro j hj
  have h1 := (mem_ready.1 hj).1
  have h2 : listed.toList[j]? = some false := by
    rw [Array.getElem?_toList]
    cases e : listed[j]? with
    | none => simp [e] at h1
    | some b =>
      have : listed.getD j true = b := by simp [e]
      rw [this] at h1; rw [h1]
  have := List.count_pos_iff.2 (List.mem_of_getElem? h2)
  omega
theorem ready_false {listed : Array Bool} {i : Nat} (h : i ∈ Region.ready md ops listed) : listed.toList[i]? = some false := by
  have h1 := (mem_ready.1 h).1
  rw [Array.getElem?_toList]
  cases e : listed[i]? with
  | none => simp [e] at h1
  | some b =>
    have : listed.getD i true = b := by simp [e]
    rw [this] at h1; rw [h1]
theorem any_inv {S : Array Bool → Act → World → Prop}
    (hstep : ∀ (listed : Array Bool) (a : Act) (w : World) (i : Nat), i ∈ Region.ready md ops listed → S listed a w → wpOp P ops Q i (S (listed.setIfInBounds i true)) a w)
    (hend : ∀ (listed : Array Bool) (a : Act) (w : World), Region.ready md ops listed = [] → S listed a w → Q .normal a w) :
    ∀ (n : Nat) (listed : Array Bool) (a : Act) (w : World), listed.toList.count false ≤ n → S listed a w → wpAny P md ops Q n listed a w
  | 0, listed, a, w, hc, hS => ⟨ready_none (by omega), hend _ _ _ (ready_none (by omega)) hS⟩
  | n + 1, listed, a, w, hc, hS => ⟨fun h => hend _ _ _ h hS, fun i hi => wpOp_mono (fun a' w' h' => any_inv hstep hend n _ a' w' (by
      have := count_set _ i (ready_false hi)
      rw [Array.toList_setIfInBounds]; omega) h') (hstep _ _ _ i hi hS)⟩
theorem all_listed {listed : Array Bool} (hw : ∀ (i : Nat) (o : Oper), ops[i]? = some o → ∀ e ∈ o.after, Region.binds md e = true → e.on < i) (hsz : listed.size = ops.size) (hr : Region.ready md ops listed = []) :
    ∀ i, i < ops.size → listed.getD i false = true := by
  intro i
  induction i using Nat.strongRecOn with
  | ind i ih =>
    intro hi
    cases h : listed.getD i false with
    | true => rfl
    | false =>
      exfalso
      have h1 : listed.getD i true = false := by
        have hl : i < listed.size := by omega
        simp [hl] at h ⊢; exact h
      have hm : i ∈ Region.ready md ops listed := mem_ready.2 ⟨h1, ops[i], by simp [hi], fun e he hb => by
        have hlt := hw i ops[i] (by simp [hi]) e he hb
        exact ih e.on hlt (by omega)⟩
      rw [hr] at hm
      cases hm
/-- Each operation waits for earlier ones alone. -/
def orderOk (ops : Array Oper) : Bool := (List.range ops.size).all fun i => match ops[i]? with | some o => o.after.all (fun e => decide (e.on < i)) | none => true
theorem order_ok (h : orderOk ops = true) : ∀ (i : Nat) (o : Oper), ops[i]? = some o → ∀ e ∈ o.after, Region.binds md e = true → e.on < i := by
  intro i o ho e he _
  have hlt : i < ops.size := (Array.getElem?_eq_some_iff.1 ho).1
  have h1 := List.all_eq_true.1 h i (List.mem_range.2 hlt)
  rw [ho] at h1
  have h2 := Array.all_eq_true_iff_forall_mem.1 h1 e he
  simpa using h2
theorem un_of {L : Array Bool} {i : Nat} (h : L.getD i true = false) : L.getD i false = false := by
  cases e : L[i]? with
  | none => simp [e] at h
  | some b => simp [e] at h ⊢; exact h
theorem region_I {id : Nat} {a : Act} {w : World} (hm : P.follows .mixedOrders = true) (S : Array Bool → Act → World → Prop)
    (h0 : S (Array.replicate ops.size false) a w.drew)
    (hstep : ∀ (listed : Array Bool) (a : Act) (w : World) (i : Nat), i ∈ Region.ready .any ops listed → S listed a w → wpOp P ops Q i (S (listed.setIfInBounds i true)) a w)
    (hend : ∀ (listed : Array Bool) (a : Act) (w : World), Region.ready .any ops listed = [] → S listed a w → Q .normal a w) :
    (Code.region id ops true).wp P Q a w :=
  wp_region_any hm (any_inv hstep hend ops.size _ _ _ (by simp [Array.toList_replicate, List.count_replicate]) h0)
end
end Go.Proofs.Ytpinfaoeggipmaa
