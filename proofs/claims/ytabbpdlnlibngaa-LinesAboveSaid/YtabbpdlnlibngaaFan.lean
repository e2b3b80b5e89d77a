/- A region in which several operations stand ready at once: each is shown once, whatever came before it. -/
import Derived.Test.YtabbpdlnlibngaaRegionM
namespace Go.Proofs.Ytabbpdlnlibngaa
open Go.RowKit
set_option linter.unusedVariables false
section
variable {P : Program} {ops : Array Oper} {Q : Exit → Act → World → Prop} {md : Region.Mode} {S : World → Prop} {T : List Nat}
/-- The act with the values of operations laid at their places. -/
def layP (a : Act) (f : Nat → Value) : List (Nat × Nat) → Act
  | [] => a
  | p :: ps => (layP a f ps).put (some p.2) (f p.1)
def updV (f : Nat → Value) (i : Nat) (v : Value) : Nat → Value := fun x => if x = i then v else f x
theorem updV_same (f : Nat → Value) (i : Nat) (v : Value) : updV f i v i = v := by unfold updV; rw [if_pos rfl]
theorem updV_ne {f : Nat → Value} {i j : Nat} {v : Value} (h : j ≠ i) : updV f i v j = f j := by unfold updV; rw [if_neg h]
theorem put_same (a : Act) (d : Nat) (u v : Value) : (a.put (some d) u).put (some d) v = a.put (some d) v := by
  unfold Act.put; simp [Array.setIfInBounds_setIfInBounds]
theorem put_comm (a : Act) {d e : Nat} (u v : Value) (h : d ≠ e) : (a.put (some d) u).put (some e) v = (a.put (some e) v).put (some d) u := by
  unfold Act.put; simp only; rw [Array.setIfInBounds_comm _ _ h]
theorem lay_out (a : Act) (f : Nat → Value) (i : Nat) (v : Value) : ∀ ps : List (Nat × Nat), (∀ p ∈ ps, p.1 ≠ i) → layP a (updV f i v) ps = layP a f ps
  | [], _ => rfl
  | p :: ps, h => by
    rw [layP, layP, lay_out a f i v ps (fun q hq => h q (by simp [hq])), updV_ne (h p (by simp))]
theorem put_lay (a : Act) (f : Nat → Value) (i d : Nat) (v : Value) : ∀ ps : List (Nat × Nat), (i, d) ∈ ps → (ps.map (·.1)).Nodup → (ps.map (·.2)).Nodup → (layP a f ps).put (some d) v = layP a (updV f i v) ps
  | [], h, _, _ => by simp at h
  | p :: ps, h, h1, h2 => by
    rw [List.map_cons, List.nodup_cons] at h1 h2
    rcases List.mem_cons.1 h with e | h
    · subst e
      rw [layP, layP, put_same, updV_same, lay_out a f i v ps (fun q hq e => h1.1 (List.mem_map.2 ⟨q, hq, e⟩))]
    · have hi : p.1 ≠ i := fun e => h1.1 (by rw [e]; exact List.mem_map.2 ⟨_, h, rfl⟩)
      have hd : p.2 ≠ d := fun e => h2.1 (by rw [e]; exact List.mem_map.2 ⟨_, h, rfl⟩)
      rw [layP, layP, put_comm _ _ _ hd, put_lay a f i d v ps h h1.2 h2.2, updV_ne hi]
def markL (listed : Array Bool) (I : List Nat) : Array Bool := I.foldl (fun l i => l.setIfInBounds i true) listed
/-- May the operations be taken one behind the other? -/
def takeB (md : Region.Mode) (ops : Array Oper) (T : List Nat) : Array Bool → List Nat → Bool
  | _, [] => true
  | listed, x :: xs => (Region.noSelect ops && Region.free md ops listed x && (Region.ready md ops listed).contains x && !T.contains x) && takeB md ops T (listed.setIfInBounds x true) xs
/-- Is nothing ready but the operations listed, in whatever order they are done, where some are taken at once behind each? -/
def fanB (md : Region.Mode) (ops : Array Oper) (T : List Nat) (E : Nat → List (Nat × Nat)) (fin : Array Bool) : Nat → Array Bool → List Nat → Bool
  | 0, listed, I => I.isEmpty && listed == fin
  | n + 1, listed, I => !(Region.ready md ops listed).isEmpty && (Region.ready md ops listed).all fun i => I.contains i && takeB md ops T (listed.setIfInBounds i true) ((E i).map (·.1)) && fanB md ops T E fin n (markL (listed.setIfInBounds i true) ((E i).map (·.1))) (I.erase i)
/-- The values of operations taken one behind the other. -/
def chainV (P : Program) (ops : Array Oper) (a : Act) (D : List (Nat × Nat)) : List (Nat × Nat) → (Nat → Value) → (Nat → Value) → Prop
  | [], f, f' => f' = f
  | x :: xs, f, f' => ∃ v o, ops[x.1]? = some o ∧ o.dst = some x.2 ∧ YieldsIf P ops (fun _ => True) o v (layP a f D) ∧ chainV P ops a D xs (updV f x.1 v) f'
theorem anyM_takes (hQ : ∀ c a w d v, Q (.panic c) (Act.put a d v) w → Q (.panic c) a w) (D : List (Nat × Nat)) (hD : ((D.map (·.1)).Nodup ∧ (D.map (·.2)).Nodup)) (a : Act) : ∀ (xs : List (Nat × Nat)) (fuel : Nat) (listed : Array Bool) (f f' : Nat → Value) (w : World),
    takeB md ops T listed (xs.map (·.1)) = true → chainV P ops a D xs f f' → (∀ x ∈ xs, x ∈ D) → (lateL T listed = false → S w) → anyM P md ops Q S T fuel (markL listed (xs.map (·.1))) (layP a f' D) w → anyM P md ops Q S T (fuel + xs.length) listed (layP a f D) w
  | [], fuel, listed, f, f', w, hb, hc, hx, hS, h => by
    obtain rfl : f' = f := hc
    exact h
  | x :: xs, fuel, listed, f, f', w, hb, hc, hx, hS, h => by
    obtain ⟨v, o, ho, hd, hy, hc⟩ := hc
    rw [List.map_cons, takeB, Bool.and_eq_true] at hb
    have hT : ¬ x.1 ∈ T := by
      have h1 := hb.1
      simp only [Bool.and_eq_true, Bool.not_eq_true'] at h1
      simpa using h1.2
    rw [List.length_cons, ← Nat.add_assoc]
    refine anyM_free (i := x.1) (oi := o) (v := v) ho hb.1 (fun c a w h => hQ c a w _ _ h) hy hS ?_
    rw [hd, put_lay a f x.1 x.2 v D (hx x (by simp)) hD.1 hD.2]
    exact anyM_takes hQ D hD a xs fuel _ _ f' w hb.2 hc (fun y hy => hx y (by simp [hy])) (fun h => hS (by rwa [lateL_set hT] at h)) h
theorem cnt_erase {E : Nat → List (Nat × Nat)} {i : Nat} {I : List Nat} (h : i ∈ I) : (I.map fun i => 1 + (E i).length).sum = ((I.erase i).map fun i => 1 + (E i).length).sum + (E i).length + 1 := by
  have h1 := ((List.perm_cons_erase h).map fun i => 1 + (E i).length).sum_nat
  rw [List.map_cons, List.sum_cons] at h1
  omega
theorem anyM_fan (hQ : ∀ c a w d v, Q (.panic c) (Act.put a d v) w → Q (.panic c) a w) (D : List (Nat × Nat)) (hD : ((D.map (·.1)).Nodup ∧ (D.map (·.2)).Nodup)) (E : Nat → List (Nat × Nat)) (a : Act) (R : (Nat → Prop) → (Nat → Value) → World → Prop) (hRS : ∀ L f w, R L f w → S w)
    (M : List Nat) (hE : ∀ p ∈ D, p.1 ∈ M → ∀ x ∈ E p.1, x ∈ D)
    (hstep : ∀ p ∈ D, p.1 ∈ M → ∀ (L : Nat → Prop) (f : Nat → Value) (w : World), ¬ L p.1 → R L f w → ∃ o, ops[p.1]? = some o ∧ ∀ K' : Act → World → Prop,
      Shut (∀ a' v w' f', a' = (layP a f D).put (some p.2) v → chainV P ops a D (E p.1) (updV f p.1 v) f' → R (fun x => L x ∨ x = p.1) f' w' → K' a' w') →
        if Region.wanted o (yielded ops (layP a f D).tmps) = true then Oper.wp P o (layP a f D) w K' Q else K' ((layP a f D).put o.dst undef) w)
    (fuel : Nat) (fin : Array Bool) (hfin : ∀ (f : Nat → Value) (L : Nat → Prop) (w : World), R L f w → (∀ i ∈ M, L i) → anyM P md ops Q S T fuel fin (layP a f D) w) :
    ∀ (n : Nat) (I : List Nat) (listed : Array Bool) (L : Nat → Prop) (f : Nat → Value) (w : World), I.length = n → fanB md ops T E fin n listed I = true → (∀ i ∈ I, i ∈ M ∧ i ∈ D.map (·.1)) → I.Nodup → (∀ i ∈ M, i ∈ I ↔ ¬ L i) → R L f w →
      anyM P md ops Q S T (fuel + (I.map fun i => 1 + (E i).length).sum) listed (layP a f D) w
  | 0, I, listed, L, f, w, hn, hb, hI, hnd, hL, hR => by
    obtain rfl : I = [] := List.eq_nil_of_length_eq_zero hn
    have : listed = fin := by
      have h1 : (true && (listed == fin)) = true := hb
      simpa using h1
    rw [this]
    refine hfin f L w hR (fun p hp => ?_)
    have h1 := hL p hp
    simp at h1
    exact h1
  | n + 1, I, listed, L, f, w, hn, hb, hI, hnd, hL, hR => by
    rw [fanB, Bool.and_eq_true, List.all_eq_true] at hb
    obtain ⟨hne, hall⟩ := hb
    obtain ⟨i0, hi0⟩ : ∃ i, i ∈ Region.ready md ops listed := by
      cases hr : Region.ready md ops listed with
      | nil => rw [hr] at hne; cases hne
      | cons i r => exact ⟨i, by simp⟩
    have hm0 : i0 ∈ I := by
      have h1 := hall i0 hi0
      simp only [Bool.and_eq_true] at h1
      simpa using h1.1.1
    rw [cnt_erase (E := E) hm0, ← Nat.add_assoc]
    refine And.intro (fun h0 => by rw [h0] at hi0; cases hi0) (fun i hi => ?_)
    have h1 := hall i hi
    simp only [Bool.and_eq_true] at h1
    obtain ⟨⟨h2, h3⟩, h4⟩ := h1
    have him : i ∈ I := by simpa using h2
    have hfu : fuel + (((I.erase i0).map fun i => 1 + (E i).length).sum + (E i0).length) = fuel + ((I.erase i).map fun i => 1 + (E i).length).sum + (E i).length := by
      have e1 := cnt_erase (E := E) hm0
      have e2 := cnt_erase (E := E) him
      omega
    rw [hfu]
    obtain ⟨hiM, hiD⟩ := hI i him
    obtain ⟨⟨i', d⟩, hp, hpi⟩ := List.mem_map.1 hiD
    obtain rfl : i' = i := hpi
    have hnL : ¬ L i' := (hL _ hiM).1 him
    obtain ⟨o, ho, hK⟩ := hstep _ hp hiM L f w hnL hR
    refine wpOp_step ho fun K' hK' => hK K' (fun a' v w' f' ha' hch hR' => ?_)
    subst ha'
    refine hK' _ _ ⟨fun _ => hRS _ _ _ hR', ?_⟩
    rw [put_lay a f i' d v D hp hD.1 hD.2]
    refine anyM_takes hQ D hD a (E i') _ _ _ f' w' h3 hch (hE _ hp hiM) (fun _ => hRS _ _ _ hR') ?_
    refine anyM_fan hQ D hD E a R hRS M hE hstep fuel fin hfin n (I.erase i') _ _ _ w' (by rw [List.length_erase_of_mem him]; omega) h4 (fun j hj => hI j (List.mem_of_mem_erase hj)) (hnd.erase i') ?_ hR'
    intro q hq
    rw [hnd.mem_erase_iff, hL q hq]
    constructor
    · rintro ⟨h2, h3⟩ (h4 | h4)
      · exact h3 h4
      · exact h2 h4
    · intro h2
      exact ⟨fun h3 => h2 (.inr h3), fun h3 => h2 (.inl h3)⟩
theorem layP_same (a : Act) (f : Nat → Value) : ∀ ps : List (Nat × Nat), (∀ p ∈ ps, f p.1 = a.tmps.getD p.2 undef) → layP a f ps = a
  | [], _ => rfl
  | p :: ps, h => by
    rw [layP, layP_same a f ps (fun q hq => h q (by simp [hq])), h p (by simp)]
    unfold Act.put
    simp only
    have e : a.tmps.setIfInBounds p.2 (a.tmps.getD p.2 undef) = a.tmps := by
      by_cases hp : p.2 < a.tmps.size
      · apply Array.ext
        · simp
        · intro i h1 h2
          rw [Array.getElem_setIfInBounds h2]
          split
          · rename_i e; subst e; simp [Array.getD, hp]
          · rfl
      · rw [Array.setIfInBounds_eq_of_size_le (by omega)]
    rw [e]
def curV (a : Act) (D : List (Nat × Nat)) : Nat → Value := fun i => a.tmps.getD ((D.lookup i).getD 0) undef
theorem lookup_mem : ∀ (ps : List (Nat × Nat)), (ps.map (·.1)).Nodup → ∀ p ∈ ps, ps.lookup p.1 = some p.2
  | [], _, _, h => by simp at h
  | q :: ps, hn, p, h => by
    rw [List.map_cons, List.nodup_cons] at hn
    obtain ⟨q1, q2⟩ := q
    rw [List.lookup_cons]
    rcases List.mem_cons.1 h with rfl | h
    · simp
    · have hne : p.1 ≠ q1 := fun e => hn.1 (List.mem_map.2 ⟨p, h, e⟩)
      have : (p.1 == q1) = false := by simpa using hne
      rw [this]
      exact lookup_mem ps hn.2 p h
theorem anyM_fan0 (hQ : ∀ c a w d v, Q (.panic c) (Act.put a d v) w → Q (.panic c) a w) (D : List (Nat × Nat)) (M : List Nat) (E : Nat → List (Nat × Nat)) (hD : ((D.map (·.1)).Nodup ∧ (D.map (·.2)).Nodup)) (a : Act) (R : (Nat → Prop) → (Nat → Value) → World → Prop) (hRS : ∀ L f w, R L f w → S w)
    (fuel n N : Nat) (fin listed : Array Bool) (hn : M.length = n) (hN : fuel + (M.map fun i => 1 + (E i).length).sum = N) (hb : fanB md ops T E fin n listed M = true) (hI : ∀ i ∈ M, i ∈ D.map (·.1)) (hnd : M.Nodup) (hE : ∀ p ∈ D, p.1 ∈ M → ∀ x ∈ E p.1, x ∈ D) (w : World) (hR : ∀ f, R (fun _ => False) f w)
    (hstep : ∀ p ∈ D, p.1 ∈ M → ∀ (L : Nat → Prop) (f : Nat → Value) (w : World), ¬ L p.1 → R L f w → ∃ o, ops[p.1]? = some o ∧ ∀ K' : Act → World → Prop,
      Shut (∀ a' v w' f', a' = (layP a f D).put (some p.2) v → chainV P ops a D (E p.1) (updV f p.1 v) f' → R (fun x => L x ∨ x = p.1) f' w' → K' a' w') →
        if Region.wanted o (yielded ops (layP a f D).tmps) = true then Oper.wp P o (layP a f D) w K' Q else K' ((layP a f D).put o.dst undef) w)
    (hfin : ∀ (f : Nat → Value) (L : Nat → Prop) (w : World), R L f w → (∀ i ∈ M, L i) → anyM P md ops Q S T fuel fin (layP a f D) w) :
    anyM P md ops Q S T N listed a w := by
  have h := anyM_fan hQ D hD E a R hRS M hE hstep fuel fin hfin n M listed (fun _ => False) (curV a D) w hn hb (fun i hi => ⟨hi, hI i hi⟩) hnd (fun i hi => ⟨fun _ h => h, fun _ => hi⟩) (hR _)
  rw [layP_same a (curV a D) D (fun p hp => by unfold curV; rw [lookup_mem D hD.1 p hp]; rfl), hN] at h
  exact h
end
end Go.Proofs.Ytabbpdlnlibngaa
