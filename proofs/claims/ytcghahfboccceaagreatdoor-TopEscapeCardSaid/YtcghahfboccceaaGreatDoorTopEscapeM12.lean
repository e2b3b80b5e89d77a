/- Several texts in one: TeR, RegionM. -/
import Derived.Test.YtcghahfboccceaaGreatDoorTopEscapeM11
import Derived.WalkKit
import Derived.OrdersHeld
import Derived.Deep.RegionHeld3
/- Contracts of token's letter, markup. -/
namespace Go.Proofs.YtcghahfboccceaaGreatDoor
open Go.RowKit Go.Shelf
set_option linter.unusedVariables false
set_option linter.unusedSimpArgs false

theorem letter_p (w : World) : Calls Tryz.prog 80 #[.int .u8 112] w fun e w' => e = .returned (.bool true) ∧ w' = w := by
  go_enter Tryz.func80, Tryz.ntmps80
  go_wp2
  go_ret
  exact ⟨rfl, rfl⟩
theorem letter_i (w : World) : Calls Tryz.prog 80 #[.int .u8 105] w fun e w' => e = .returned (.bool true) ∧ w' = w := by
  go_enter Tryz.func80, Tryz.ntmps80
  go_wp2
  go_ret
  exact ⟨rfl, rfl⟩
theorem letter_ex (w : World) : Calls Tryz.prog 80 #[.int .u8 33] w fun e w' => e = .returned (.bool false) ∧ w' = w := by
  go_enter Tryz.func80, Tryz.ntmps80
  go_wp2
  go_ret
  exact ⟨rfl, rfl⟩
section
variable (b : Nat) (s : ByteArray) (a : Nat) (c1 c2 c3 : Value) (hs : s.size ≤ 1099511627776) (w : World)
include hs
theorem markup_no (ha : a < s.size) (h : s[a].toNat ≠ 60) (hB : Blk w b 82 #[.string s, c1, c2, c3]) :
    Calls Tryz.prog 57 #[.pointer (some ⟨b, 0, none⟩), .int .i64 (a : Int)] w fun e w' => e = .returned (.int .u8 0) ∧ w' = w := by
  have c0 : w.cell? ⟨b, 0, none⟩ = some (.string s) := hB.cell 0
  have e1 : ((s[a].toNat : Int) != 60) = true := by simp; omega
  have h0 := hs
  clear h0 h hB
  go_enter Tryz.func57, Tryz.ntmps57
  go_wp2
  go_ret
  exact ⟨rfl, rfl⟩
theorem markup_p (ha : a + 1 < s.size) (h : s[a].toNat = 60) (h2 : s[a + 1].toNat = 112) (hB : Blk w b 82 #[.string s, c1, c2, c3]) :
    Calls Tryz.prog 57 #[.pointer (some ⟨b, 0, none⟩), .int .i64 (a : Int)] w fun e w' => e = .returned (.int .u8 97) ∧ w' = w := by
  have c0 : w.cell? ⟨b, 0, none⟩ = some (.string s) := hB.cell 0
  have e1 : ((s[a].toNat : Int) != 60) = false := by rw [h]; rfl
  have e2 : ((a : Int) + 1 == (s.size : Int)) = false := by simp; omega
  have H2 : (s[a + 1].toNat : Int) = 112 := by rw [h2]; rfl
  clear h h2 hB
  go_enter Tryz.func57, Tryz.ntmps57
  go_wp2_with (go_at_call 80; refine (letter_p _).mono ?_; rintro e w1 ⟨rfl, rfl⟩)
  go_ret
  exact ⟨rfl, rfl⟩
theorem markup_ex (ha : a + 1 < s.size) (h : s[a].toNat = 60) (h2 : s[a + 1].toNat = 33) (hB : Blk w b 82 #[.string s, c1, c2, c3]) :
    Calls Tryz.prog 57 #[.pointer (some ⟨b, 0, none⟩), .int .i64 (a : Int)] w fun e w' => e = .returned (.int .u8 33) ∧ w' = w := by
  have c0 : w.cell? ⟨b, 0, none⟩ = some (.string s) := hB.cell 0
  have e1 : ((s[a].toNat : Int) != 60) = false := by rw [h]; rfl
  have e2 : ((a : Int) + 1 == (s.size : Int)) = false := by simp; omega
  have H2 : (s[a + 1].toNat : Int) = 33 := by rw [h2]; rfl
  clear h h2 hB
  go_enter Tryz.func57, Tryz.ntmps57
  go_wp2_with (go_at_call 80; refine (letter_ex _).mono ?_; rintro e w1 ⟨rfl, rfl⟩)
  go_ret
  exact ⟨rfl, rfl⟩
end
end Go.Proofs.YtcghahfboccceaaGreatDoor
/- A region that draws its order: a condition on the world holds as long as one of the listed loads is still to come; behind them stores may come as they like. -/
namespace Go.Proofs.YtcghahfboccceaaGreatDoor
open Go.RowKit
set_option linter.unusedVariables false
section
variable {P : Program} {ops : Array Oper} {Q : Exit → Act → World → Prop} {md : Region.Mode} {S : World → Prop} {T : List Nat}

/-- Has one of the late operations been done? -/
def lateL (T : List Nat) (listed : Array Bool) : Bool := T.any fun t => listed.getD t false
theorem lateL_set {listed : Array Bool} {i : Nat} (hi : ¬ i ∈ T) : lateL T (listed.setIfInBounds i true) = lateL T listed := by
  unfold lateL
  rw [Bool.eq_iff_iff, List.any_eq_true, List.any_eq_true]
  have e : ∀ t, t ∈ T → (listed.setIfInBounds i true).getD t false = listed.getD t false := fun t ht => getD_set_ne false (fun h => hi (h ▸ ht))
  exact ⟨fun ⟨t, ht, h⟩ => ⟨t, ht, by rwa [e t ht] at h⟩, fun ⟨t, ht, h⟩ => ⟨t, ht, by rwa [e t ht]⟩⟩
/-- Each of T waits for operation i. -/
def lateB (md : Region.Mode) (ops : Array Oper) (T : List Nat) (i : Nat) : Bool := T.all fun j => match ops[j]? with | some o => o.after.any fun e => Region.binds md e && e.on == i | none => true
/-- Whatever order is picked; S holds behind each operation as long as a load is still to come. -/
def anyM (P : Program) (md : Region.Mode) (ops : Array Oper) (Q : Exit → Act → World → Prop) (S : World → Prop) (T : List Nat) : Nat → Array Bool → Act → World → Prop
  | 0, listed, a, w => Region.ready md ops listed = [] ∧ Q .normal a w
  | n + 1, listed, a, w => (Region.ready md ops listed = [] → Q .normal a w) ∧
    ∀ i ∈ Region.ready md ops listed, wpOp P ops Q i (fun a' w' => (lateL T (listed.setIfInBounds i true) = false → S w') ∧ anyM P md ops Q S T n (listed.setIfInBounds i true) a' w') a w
theorem anyM_any : ∀ (n : Nat) (listed : Array Bool) (a : Act) (w : World), anyM P md ops Q S T n listed a w → wpAny P md ops Q n listed a w
  | 0, _, _, _, h => h
  | n + 1, _, _, _, h => ⟨h.1, fun i hi => wpOp_mono (fun a' w' h' => anyM_any n _ a' w' h'.2) (h.2 i hi)⟩
theorem region_M {id : Nat} {a : Act} {w : World} (hm : P.follows .mixedOrders = true) (h : anyM P .any ops Q S T ops.size (Array.replicate ops.size false) a w.drew) : (Code.region id ops true).wp P Q a w :=
  wp_region_any hm (anyM_any _ _ _ _ h)
theorem anyM_one {fuel : Nat} {listed : Array Bool} {a : Act} {w : World} {i : Nat} {o : Oper} (hr : Region.ready md ops listed = [i]) (ho : ops[i]? = some o)
    (h : ∀ K' : Act → World → Prop, Shut (∀ a w, (lateL T (listed.setIfInBounds i true) = false → S w) → anyM P md ops Q S T fuel (listed.setIfInBounds i true) a w → K' a w) → if Region.wanted o (yielded ops a.tmps) = true then Oper.wp P o a w K' Q else K' (a.put o.dst undef) w) :
    anyM P md ops Q S T (fuel + 1) listed a w := by
  refine And.intro (fun h0 => by rw [h0] at hr; cases hr) (fun j hj => ?_)
  rw [hr] at hj
  obtain rfl : j = i := by simpa using hj
  exact wpOp_step ho fun K' hK => h K' (fun a w hS hA => hK a w ⟨hS, hA⟩)
theorem anyM_two {fuel : Nat} {listed : Array Bool} {a : Act} {w : World} {i j : Nat} {o o' : Oper} (hr : Region.ready md ops listed = [i, j]) (ho : ops[i]? = some o) (ho' : ops[j]? = some o')
    (h : ∀ K' : Act → World → Prop, Shut (∀ a w, (lateL T (listed.setIfInBounds i true) = false → S w) → anyM P md ops Q S T fuel (listed.setIfInBounds i true) a w → K' a w) → if Region.wanted o (yielded ops a.tmps) = true then Oper.wp P o a w K' Q else K' (a.put o.dst undef) w)
    (h' : ∀ K' : Act → World → Prop, Shut (∀ a w, (lateL T (listed.setIfInBounds j true) = false → S w) → anyM P md ops Q S T fuel (listed.setIfInBounds j true) a w → K' a w) → if Region.wanted o' (yielded ops a.tmps) = true then Oper.wp P o' a w K' Q else K' (a.put o'.dst undef) w) :
    anyM P md ops Q S T (fuel + 1) listed a w := by
  refine And.intro (fun h0 => by rw [h0] at hr; cases hr) (fun k hk => ?_)
  rw [hr] at hk
  rcases (by simpa using hk : k = i ∨ k = j) with rfl | rfl
  · exact wpOp_step ho fun K' hK => h K' (fun a w hS hA => hK a w ⟨hS, hA⟩)
  · exact wpOp_step ho' fun K' hK => h' K' (fun a w hS hA => hK a w ⟨hS, hA⟩)
theorem anyM_done {listed : Array Bool} {a : Act} {w : World} (hr : Region.ready md ops listed = []) (h : Q .normal a w) : ∀ n, anyM P md ops Q S T n listed a w
  | 0 => ⟨hr, h⟩
  | n + 1 => ⟨fun _ => h, fun i hi => by rw [hr] at hi; cases hi⟩
theorem anyM_first {i : Nat} {oi : Oper} {v : Value} {S' : World → Prop} {C : Array Bool → Prop} (hi : ops[i]? = some oi) (hs : Region.noSelect ops = true) (hiT : ¬ i ∈ T)
    (hS' : ∀ (listed : Array Bool) (w : World), C listed → (lateL T listed = false → S w) → S' w)
    (hC : ∀ (listed : Array Bool) (j : Nat) (oj : Oper), ops[j]? = some oj → (∀ e ∈ oj.after, Region.binds md e = true → e.on ≠ i) → C listed → C (listed.setIfInBounds j true))
    (hQ : ∀ c a w, Q (.panic c) (a.put oi.dst v) w → Q (.panic c) a w) : ∀ (n : Nat) (listed : Array Bool) (a : Act) (w : World),
      (∀ j oj, ops[j]? = some oj → j ≠ i → listed.getD j true = false → (∀ e ∈ oj.after, Region.binds md e = true → e.on ≠ i) → oi.apart ops oj = true) →
      i ∈ Region.ready md ops listed → YieldsIf P ops S' oi v a → C listed → (lateL T listed = false → S w) → anyM P md ops Q S T n (listed.setIfInBounds i true) (a.put oi.dst v) w → anyM P md ops Q S T (n + 1) listed a w := by
  intro n
  induction n with
  | zero =>
    intro listed a w _ hr hy hc hS H
    refine ⟨fun h => (by rw [h] at hr; cases hr), fun j hj => ?_⟩
    by_cases e : j = i
    · subst e; exact hy.wpOp hi (hS' _ _ hc hS) ⟨fun h => hS (by rwa [lateL_set hiT] at h), H⟩
    · have h1 := ready_mono hj e
      rw [H.1] at h1; cases h1
  | succ n ih =>
    intro listed a w hfree hr hy hc hS H
    refine ⟨fun h => (by rw [h] at hr; cases hr), fun j hj => ?_⟩
    by_cases e : j = i
    · subst e; exact hy.wpOp hi (hS' _ _ hc hS) ⟨fun h => hS (by rwa [lateL_set hiT] at h), H⟩
    · obtain ⟨hun, oj, hoj, hall⟩ := mem_ready.1 hj
      have hiu := (mem_ready.1 hr).1
      have hno : ∀ d ∈ oj.after, Region.binds md d = true → d.on ≠ i := fun d hd hb he => by
        have h1 := hall d hd hb
        rw [he] at h1
        rcases Nat.lt_or_ge i listed.size with h' | h'
        · simp [h'] at hiu h1; rw [hiu] at h1; cases h1
        · simp [Array.getElem?_eq_none h'] at h1
      have h2 := wpOp_putIf hoj (hfree j oj hoj e hun hno) (fun cs b => Region.noSelect_spec hs i oi cs b hi) (fun cs b => Region.noSelect_spec hs j oj cs b hoj) hQ hy (H.2 j (ready_mono hj e))
      have hfree' : ∀ k ok, ops[k]? = some ok → k ≠ i → (listed.setIfInBounds j true).getD k true = false → (∀ d ∈ ok.after, Region.binds md d = true → d.on ≠ i) → oi.apart ops ok = true := fun k ok hk hki hku hkn => by
        refine hfree k ok hk hki ?_ hkn
        by_cases hjk : j = k
        · subst hjk; exact hun
        · rw [getD_set_ne true hjk] at hku; exact hku
      refine wpOp_mono (fun a' w' h3 => ?_) h2
      have hn : lateL T (listed.setIfInBounds j true) = false → S w' := fun h => h3.2.1 (by rw [Array.setIfInBounds_comm _ _ (Ne.symm e), lateL_set hiT]; exact h)
      refine ⟨hn, ih (listed.setIfInBounds j true) a' w' hfree' (ready_mono hr (Ne.symm e)) h3.1 (hC _ _ _ hoj hno hc) hn ?_⟩
      rw [Array.setIfInBounds_comm _ _ e]
      exact h3.2.2
/-- A load under S, that every late operation waits for. -/
theorem anyM_take {i : Nat} {oi : Oper} {v : Value} {fuel : Nat} {listed : Array Bool} {a : Act} {w : World} (hi : ops[i]? = some oi)
    (hb : (Region.noSelect ops && Region.free md ops listed i && (Region.ready md ops listed).contains i && lateB md ops T i && !lateL T listed && !T.contains i) = true)
    (hQ : ∀ c a w, Q (.panic c) (a.put oi.dst v) w → Q (.panic c) a w) (hy : YieldsIf P ops S oi v a) (hS : S w)
    (h : anyM P md ops Q S T fuel (listed.setIfInBounds i true) (a.put oi.dst v) w) : anyM P md ops Q S T (fuel + 1) listed a w := by
  simp only [Bool.and_eq_true, Bool.not_eq_true'] at hb
  obtain ⟨⟨⟨⟨⟨hs, hf⟩, hr⟩, hT⟩, hl⟩, hi'⟩ := hb
  refine anyM_first (S' := S) (C := fun l => lateL T l = false) hi hs (by simpa using hi') (fun l w hc h => h hc) (fun l j oj hoj hno hc => ?_) hQ fuel listed a w (Region.free_spec hi hf) (by simpa using hr) hy hl (fun _ => hS) h
  have hjT : ¬ j ∈ T := fun hm => by
    have h1 := List.all_eq_true.1 hT j hm
    rw [hoj] at h1
    obtain ⟨d, hd, hp⟩ := Array.any_eq_true'.1 h1
    rw [Bool.and_eq_true, beq_iff_eq] at hp
    exact hno d hd hp.1 hp.2
  rw [lateL_set hjT]; exact hc
/-- An operation that yields in every world. -/
theorem anyM_free {i : Nat} {oi : Oper} {v : Value} {fuel : Nat} {listed : Array Bool} {a : Act} {w : World} (hi : ops[i]? = some oi)
    (hb : (Region.noSelect ops && Region.free md ops listed i && (Region.ready md ops listed).contains i && !T.contains i) = true)
    (hQ : ∀ c a w, Q (.panic c) (a.put oi.dst v) w → Q (.panic c) a w) (hy : YieldsIf P ops (fun _ => True) oi v a) (hS : lateL T listed = false → S w)
    (h : anyM P md ops Q S T fuel (listed.setIfInBounds i true) (a.put oi.dst v) w) : anyM P md ops Q S T (fuel + 1) listed a w := by
  simp only [Bool.and_eq_true, Bool.not_eq_true'] at hb
  obtain ⟨⟨⟨hs, hf⟩, hr⟩, hi'⟩ := hb
  exact anyM_first (S' := fun _ => True) (C := fun _ => True) hi hs (by simpa using hi') (fun _ _ _ _ => trivial) (fun _ _ _ _ _ _ => trivial) hQ fuel listed a w (Region.free_spec hi hf) (by simpa using hr) hy trivial hS h
/-- The same, behind a late operation. -/
theorem anyM_freeL {i : Nat} {oi : Oper} {v : Value} {fuel : Nat} {listed : Array Bool} {a : Act} {w : World} (hi : ops[i]? = some oi)
    (hb : (Region.noSelect ops && Region.free md ops listed i && (Region.ready md ops listed).contains i && !T.contains i && lateL T listed) = true)
    (hQ : ∀ c a w, Q (.panic c) (a.put oi.dst v) w → Q (.panic c) a w) (hy : YieldsIf P ops (fun _ => True) oi v a)
    (h : anyM P md ops Q S T fuel (listed.setIfInBounds i true) (a.put oi.dst v) w) : anyM P md ops Q S T (fuel + 1) listed a w := by
  rw [Bool.and_eq_true] at hb
  exact anyM_free hi hb.1 hQ hy (fun h => by rw [hb.2] at h; cases h) h
theorem late_no {C : Prop} {b : Bool} (h : b = false) (h' : b = true) : C := by rw [h'] at h; cases h
end
end Go.Proofs.YtcghahfboccceaaGreatDoor
