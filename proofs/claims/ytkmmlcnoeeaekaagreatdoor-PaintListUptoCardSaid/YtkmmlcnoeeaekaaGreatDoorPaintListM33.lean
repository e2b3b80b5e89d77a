/- Several texts in one: StkM. -/
import Derived.Test.YtkmmlcnoeeaekaaGreatDoorPaintListM32
/- The sort of what belongs to an owner. -/
namespace Go.Proofs.YtkmmlcnoeeaekaaGreatDoor
open Go.RowKit Go.Sort
set_option linter.unusedVariables false
set_option linter.unusedSimpArgs false

section
variable {α : Type} [Inhabited α]
theorem sw_heap (enc : α → Value) (w : World) (g off m : Nat) (dk : Array α) (os : Array Obj) {k : Nat} (hk : k < w.heap.size) (hne : k ≠ g) : (sortWorld enc w g off m dk os).heap[k]? = w.heap[k]? := by
  unfold sortWorld
  rw [heap_grow_old _ _ (by unfold putRow mapBlock Sort.ahead; simpa using hk)]
  unfold putRow mapBlock Sort.ahead
  simp only [Array.getElem?_modify]
  rw [if_neg (fun e => hne e.symm)]
theorem sw_same (enc : α → Value) (w : World) (g off m : Nat) (dk : Array α) (os : Array Obj) {cs : Array Value} {t : TypeId} {fr : Nat × Nat} (h : w.heap[g]? = some (.cells cs t fr)) : (sortWorld enc w g off m dk os).heap[g]? = some (.cells (putCells enc off dk cs) t fr) := by
  have hk : g < w.heap.size := by
    rcases Nat.lt_or_ge g w.heap.size with h1 | h1
    · exact h1
    · rw [Array.getElem?_eq_none h1] at h; cases h
  unfold sortWorld
  rw [heap_grow_old _ _ (by unfold putRow mapBlock Sort.ahead; simpa using hk)]
  unfold putRow mapBlock Sort.ahead
  simp only [Array.getElem?_modify, if_true, h, Option.map_some]
  rfl
theorem sw_grown (enc : α → Value) (w : World) (g off m : Nat) (dk : Array α) (os : Array Obj) : w.grownBy (sortWorld enc w g off m dk os) (some g) :=
  ⟨rfl, rfl, rfl, by unfold sortWorld; rw [size_grow]; unfold putRow mapBlock Sort.ahead; simp, fun k hk hne => sw_heap enc w g off m dk os hk (fun e => hne (by rw [e]))⟩
end
theorem orF_swo (L : LayV) {n : Nat} : SWO (ltOf (fun x y : {k : Nat // k < n} => cfF L x.1 y.1)) where
  irrefl x := by
    unfold ltOf
    rw [decide_eq_false_iff_not, cf_lt]
    exact ltP_irr _ _ _
  trans x y z h1 h2 := by
    unfold ltOf at *
    rw [decide_eq_true_iff, cf_lt] at *
    exact ltP_trans _ _ h1 h2
  ntrans x y z h1 h2 := by
    unfold ltOf at *
    rw [decide_eq_false_iff_not, cf_lt] at *
    unfold ltP at *
    omega
set_option maxHeartbeats 1000000 in
theorem sort_calls (L : LayV) (B gO gM cM gK cK gP base n c : Nat) (v : Value) (A : Option Addr) (l : List Nat) (w : World) (hK : KSt L B gO gM cM gK cK v w) (hP : w.cell? ⟨gP, 0, none⟩ = some (.pointer (some ⟨gO, 0, none⟩))) (hown : w.ownsRow base 3 1 (.slice A n c) n (nums l))
    (hl : ∀ x ∈ l, x < L.nf) (hBb : B ≤ base) (hPb : gP < base) (hnn : n ≤ 1048576) :
    Calls Tryz.prog 129 #[.slice A n c, .func (.func 130) #[] #[.pointer (some ⟨gP, 0, none⟩)]] w fun e w' => e = .returned (.tuple #[]) ∧ ∃ l', l'.Perm l ∧ l'.Pairwise (fun a b => ¬ ltP L.rankF L.phaseF b a) ∧ w'.ownsRow base 3 1 (.slice A n c) n (nums l') ∧ w.grownBy w' (Value.slice A n c).ownBlock := by
  have hln : l.length = n := by have := hown.1; rw [nums_len] at this; omega
  rcases hown.2 with ⟨h1, h0⟩ | ⟨g, cap, cur, hv, hb, hh, h3, h4, h5, h6⟩
  · injection h1 with h1 h2 h3
    subst h1; subst h2; subst h3
    haveI : Inhabited Nat := ⟨0⟩
    refine (Tryz.slices_SortFunc_none (α := Nat) none 0 _ w).mono ?_
    rintro e w' ⟨rfl, rfl⟩
    have hnil : l = [] := List.eq_nil_of_length_eq_zero hln
    subst hnil
    exact ⟨rfl, [], List.Perm.refl _, List.Pairwise.nil, hown, ⟨rfl, rfl, rfl, Nat.le_refl _, fun _ _ _ => rfl⟩⟩
  · injection hv with hv1 hv2 hv3
    subst hv1; subst hv3
    by_cases hn0 : n = 0
    · subst hn0
      haveI : Inhabited Nat := ⟨0⟩
      refine (Tryz.slices_SortFunc_none (α := Nat) (some ⟨g, 0, none⟩) c _ w).mono ?_
      rintro e w' ⟨rfl, rfl⟩
      have hnil : l = [] := List.eq_nil_of_length_eq_zero hln
      subst hnil
      exact ⟨rfl, [], List.Perm.refl _, List.Pairwise.nil, hown, ⟨rfl, rfl, rfl, Nat.le_refl _, fun _ _ _ => rfl⟩⟩
    have hx0 : ∃ x, x < L.nf := ⟨l.getD 0 0, hl _ (by have h : 0 < l.length := by omega
                                                      simp [List.getD, h])⟩
    haveI : Inhabited {k : Nat // k < L.nf} := ⟨⟨hx0.choose, hx0.choose_spec⟩⟩
    obtain ⟨d, hd⟩ : ∃ d : Array {k : Nat // k < L.nf}, d.toList.map (·.1) = l := ⟨(l.attach.map (fun x => ⟨x.1, hl x.1 x.2⟩)).toArray, by simp [List.map_map, Function.comp_def]⟩
    have hdn : d.size = n := by rw [← hln, ← hd]; simp
    obtain ⟨enc, henc⟩ : ∃ enc : {k : Nat // k < L.nf} → Value, enc = fun x => .int .i64 (x.1 : Nat) := ⟨_, rfl⟩
    have hne : ∀ j (hj : j < d.size), enc d[j]! = .int .i64 (l.getD j 0 : Nat) := fun j hj => by
      rw [getElem!_pos d j hj, henc, ← hd]
      simp [List.getD, hj]
    have hgw : g < w.heap.size := by
      rcases Nat.lt_or_ge g w.heap.size with h1 | h1
      · exact h1
      · rw [Array.getElem?_eq_none h1] at hh; cases hh
    have hH : Sort.Holds enc w g 0 d := fun j hj => by
      rw [hne j hj, Nat.zero_add]
      exact ⟨own_cell hown (nums_at l (by omega)), own_free hown⟩
    have hgpw : gP < w.heap.size := block_lt_of_cell hP
    have hcmp : CmpLays1 Tryz.prog 130 #[.pointer (some ⟨gP, 0, none⟩)] enc (fun x y => cfF L x.1 y.1) g 0 d.size w := fun m os dk hs x y => by
      have hf : ∀ k, k < B → k ≠ gO → (sortWorld enc w g 0 m dk os).heap[k]? = w.heap[k]? := fun k hk _ => sw_heap enc w g 0 m dk os (Nat.lt_of_lt_of_le hk hK.hB) (by omega)
      have hW : KSt L B gO gM cM gK cK v (sortWorld enc w g 0 m dk os) := hK.carry hf ((sw_heap enc w g 0 m dk os hK.blk.lt (by have := hK.go; omega)).trans hK.blk) (Nat.le_trans hK.hB (sw_grown enc w g 0 m dk os).size)
      have hPW : (sortWorld enc w g 0 m dk os).cell? ⟨gP, 0, none⟩ = some (.pointer (some ⟨gO, 0, none⟩)) := (World.cell?_of_block (sw_heap enc w g 0 m dk os hgpw (show gP ≠ g by omega))).trans hP
      have := cf_calls L B gO gM cM gK cK gP x.1 y.1 v _ hW hPW x.2 y.2
      rw [henc] at this ⊢
      exact this
    have eg : ∀ args w, (callFunc 130 args).run Tryz.prog w = .ok (.enter 130 args) w := enters_of Tryz.func130 (by kernel_rfl) rfl
    have hc := Tryz.slices_SortFunc enc (fun x => by rw [henc]; rfl) (fun x y => cfF L x.1 y.1) (orF_swo L) 130 #[.pointer (some ⟨gP, 0, none⟩)] g 0 c d w eg hcmp hH hgw (by omega)
    rw [hdn] at hc
    refine hc.mono ?_
    rintro e w' ⟨rfl, d', q, os, hp, hs, rfl⟩
    have hsz : d'.size = n := hp.1.trans hdn
    have hperm : d'.toList.Perm d.toList := by
      have h7 := hp.2.2
      have e1 : d'.extract 0 n = d' := by rw [← hsz]; simp
      have e2 : d.extract 0 n = d := by rw [← hdn]; simp
      rw [e1, e2] at h7
      exact h7
    refine ⟨rfl, d'.toList.map (·.1), by rw [← hd]; exact hperm.map _, ?_, ?_, sw_grown enc w g 0 q d' os⟩
    · rw [List.pairwise_map, List.pairwise_iff_getElem]
      intro i j hi hj hij
      have h7 := hs i j (Nat.zero_le _) hij (by rw [← hsz]; simpa using hj)
      rw [getElem!_pos d' j (by simpa using hj), getElem!_pos d' i (by simpa using hi)] at h7
      unfold ltOf at h7
      rw [decide_eq_false_iff_not, cf_lt] at h7
      simpa using h7
    · refine ⟨by rw [nums_len, List.length_map, Array.length_toList, hsz, Nat.mul_one], .inr ⟨g, c, putCells enc 0 d' cur, rfl, hb, sw_same enc w g 0 q d' os hh, h3, h4, by unfold putCells; rw [Array.size_mapIdx]; exact h5, ?_⟩⟩
      apply List.ext_getElem?
      intro j
      have hcur : n ≤ cur.size := by rw [h5]; omega
      by_cases hj : j < n
      · rw [List.getElem?_take_of_lt (by omega), Array.getElem?_toList]
        unfold putCells
        have hjc : j < cur.size := by omega
        rw [Array.getElem?_mapIdx, Array.getElem?_eq_getElem hjc, Option.map_some, if_pos ⟨Nat.zero_le _, by omega⟩, Nat.sub_zero, getElem!_pos d' j (by omega), henc]
        have hjd : j < d'.size := by omega
        simp [nums, hjd]
      · rw [List.getElem?_eq_none (by simp; omega), List.getElem?_eq_none (by rw [nums_len, List.length_map, Array.length_toList]; omega)]
end Go.Proofs.YtkmmlcnoeeaekaaGreatDoor
