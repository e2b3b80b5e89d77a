/- Several texts in one: DomC. -/
import Derived.Test.YtcghahfboccceaaGreatDoorTopEscapeM17
import Derived.Test.YtcghahfboccceaaGreatDoorTopEscapeM12
import Derived.Deep.QuietTactic
import Derived.BigQuiet
import Derived.Deep.Cut
import Derived.Deep.CutRange
/- Contracts of dom: attributes; a node by itself. -/
namespace Go.Proofs.YtcghahfboccceaaGreatDoor
open Go.RowKit
set_option linter.unusedVariables false
set_option linter.unusedSimpArgs false

theorem Holds.left {w : World} {B : Nat} {A : Option Addr} {xs ys : List Value} (h : Holds w B A (xs ++ ys)) : Holds w B A xs := fun hn => by
  obtain ⟨b, off, e, hlt, hc⟩ := h (by rw [List.length_append]; omega)
  refine ⟨b, off, e, hlt, fun j hj => ?_⟩
  rw [hc j (by rw [List.length_append]; omega), List.getD_eq_getElem?_getD, List.getD_eq_getElem?_getD, List.getElem?_append_left hj]
theorem attrs_take {w : World} {B : Nat} {A : Option Addr} {l : List (ByteArray × ByteArray)} (h : Holds w B A (l.flatMap attrF)) (k : Nat) : Holds w B A ((l.take k).flatMap attrF) := by
  have e : l.flatMap attrF = (l.take k).flatMap attrF ++ (l.drop k).flatMap attrF := by rw [← List.flatMap_append, List.take_append_drop]
  rw [e] at h
  exact h.left
set_option maxRecDepth 100000 in
set_option maxHeartbeats 2000000 in
theorem attrs_calls (A : Option Addr) (n c B : Nat) (l : List (ByteArray × ByteArray)) (w : World) (hn : l.length = n) (hc : n ≤ c) (h : Holds w B A (l.flatMap attrF)) (hB : B ≤ w.heap.size) (hm : n ≤ 140737488355328) :
    Calls Tryz.prog 70 #[.slice A n c] w fun e w' => e = .returned (.int .i64 (attrsE l)) ∧ Below w.heap.size w w' := by
  subst hn
  have H := Lib.hid h
  have HB := Lib.hid hB
  obtain ⟨r, hr⟩ : ∃ r, r = attrsE l := ⟨_, rfl⟩
  rw [← hr]
  have HR := Lib.hid hr
  clear h hB hr
  by_cases h12 : l.length ≤ 12
  · have hd : decide ((12 : Int) < l.length) = false := by simp; omega
    have HR1 : Hid (r = firstE (attrE l) l.length) := by show _ = _; rw [HR.out]; unfold attrsE; rw [if_neg (by omega)]
    clear HR
    go_enter Tryz.func70, Tryz.ntmps70
    go_wp2_with fail
    go_loopw [10] (fun i wr => ∃ k : Nat, k ≤ l.length ∧ i = .int .i64 k ∧ Hid (∀ j, j < k → attrE l j = 0) ∧ Below w.heap.size w wr) (fun i _ => l.length - (intOf i).toNat)
    case atStart => exact ⟨0, Nat.zero_le _, rfl, fun j hj => absurd hj (by omega), Below.refl _ _⟩
    case round =>
      obtain ⟨k, hk, rfl, HK, hbel⟩ := hrel
      by_cases hlt : k < l.length
      · obtain ⟨b, off, hA, hb, c0, c1⟩ := attr_at (H.out.below hbel HB.out) hlt
        obtain ⟨x, hx⟩ : ∃ x, x = at2 l k := ⟨_, rfl⟩
        rw [← hx] at c0 c1
        have HX := Lib.hid hx
        obtain ⟨x1, x2⟩ := x
        have hbs := hbel.size
        have HAT : Hid (r = firstE (attrE l) l.length) := HR1
        subst hA
        clear hx
        have hkc : k ≤ c := by omega
        have hlen : (l.take k).length = k := by rw [List.length_take]; omega
        have HL := Lib.hid hlen
        have hb0 := below_alloc (Below.refl wr.heap.size wr) (.cells #[.string x1, .string x2] 91)
        have HW := Lib.hid (below_then hbel hb0)
        have HA := Lib.hid (attrName_calls x1 (wr.alloc (.cells #[.string x1, .string x2] 91)))
        have HC := Lib.hid (Blk.new wr 91 #[.string x1, .string x2])
        have HXX : Hid ((l.getD k (ByteArray.empty, ByteArray.empty)) = (x1, x2)) := HX.out.symm
        clear hlen hb0
        cases hq1 : attrNameP x1
        · have HN : Hid (r = 3) := by
            have e : attrE l k = 3 := by unfold attrE; rw [HXX.out, hq1]; rfl
            show _ = _
            rw [HR1.out, firstE_at HK.out (by rw [e]; decide) hlt, e]
          rw [hq1] at HA
          clear hq1
          go_wp2_with (go_at_call 103; refine HA.out.mono ?_; rintro e w1 ⟨rfl, hb1⟩)
          go_ret
          exact ⟨by rw [HN.out]; rfl, below_then HW.out hb1⟩
        · rw [hq1] at HA
          have HQ1 := Lib.hid hq1
          clear hq1
          by_cases h4 : 400 < x2.size
          · have hd4 : decide ((400 : Int) < x2.size) = true := by simp; omega
            have HN : Hid (r = 2) := by
              have e : attrE l k = 2 := by unfold attrE; rw [HXX.out, HQ1.out, if_pos h4]; rfl
              show _ = _
              rw [HR1.out, firstE_at HK.out (by rw [e]; decide) hlt, e]
            clear h4
            go_wp2_with (go_at_call 103; refine HA.out.mono ?_; rintro e w1 ⟨rfl, hb1⟩; have HC := Lib.hid (HC.out.below hb1 HC.out.lt); have c2 : w1.cell? ⟨wr.heap.size, 1, none⟩ = some (.string x2) := HC.out.cell 1)
            go_ret
            exact ⟨by rw [HN.out]; rfl, below_then HW.out hb1⟩
          · have hd4 : decide ((400 : Int) < x2.size) = false := by simp; omega
            by_cases h5 : 0 ≤ findP (l.take k) x1 0
            · have hd5 : decide (0 ≤ findP (l.take k) x1 0) = true := decide_eq_true h5
              have HN : Hid (r = 3) := by
                have e : attrE l k = 3 := by unfold attrE; rw [HXX.out, HQ1.out, if_neg h4, if_pos h5]; rfl
                show _ = _
                rw [HR1.out, firstE_at HK.out (by rw [e]; decide) hlt, e]
              clear h4 h5
              go_upto_region 10 with (go_at_call 103; refine HA.out.mono ?_; rintro e w1 ⟨rfl, hb1⟩; have HC := Lib.hid (HC.out.below hb1 HC.out.lt); have HW := Lib.hid (below_then HW.out hb1); have HW1 := Lib.hid (below_then (below_alloc (Below.refl wr.heap.size wr) _) hb1); have c2 : w1.cell? ⟨wr.heap.size, 1, none⟩ = some (.string x2) := HC.out.cell 1; have c3 : w1.cell? ⟨wr.heap.size, 0, none⟩ = some (.string x1) := HC.out.cell 0)
              have HF := Lib.hid (fun (ww : World) (hb : Below wr.heap.size wr ww) => find_calls (some ⟨b, off, none⟩) k c B (l.take k) x1 ww HL.out ((attrs_take H.out k).below (hbel.trans (hb.mono hbs)) HB.out) (Nat.le_trans HB.out (Nat.le_trans hbs hb.size)) (by omega))
              have mixed : Tryz.prog.follows .mixedOrders = true := by kernel_rfl
              have hS0 : (fun w' : World => w'.cell? ⟨wr.heap.size, 0, none⟩ = some (.string x1)) (World.drew w1) := c3
              refine wp_region_noPanic ?_
              refine region_M (S := fun w' => w'.cell? ⟨wr.heap.size, 0, none⟩ = some (.string x1)) (T := []) (by kernel_rfl) ?_
              refine anyM_free (i := 0) (oi := { dst := some 26, op := _, type := _, pos := _, after := _, guard := _ }) (v := ?_) rfl (by kernel_rfl) (fun _ _ _ h => h) (Or.inl ⟨by kernel_rfl, ?_⟩) (fun _ => hS0) ?_
              rotate_left 1
              · (intro w hSw; (try dsimp only at hSw); go_simp; try with_reducible rfl)
              try simp only [Act.put, Array.toArray_toList, List.setIfInBounds_toArray, List.set_cons_zero, List.set_cons_succ]
              refine anyM_free (i := 1) (oi := { dst := some 27, op := _, type := _, pos := _, after := _, guard := _ }) (v := ?_) rfl (by kernel_rfl) (fun _ _ _ h => h) (Or.inl ⟨by kernel_rfl, ?_⟩) (fun _ => hS0) ?_
              rotate_left 1
              · (intro w hSw; (try dsimp only at hSw); go_simp; try with_reducible rfl)
              try simp only [Act.put, Array.toArray_toList, List.setIfInBounds_toArray, List.set_cons_zero, List.set_cons_succ]
              refine anyM_free (i := 2) (oi := { dst := some 28, op := _, type := _, pos := _, after := _, guard := _ }) (v := ?_) rfl (by kernel_rfl) (fun _ _ _ h => h) (Or.inl ⟨by kernel_rfl, ?_⟩) (fun _ => hS0) ?_
              rotate_left 1
              · (intro w hSw; (try dsimp only at hSw); go_simp; try with_reducible rfl)
              try simp only [Act.put, Array.toArray_toList, List.setIfInBounds_toArray, List.set_cons_zero, List.set_cons_succ]
              refine anyM_free (i := 3) (oi := { dst := some 29, op := _, type := _, pos := _, after := _, guard := _ }) (v := ?_) rfl (by kernel_rfl) (fun _ _ _ h => h) (Or.inl ⟨by kernel_rfl, ?_⟩) (fun _ => hS0) ?_
              rotate_left 1
              · (intro w hSw; (try dsimp only at hSw); go_simp; try with_reducible rfl)
              try simp only [Act.put, Array.toArray_toList, List.setIfInBounds_toArray, List.set_cons_zero, List.set_cons_succ]
              refine anyM_take (i := 4) (oi := { dst := some 30, op := _, type := _, pos := _, after := _, guard := _ }) (v := ?_) rfl (by kernel_rfl) (fun _ _ _ h => h) (Or.inl ⟨by kernel_rfl, ?_⟩) hS0 ?_
              rotate_left 1
              · (intro w hSw; (try dsimp only at hSw); go_simp; try with_reducible rfl)
              try simp only [Act.put, Array.toArray_toList, List.setIfInBounds_toArray, List.set_cons_zero, List.set_cons_succ]
              refine anyM_one (i := 5) (by kernel_rfl) rfl (fun K hK => ?_)
              go_simp
              refine (HF.out _ (by first | exact HW1.out | exact below_drewN HW1.out 1)).mono ?_
              rintro e w2 ⟨rfl, hb2⟩
              have HW2 : Hid (Below w.heap.size w w2) := below_then (below_drewN HW.out 1) hb2
              have hS0 : (fun w' : World => w'.cell? ⟨wr.heap.size, 0, none⟩ = some (.string x1)) w2 := (HC.out.below (below_then (below_drewN (Below.refl w1.heap.size w1) 1) hb2) HC.out.lt).cell 0
              clear hb2
              refine hK.out _ _ (fun _ => hS0) ?_
              clear hK K
              try simp only [Act.put, Array.toArray_toList, List.setIfInBounds_toArray, List.set_cons_zero, List.set_cons_succ]
              refine anyM_free (i := 6) (oi := { dst := some 32, op := _, type := _, pos := _, after := _, guard := _ }) (v := ?_) rfl (by kernel_rfl) (fun _ _ _ h => h) (Or.inl ⟨by kernel_rfl, ?_⟩) (fun _ => hS0) ?_
              rotate_left 1
              · (intro w hSw; (try dsimp only at hSw); go_simp; try with_reducible rfl)
              try simp only [Act.put, Array.toArray_toList, List.setIfInBounds_toArray, List.set_cons_zero, List.set_cons_succ]
              refine anyM_free (i := 7) (oi := { dst := some 25, op := _, type := _, pos := _, after := _, guard := _ }) (v := ?_) rfl (by kernel_rfl) (fun _ _ _ h => h) (Or.inl ⟨by kernel_rfl, ?_⟩) (fun _ => hS0) ?_
              rotate_left 1
              · (intro w hSw; (try dsimp only at hSw); go_simp; try with_reducible rfl)
              try simp only [Act.put, Array.toArray_toList, List.setIfInBounds_toArray, List.set_cons_zero, List.set_cons_succ]
              refine anyM_done (by kernel_rfl) ?_ _
              refine NoPanic.normal ?_
              go_wp2_with fail
              go_ret
              exact ⟨by rw [HN.out]; rfl, HW2.out⟩
            · have hd5 : decide (0 ≤ findP (l.take k) x1 0) = false := decide_eq_false h5
              have HN : Hid (∀ j, j < k + 1 → attrE l j = 0) := fun j hj => by
                by_cases ej : j = k
                · subst ej; unfold attrE; rw [HXX.out, HQ1.out, if_neg h4, if_neg h5]; rfl
                · exact HK.out j (by omega)
              clear h4 h5
              go_upto_region 10 with (go_at_call 103; refine HA.out.mono ?_; rintro e w1 ⟨rfl, hb1⟩; have HC := Lib.hid (HC.out.below hb1 HC.out.lt); have HW := Lib.hid (below_then HW.out hb1); have HW1 := Lib.hid (below_then (below_alloc (Below.refl wr.heap.size wr) _) hb1); have c2 : w1.cell? ⟨wr.heap.size, 1, none⟩ = some (.string x2) := HC.out.cell 1; have c3 : w1.cell? ⟨wr.heap.size, 0, none⟩ = some (.string x1) := HC.out.cell 0)
              have HF := Lib.hid (fun (ww : World) (hb : Below wr.heap.size wr ww) => find_calls (some ⟨b, off, none⟩) k c B (l.take k) x1 ww HL.out ((attrs_take H.out k).below (hbel.trans (hb.mono hbs)) HB.out) (Nat.le_trans HB.out (Nat.le_trans hbs hb.size)) (by omega))
              have mixed : Tryz.prog.follows .mixedOrders = true := by kernel_rfl
              have hS0 : (fun w' : World => w'.cell? ⟨wr.heap.size, 0, none⟩ = some (.string x1)) (World.drew w1) := c3
              refine wp_region_noPanic ?_
              refine region_M (S := fun w' => w'.cell? ⟨wr.heap.size, 0, none⟩ = some (.string x1)) (T := []) (by kernel_rfl) ?_
              refine anyM_free (i := 0) (oi := { dst := some 26, op := _, type := _, pos := _, after := _, guard := _ }) (v := ?_) rfl (by kernel_rfl) (fun _ _ _ h => h) (Or.inl ⟨by kernel_rfl, ?_⟩) (fun _ => hS0) ?_
              rotate_left 1
              · (intro w hSw; (try dsimp only at hSw); go_simp; try with_reducible rfl)
              try simp only [Act.put, Array.toArray_toList, List.setIfInBounds_toArray, List.set_cons_zero, List.set_cons_succ]
              refine anyM_free (i := 1) (oi := { dst := some 27, op := _, type := _, pos := _, after := _, guard := _ }) (v := ?_) rfl (by kernel_rfl) (fun _ _ _ h => h) (Or.inl ⟨by kernel_rfl, ?_⟩) (fun _ => hS0) ?_
              rotate_left 1
              · (intro w hSw; (try dsimp only at hSw); go_simp; try with_reducible rfl)
              try simp only [Act.put, Array.toArray_toList, List.setIfInBounds_toArray, List.set_cons_zero, List.set_cons_succ]
              refine anyM_free (i := 2) (oi := { dst := some 28, op := _, type := _, pos := _, after := _, guard := _ }) (v := ?_) rfl (by kernel_rfl) (fun _ _ _ h => h) (Or.inl ⟨by kernel_rfl, ?_⟩) (fun _ => hS0) ?_
              rotate_left 1
              · (intro w hSw; (try dsimp only at hSw); go_simp; try with_reducible rfl)
              try simp only [Act.put, Array.toArray_toList, List.setIfInBounds_toArray, List.set_cons_zero, List.set_cons_succ]
              refine anyM_free (i := 3) (oi := { dst := some 29, op := _, type := _, pos := _, after := _, guard := _ }) (v := ?_) rfl (by kernel_rfl) (fun _ _ _ h => h) (Or.inl ⟨by kernel_rfl, ?_⟩) (fun _ => hS0) ?_
              rotate_left 1
              · (intro w hSw; (try dsimp only at hSw); go_simp; try with_reducible rfl)
              try simp only [Act.put, Array.toArray_toList, List.setIfInBounds_toArray, List.set_cons_zero, List.set_cons_succ]
              refine anyM_take (i := 4) (oi := { dst := some 30, op := _, type := _, pos := _, after := _, guard := _ }) (v := ?_) rfl (by kernel_rfl) (fun _ _ _ h => h) (Or.inl ⟨by kernel_rfl, ?_⟩) hS0 ?_
              rotate_left 1
              · (intro w hSw; (try dsimp only at hSw); go_simp; try with_reducible rfl)
              try simp only [Act.put, Array.toArray_toList, List.setIfInBounds_toArray, List.set_cons_zero, List.set_cons_succ]
              refine anyM_one (i := 5) (by kernel_rfl) rfl (fun K hK => ?_)
              go_simp
              refine (HF.out _ (by first | exact HW1.out | exact below_drewN HW1.out 1)).mono ?_
              rintro e w2 ⟨rfl, hb2⟩
              have HW2 : Hid (Below w.heap.size w w2) := below_then (below_drewN HW.out 1) hb2
              have hS0 : (fun w' : World => w'.cell? ⟨wr.heap.size, 0, none⟩ = some (.string x1)) w2 := (HC.out.below (below_then (below_drewN (Below.refl w1.heap.size w1) 1) hb2) HC.out.lt).cell 0
              clear hb2
              refine hK.out _ _ (fun _ => hS0) ?_
              clear hK K
              try simp only [Act.put, Array.toArray_toList, List.setIfInBounds_toArray, List.set_cons_zero, List.set_cons_succ]
              refine anyM_free (i := 6) (oi := { dst := some 32, op := _, type := _, pos := _, after := _, guard := _ }) (v := ?_) rfl (by kernel_rfl) (fun _ _ _ h => h) (Or.inl ⟨by kernel_rfl, ?_⟩) (fun _ => hS0) ?_
              rotate_left 1
              · (intro w hSw; (try dsimp only at hSw); go_simp; try with_reducible rfl)
              try simp only [Act.put, Array.toArray_toList, List.setIfInBounds_toArray, List.set_cons_zero, List.set_cons_succ]
              refine anyM_free (i := 7) (oi := { dst := some 25, op := _, type := _, pos := _, after := _, guard := _ }) (v := ?_) rfl (by kernel_rfl) (fun _ _ _ h => h) (Or.inl ⟨by kernel_rfl, ?_⟩) (fun _ => hS0) ?_
              rotate_left 1
              · (intro w hSw; (try dsimp only at hSw); go_simp; try with_reducible rfl)
              try simp only [Act.put, Array.toArray_toList, List.setIfInBounds_toArray, List.set_cons_zero, List.set_cons_succ]
              refine anyM_done (by kernel_rfl) ?_ _
              refine NoPanic.normal ?_
              go_wp2_with fail
              go_round
              case rel => exact ⟨k + 1, by omega, by go_num, HN.out, HW2.out⟩
              case measure => simp [intOf]; omega
      · have e : k = l.length := by omega
        subst e
        have HN : Hid (r = 0) := by show _ = _; rw [HR1.out]; exact firstE_none HK.out
        go_wp2_with fail
        go_ret
        exact ⟨by rw [HN.out]; rfl, hbel⟩
  · have hd : decide ((12 : Int) < l.length) = true := by simp; omega
    have HR1 : Hid (r = 2) := by show _ = _; rw [HR.out]; unfold attrsE; rw [if_pos (by omega)]
    clear HR
    go_enter Tryz.func70, Tryz.ntmps70
    go_wp2_with fail
    go_ret
    exact ⟨by rw [HR1.out]; rfl, Below.refl _ _⟩
end Go.Proofs.YtcghahfboccceaaGreatDoor
