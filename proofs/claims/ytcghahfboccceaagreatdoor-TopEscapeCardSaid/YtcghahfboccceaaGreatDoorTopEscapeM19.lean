/- Several texts in one: DomD, DomE. -/
import Derived.Test.YtcghahfboccceaaGreatDoorTopEscapeM18
/- Contracts of dom: a node by itself. -/
namespace Go.Proofs.YtcghahfboccceaaGreatDoor
open Go.RowKit
set_option linter.unusedVariables false
set_option linter.unusedSimpArgs false

theorem parent_calls (k : Int) (w : World) : Calls Tryz.prog 102 #[.int .i64 k] w fun e w' => e = .returned (.bool ((k == 1) || (k == 2))) ∧ w = w' := by
  cases h : (k == 1)
  · go_enter Tryz.func102, Tryz.ntmps102
    go_wp2_with fail
    go_ret
    exact ⟨rfl, rfl⟩
  · go_enter Tryz.func102, Tryz.ntmps102
    go_wp2_with fail
    go_ret
    exact ⟨rfl, rfl⟩
/-- A node has nothing that its kind has not: by kind, and by whether name, attributes, text, kids are empty. -/
def bareQ (k : Int) (a b c d : Bool) : Bool := ((k == 2) || (k == 5) || a) && ((k == 2) || b) && ((k == 3) || (k == 4) || c) && ((k == 1) || (k == 2) || d)
set_option maxRecDepth 100000 in
set_option maxHeartbeats 8000000 in
theorem bare_calls (k : Int) (name text : ByteArray) (aA kA : Option Addr) (an ac kn kc : Nat) (par : Int) (h1 : 1 ≤ k) (h2 : k ≤ 5) (w : World) :
    Calls Tryz.prog 69 #[.agg #[.int .i64 k, .string name, .slice aA an ac, .string text, .int .i64 par, .slice kA kn kc]] w fun e w' => e = .returned (.bool (bareQ k name.toList.isEmpty ((an : Int) == 0) text.toList.isEmpty ((kn : Int) == 0))) ∧ Below w.heap.size w w' := by
  have hb := below_alloc (Below.refl w.heap.size w) (.cells #[.int .i64 k, .string name, .slice aA an ac, .string text, .int .i64 par, .slice kA kn kc] 35)
  have hb := below_drewN hb 1
  have hk : k = 1 ∨ k = 2 ∨ k = 3 ∨ k = 4 ∨ k = 5 := by omega
  clear h1 h2
  rcases hk with rfl | rfl | rfl | rfl | rfl
  · skip
    cases hN : name.toList.isEmpty
    · skip
      go_enter Tryz.func69, Tryz.ntmps69
      go_upto_region 1 with fail
      go_quiet (fail)
      go_wp2_with (first | (go_at_call 102; refine (parent_calls _ _).mono ?_; rintro e w' ⟨rfl, rfl⟩))
      go_ret
      exact ⟨retB (by first | rfl | decide | simp [bareQ]), below_drewN (below_alloc (Below.refl w.heap.size w) _) _⟩
    · skip
      cases hA : ((an : Int) == 0)
      · skip
        go_enter Tryz.func69, Tryz.ntmps69
        go_upto_region 1 with fail
        go_quiet (fail)
        go_wp2_with (first | (go_at_call 102; refine (parent_calls _ _).mono ?_; rintro e w' ⟨rfl, rfl⟩))
        go_ret
        exact ⟨retB (by first | rfl | decide | simp [bareQ]), below_drewN (below_alloc (Below.refl w.heap.size w) _) _⟩
      · skip
        cases hT : text.toList.isEmpty
        · skip
          go_enter Tryz.func69, Tryz.ntmps69
          go_upto_region 1 with fail
          go_quiet (fail)
          go_wp2_with (first | (go_at_call 102; refine (parent_calls _ _).mono ?_; rintro e w' ⟨rfl, rfl⟩))
          go_ret
          exact ⟨retB (by first | rfl | decide | simp [bareQ]), below_drewN (below_alloc (Below.refl w.heap.size w) _) _⟩
        · skip
          go_enter Tryz.func69, Tryz.ntmps69
          go_upto_region 1 with fail
          go_quiet (fail)
          go_wp2_with (first | (go_at_call 102; refine (parent_calls _ _).mono ?_; rintro e w' ⟨rfl, rfl⟩))
          go_ret
          exact ⟨retB (by first | rfl | decide | simp [bareQ]), below_drewN (below_alloc (Below.refl w.heap.size w) _) _⟩
  · skip
    cases hT : text.toList.isEmpty
    · skip
      go_enter Tryz.func69, Tryz.ntmps69
      go_upto_region 1 with fail
      go_quiet (fail)
      go_wp2_with (first | (go_at_call 102; refine (parent_calls _ _).mono ?_; rintro e w' ⟨rfl, rfl⟩))
      go_ret
      exact ⟨retB (by first | rfl | decide | simp [bareQ]), below_drewN (below_alloc (Below.refl w.heap.size w) _) _⟩
    · skip
      go_enter Tryz.func69, Tryz.ntmps69
      go_upto_region 1 with fail
      go_quiet (fail)
      go_wp2_with (first | (go_at_call 102; refine (parent_calls _ _).mono ?_; rintro e w' ⟨rfl, rfl⟩))
      go_ret
      exact ⟨retB (by first | rfl | decide | simp [bareQ]), below_drewN (below_alloc (Below.refl w.heap.size w) _) _⟩
  · skip
    cases hN : name.toList.isEmpty
    · skip
      go_enter Tryz.func69, Tryz.ntmps69
      go_upto_region 1 with fail
      go_quiet (fail)
      go_wp2_with (first | (go_at_call 102; refine (parent_calls _ _).mono ?_; rintro e w' ⟨rfl, rfl⟩))
      go_ret
      exact ⟨retB (by first | rfl | decide | simp [bareQ]), below_drewN (below_alloc (Below.refl w.heap.size w) _) _⟩
    · skip
      cases hA : ((an : Int) == 0)
      · skip
        go_enter Tryz.func69, Tryz.ntmps69
        go_upto_region 1 with fail
        go_quiet (fail)
        go_wp2_with (first | (go_at_call 102; refine (parent_calls _ _).mono ?_; rintro e w' ⟨rfl, rfl⟩))
        go_ret
        exact ⟨retB (by first | rfl | decide | simp [bareQ]), below_drewN (below_alloc (Below.refl w.heap.size w) _) _⟩
      · skip
        cases hK : ((kn : Int) == 0)
        · skip
          go_enter Tryz.func69, Tryz.ntmps69
          go_upto_region 1 with fail
          go_quiet (fail)
          go_wp2_with (first | (go_at_call 102; refine (parent_calls _ _).mono ?_; rintro e w' ⟨rfl, rfl⟩))
          go_ret
          exact ⟨retB (by first | rfl | decide | simp [bareQ]), below_drewN (below_alloc (Below.refl w.heap.size w) _) _⟩
        · skip
          go_enter Tryz.func69, Tryz.ntmps69
          go_upto_region 1 with fail
          go_quiet (fail)
          go_wp2_with (first | (go_at_call 102; refine (parent_calls _ _).mono ?_; rintro e w' ⟨rfl, rfl⟩))
          go_ret
          exact ⟨retB (by first | rfl | decide | simp [bareQ]), below_drewN (below_alloc (Below.refl w.heap.size w) _) _⟩
  · skip
    cases hN : name.toList.isEmpty
    · skip
      go_enter Tryz.func69, Tryz.ntmps69
      go_upto_region 1 with fail
      go_quiet (fail)
      go_wp2_with (first | (go_at_call 102; refine (parent_calls _ _).mono ?_; rintro e w' ⟨rfl, rfl⟩))
      go_ret
      exact ⟨retB (by first | rfl | decide | simp [bareQ]), below_drewN (below_alloc (Below.refl w.heap.size w) _) _⟩
    · skip
      cases hA : ((an : Int) == 0)
      · skip
        go_enter Tryz.func69, Tryz.ntmps69
        go_upto_region 1 with fail
        go_quiet (fail)
        go_wp2_with (first | (go_at_call 102; refine (parent_calls _ _).mono ?_; rintro e w' ⟨rfl, rfl⟩))
        go_ret
        exact ⟨retB (by first | rfl | decide | simp [bareQ]), below_drewN (below_alloc (Below.refl w.heap.size w) _) _⟩
      · skip
        cases hK : ((kn : Int) == 0)
        · skip
          go_enter Tryz.func69, Tryz.ntmps69
          go_upto_region 1 with fail
          go_quiet (fail)
          go_wp2_with (first | (go_at_call 102; refine (parent_calls _ _).mono ?_; rintro e w' ⟨rfl, rfl⟩))
          go_ret
          exact ⟨retB (by first | rfl | decide | simp [bareQ]), below_drewN (below_alloc (Below.refl w.heap.size w) _) _⟩
        · skip
          go_enter Tryz.func69, Tryz.ntmps69
          go_upto_region 1 with fail
          go_quiet (fail)
          go_wp2_with (first | (go_at_call 102; refine (parent_calls _ _).mono ?_; rintro e w' ⟨rfl, rfl⟩))
          go_ret
          exact ⟨retB (by first | rfl | decide | simp [bareQ]), below_drewN (below_alloc (Below.refl w.heap.size w) _) _⟩
  · skip
    cases hA : ((an : Int) == 0)
    · skip
      go_enter Tryz.func69, Tryz.ntmps69
      go_upto_region 1 with fail
      go_quiet (fail)
      go_wp2_with (first | (go_at_call 102; refine (parent_calls _ _).mono ?_; rintro e w' ⟨rfl, rfl⟩))
      go_ret
      exact ⟨retB (by first | rfl | decide | simp [bareQ]), below_drewN (below_alloc (Below.refl w.heap.size w) _) _⟩
    · skip
      cases hT : text.toList.isEmpty
      · skip
        go_enter Tryz.func69, Tryz.ntmps69
        go_upto_region 1 with fail
        go_quiet (fail)
        go_wp2_with (first | (go_at_call 102; refine (parent_calls _ _).mono ?_; rintro e w' ⟨rfl, rfl⟩))
        go_ret
        exact ⟨retB (by first | rfl | decide | simp [bareQ]), below_drewN (below_alloc (Below.refl w.heap.size w) _) _⟩
      · skip
        cases hK : ((kn : Int) == 0)
        · skip
          go_enter Tryz.func69, Tryz.ntmps69
          go_upto_region 1 with fail
          go_quiet (fail)
          go_wp2_with (first | (go_at_call 102; refine (parent_calls _ _).mono ?_; rintro e w' ⟨rfl, rfl⟩))
          go_ret
          exact ⟨retB (by first | rfl | decide | simp [bareQ]), below_drewN (below_alloc (Below.refl w.heap.size w) _) _⟩
        · skip
          go_enter Tryz.func69, Tryz.ntmps69
          go_upto_region 1 with fail
          go_quiet (fail)
          go_wp2_with (first | (go_at_call 102; refine (parent_calls _ _).mono ?_; rintro e w' ⟨rfl, rfl⟩))
          go_ret
          exact ⟨retB (by first | rfl | decide | simp [bareQ]), below_drewN (below_alloc (Below.refl w.heap.size w) _) _⟩
end Go.Proofs.YtcghahfboccceaaGreatDoor
/- Contract of dom.one. -/
namespace Go.Proofs.YtcghahfboccceaaGreatDoor
open Go.RowKit
set_option linter.unusedVariables false
set_option linter.unusedSimpArgs false

theorem isEmpty_size (s : ByteArray) : s.toList.isEmpty = (s.size == 0) := by
  have e : s.toList.length = s.size := by rw [ByteArray.toList_eq]; simp
  cases h : s.toList with
  | nil => rw [h] at e; simp at e; rw [← e]; rfl
  | cons x r =>
    rw [h] at e
    simp only [List.length_cons] at e
    rw [← e]
    rfl
theorem bareQ_eq (x : NodeV) : bareQ x.kind x.name.toList.isEmpty ((x.attrs.length : Int) == 0) x.text.toList.isEmpty ((x.kids.length : Int) == 0) = bareP x := by
  have e : ∀ n : Nat, ((n : Int) == 0) = (n == 0) := fun n => by
    rw [Bool.eq_iff_iff]; simp
  unfold bareQ bareP
  rw [isEmpty_size, isEmpty_size, e, e]
set_option maxRecDepth 100000 in
set_option maxHeartbeats 8000000 in
theorem one_calls (x : NodeV) (B : Nat) (w : World) (h : NodeIn w B x) (hB : B ≤ w.heap.size) :
    Calls Tryz.prog 43 #[.agg #[.int .i64 x.kind, .string x.name, .slice x.attrsA x.attrs.length x.acap, .string x.text, .int .i64 x.parent, .slice x.kidsA x.kids.length x.kcap]] w fun e w' => e = .returned (.int .i64 (oneE x)) ∧ Below w.heap.size w w' := by
  obtain ⟨r, hr⟩ : ∃ r, r = oneE x := ⟨_, rfl⟩
  rw [← hr]
  unfold oneE at hr
  have hqb := bareQ_eq x
  have hX := h
  obtain ⟨k, name, aA, al, ac, text, par, kA, kl, kc⟩ := x
  simp only at hr hqb ⊢
  have h1 := hX.attrs
  have h2 := hX.an
  have h3 := hX.ac
  have h4 := hX.kn
  simp only at h1 h2 h3 h4
  clear hX h
  obtain ⟨q, hq⟩ : ∃ q, q = bareP ⟨k, name, aA, al, ac, text, par, kA, kl, kc⟩ := ⟨_, rfl⟩
  rw [← hq] at hr hqb
  clear hq
  have hb0 := below_alloc (Below.refl w.heap.size w) (.cells #[.int .i64 k, .string name, .slice aA al.length ac, .string text, .int .i64 par, .slice kA kl.length kc] 35)
  have HW0 := Lib.hid hb0
  have HBK := Lib.hid (Blk.new w 35 #[.int .i64 k, .string name, .slice aA al.length ac, .string text, .int .i64 par, .slice kA kl.length kc])
  have HA := Lib.hid (fun (ww : World) (hb : Below w.heap.size w ww) => attrs_calls aA al.length ac B al ww rfl h3 (h1.below hb hB) (Nat.le_trans hB hb.size) h2)
  have HB := Lib.hid hB
  obtain ⟨ae, hae⟩ : ∃ ae, ae = attrsE al := ⟨_, rfl⟩
  rw [← hae] at HA hr
  have HR := Lib.hid hr
  clear hr hae hb0 h1 h2 h3 hB
  obtain ⟨an, han⟩ : ∃ an, an = al.length := ⟨_, rfl⟩
  obtain ⟨kn, hkn⟩ : ∃ kn, kn = kl.length := ⟨_, rfl⟩
  rw [← han] at HW0 HBK HA hqb ⊢
  rw [← hkn] at HW0 HBK hqb h4 ⊢
  clear han hkn h4
  by_cases hk1 : k < 1
  · have hd1 : decide (k < 1) = true := decide_eq_true hk1
    have HN : Hid (r = 7) := by show _ = _; rw [HR.out, if_pos (.inl hk1)]
    clear hqb
    go_enter Tryz.func43, Tryz.ntmps43
    go_wp2_with fail
    go_ret
    exact ⟨by rw [HN.out]; rfl, HW0.out⟩
  · have hd1 : decide (k < 1) = false := decide_eq_false hk1
    by_cases hk5 : 5 < k
    · have hd5 : decide (5 < k) = true := decide_eq_true hk5
      have HN : Hid (r = 7) := by show _ = _; rw [HR.out, if_pos (.inr (.inl hk5))]
      clear hqb
      go_enter Tryz.func43, Tryz.ntmps43
      go_wp2_with fail
      go_ret
      exact ⟨by rw [HN.out]; rfl, HW0.out⟩
    · have hd5 : decide (5 < k) = false := decide_eq_false hk5
      have HBR := Lib.hid (bare_calls k name text aA kA an ac kn kc par (by omega) (by omega) (w.alloc (.cells #[.int .i64 k, .string name, .slice aA an ac, .string text, .int .i64 par, .slice kA kn kc] 35)))
      rw [hqb] at HBR
      clear hqb
      cases q
      · have HN : Hid (r = 7) := by show _ = _; rw [HR.out, if_pos (.inr (.inr rfl))]
        clear HR HA
        go_enter Tryz.func43, Tryz.ntmps43
        go_wp2_with (go_at_call 69; refine HBR.out.mono ?_; rintro e w1 ⟨rfl, hb1⟩)
        go_ret
        exact ⟨by rw [HN.out]; rfl, below_then HW0.out hb1⟩
      · have HR1 : Hid (r = if k = 2 ∧ nameP name = false then 3 else if ae ≠ 0 then ae else if 400 < text.size ∨ 400 < name.size then 2 else 0) := by
          show _ = _
          rw [HR.out, if_neg (fun h => by rcases h with h | h | h; exact hk1 h; exact hk5 h; cases h)]
        clear HR
        go_enter Tryz.func43, Tryz.ntmps43
        go_upto_region 3 with (go_at_call 69; refine HBR.out.mono ?_; rintro e w1 ⟨rfl, hb1⟩)
        have HBK1 := Lib.hid (HBK.out.below hb1 HBK.out.lt)
        have HW1 := Lib.hid (below_then HW0.out hb1)
        have d0 : w1.cell? ⟨w.heap.size, 0, none⟩ = some (.int .i64 k) := HBK1.out.cell 0
        have d1 : w1.cell? ⟨w.heap.size, 1, none⟩ = some (.string name) := HBK1.out.cell 1
        have d2 : w1.cell? ⟨w.heap.size, 2, none⟩ = some (.slice aA an ac) := HBK1.out.cell 2
        clear hb1 hd1 hd5 hk1 hk5
        by_cases hk2 : k = 2
        · have hke : (k == 2) = true := by simp [hk2]
          have HNM := Lib.hid (name_calls name w1)
          have HK2 := Lib.hid hk2
          clear hk2
          cases hnp : nameP name
          · rw [hnp] at HNM
            have HN : Hid (r = 3) := by show _ = _; rw [HR1.out, if_pos ⟨HK2.out, hnp⟩]
            clear hnp HR1
            go_wp2_with (first | (go_at_call 21; refine HNM.out.mono ?_; rintro e w2 ⟨rfl, hb2⟩; have HBK1 := Lib.hid (HBK1.out.below hb2 HBK1.out.lt); have HW1 := Lib.hid (below_then HW1.out hb2); have d2 : w2.cell? ⟨w.heap.size, 2, none⟩ = some (.slice aA an ac) := HBK1.out.cell 2; clear hb2))
            go_ret
            exact ⟨by rw [HN.out]; rfl, HW1.out⟩
          · rw [hnp] at HNM
            have HNP := Lib.hid hnp
            clear hnp
            by_cases ha : ae = 0
            · have hda : (ae != 0) = false := by simp [ha]
              by_cases ht : 400 < text.size
              · have hdt : decide ((400 : Int) < text.size) = true := by simp; omega
                have HN : Hid (r = 2) := by show _ = _; rw [HR1.out, if_neg (fun h => by rw [HNP.out] at h; cases h.2), if_neg (fun h => h ha), if_pos (.inl ht)]
                clear ha ht HR1
                go_wp2_with (first | (go_at_call 21; refine HNM.out.mono ?_; rintro e w2 ⟨rfl, hb2⟩; have HBK1 := Lib.hid (HBK1.out.below hb2 HBK1.out.lt); have HW1 := Lib.hid (below_then HW1.out hb2); have d2 : w2.cell? ⟨w.heap.size, 2, none⟩ = some (.slice aA an ac) := HBK1.out.cell 2; clear hb2) | (go_at_call 70; refine (HA.out _ HW1.out).mono ?_; rintro e w3 ⟨rfl, hb3⟩; have HBK1 := Lib.hid (HBK1.out.below hb3 HBK1.out.lt); have HW1 := Lib.hid (below_then HW1.out hb3); have e3 : w3.cell? ⟨w.heap.size, 3, none⟩ = some (.string text) := HBK1.out.cell 3; have e1 : w3.cell? ⟨w.heap.size, 1, none⟩ = some (.string name) := HBK1.out.cell 1; clear hb3))
                go_ret
                exact ⟨by rw [HN.out]; rfl, HW1.out⟩
              · have hdt : decide ((400 : Int) < text.size) = false := by simp; omega
                by_cases hm : 400 < name.size
                · have hdm : decide ((400 : Int) < name.size) = true := by simp; omega
                  have HN : Hid (r = 2) := by show _ = _; rw [HR1.out, if_neg (fun h => by rw [HNP.out] at h; cases h.2), if_neg (fun h => h ha), if_pos (.inr hm)]
                  clear ha ht hm HR1
                  go_wp2_with (first | (go_at_call 21; refine HNM.out.mono ?_; rintro e w2 ⟨rfl, hb2⟩; have HBK1 := Lib.hid (HBK1.out.below hb2 HBK1.out.lt); have HW1 := Lib.hid (below_then HW1.out hb2); have d2 : w2.cell? ⟨w.heap.size, 2, none⟩ = some (.slice aA an ac) := HBK1.out.cell 2; clear hb2) | (go_at_call 70; refine (HA.out _ HW1.out).mono ?_; rintro e w3 ⟨rfl, hb3⟩; have HBK1 := Lib.hid (HBK1.out.below hb3 HBK1.out.lt); have HW1 := Lib.hid (below_then HW1.out hb3); have e3 : w3.cell? ⟨w.heap.size, 3, none⟩ = some (.string text) := HBK1.out.cell 3; have e1 : w3.cell? ⟨w.heap.size, 1, none⟩ = some (.string name) := HBK1.out.cell 1; clear hb3))
                  go_ret
                  exact ⟨by rw [HN.out]; rfl, HW1.out⟩
                · have hdm : decide ((400 : Int) < name.size) = false := by simp; omega
                  have HN : Hid (r = 0) := by show _ = _; rw [HR1.out, if_neg (fun h => by rw [HNP.out] at h; cases h.2), if_neg (fun h => h ha), if_neg (by omega)]
                  clear ha ht hm HR1
                  go_wp2_with (first | (go_at_call 21; refine HNM.out.mono ?_; rintro e w2 ⟨rfl, hb2⟩; have HBK1 := Lib.hid (HBK1.out.below hb2 HBK1.out.lt); have HW1 := Lib.hid (below_then HW1.out hb2); have d2 : w2.cell? ⟨w.heap.size, 2, none⟩ = some (.slice aA an ac) := HBK1.out.cell 2; clear hb2) | (go_at_call 70; refine (HA.out _ HW1.out).mono ?_; rintro e w3 ⟨rfl, hb3⟩; have HBK1 := Lib.hid (HBK1.out.below hb3 HBK1.out.lt); have HW1 := Lib.hid (below_then HW1.out hb3); have e3 : w3.cell? ⟨w.heap.size, 3, none⟩ = some (.string text) := HBK1.out.cell 3; have e1 : w3.cell? ⟨w.heap.size, 1, none⟩ = some (.string name) := HBK1.out.cell 1; clear hb3))
                  go_ret
                  exact ⟨by rw [HN.out]; rfl, HW1.out⟩
            · have hda : (ae != 0) = true := by simp [ha]
              have HN : Hid (r = ae) := by show _ = _; rw [HR1.out, if_neg (fun h => by rw [HNP.out] at h; cases h.2), if_pos ha]
              clear ha HR1
              go_wp2_with (first | (go_at_call 21; refine HNM.out.mono ?_; rintro e w2 ⟨rfl, hb2⟩; have HBK1 := Lib.hid (HBK1.out.below hb2 HBK1.out.lt); have HW1 := Lib.hid (below_then HW1.out hb2); have d2 : w2.cell? ⟨w.heap.size, 2, none⟩ = some (.slice aA an ac) := HBK1.out.cell 2; clear hb2) | (go_at_call 70; refine (HA.out _ HW1.out).mono ?_; rintro e w3 ⟨rfl, hb3⟩; have HBK1 := Lib.hid (HBK1.out.below hb3 HBK1.out.lt); have HW1 := Lib.hid (below_then HW1.out hb3); have e3 : w3.cell? ⟨w.heap.size, 3, none⟩ = some (.string text) := HBK1.out.cell 3; have e1 : w3.cell? ⟨w.heap.size, 1, none⟩ = some (.string name) := HBK1.out.cell 1; clear hb3))
              go_ret
              exact ⟨by rw [HN.out]; rfl, HW1.out⟩
        · have hke : (k == 2) = false := by simp [hk2]
          have HK2 := Lib.hid hk2
          clear hk2
          by_cases ha : ae = 0
          · have hda : (ae != 0) = false := by simp [ha]
            by_cases ht : 400 < text.size
            · have hdt : decide ((400 : Int) < text.size) = true := by simp; omega
              have HN : Hid (r = 2) := by show _ = _; rw [HR1.out, if_neg (fun h => HK2.out h.1), if_neg (fun h => h ha), if_pos (.inl ht)]
              clear ha ht HR1
              go_wp2_with (first | (go_at_call 70; refine (HA.out _ HW1.out).mono ?_; rintro e w3 ⟨rfl, hb3⟩; have HBK1 := Lib.hid (HBK1.out.below hb3 HBK1.out.lt); have HW1 := Lib.hid (below_then HW1.out hb3); have e3 : w3.cell? ⟨w.heap.size, 3, none⟩ = some (.string text) := HBK1.out.cell 3; have e1 : w3.cell? ⟨w.heap.size, 1, none⟩ = some (.string name) := HBK1.out.cell 1; clear hb3))
              go_ret
              exact ⟨by rw [HN.out]; rfl, HW1.out⟩
            · have hdt : decide ((400 : Int) < text.size) = false := by simp; omega
              by_cases hm : 400 < name.size
              · have hdm : decide ((400 : Int) < name.size) = true := by simp; omega
                have HN : Hid (r = 2) := by show _ = _; rw [HR1.out, if_neg (fun h => HK2.out h.1), if_neg (fun h => h ha), if_pos (.inr hm)]
                clear ha ht hm HR1
                go_wp2_with (first | (go_at_call 70; refine (HA.out _ HW1.out).mono ?_; rintro e w3 ⟨rfl, hb3⟩; have HBK1 := Lib.hid (HBK1.out.below hb3 HBK1.out.lt); have HW1 := Lib.hid (below_then HW1.out hb3); have e3 : w3.cell? ⟨w.heap.size, 3, none⟩ = some (.string text) := HBK1.out.cell 3; have e1 : w3.cell? ⟨w.heap.size, 1, none⟩ = some (.string name) := HBK1.out.cell 1; clear hb3))
                go_ret
                exact ⟨by rw [HN.out]; rfl, HW1.out⟩
              · have hdm : decide ((400 : Int) < name.size) = false := by simp; omega
                have HN : Hid (r = 0) := by show _ = _; rw [HR1.out, if_neg (fun h => HK2.out h.1), if_neg (fun h => h ha), if_neg (by omega)]
                clear ha ht hm HR1
                go_wp2_with (first | (go_at_call 70; refine (HA.out _ HW1.out).mono ?_; rintro e w3 ⟨rfl, hb3⟩; have HBK1 := Lib.hid (HBK1.out.below hb3 HBK1.out.lt); have HW1 := Lib.hid (below_then HW1.out hb3); have e3 : w3.cell? ⟨w.heap.size, 3, none⟩ = some (.string text) := HBK1.out.cell 3; have e1 : w3.cell? ⟨w.heap.size, 1, none⟩ = some (.string name) := HBK1.out.cell 1; clear hb3))
                go_ret
                exact ⟨by rw [HN.out]; rfl, HW1.out⟩
          · have hda : (ae != 0) = true := by simp [ha]
            have HN : Hid (r = ae) := by show _ = _; rw [HR1.out, if_neg (fun h => HK2.out h.1), if_pos ha]
            clear ha HR1
            go_wp2_with (first | (go_at_call 70; refine (HA.out _ HW1.out).mono ?_; rintro e w3 ⟨rfl, hb3⟩; have HBK1 := Lib.hid (HBK1.out.below hb3 HBK1.out.lt); have HW1 := Lib.hid (below_then HW1.out hb3); have e3 : w3.cell? ⟨w.heap.size, 3, none⟩ = some (.string text) := HBK1.out.cell 3; have e1 : w3.cell? ⟨w.heap.size, 1, none⟩ = some (.string name) := HBK1.out.cell 1; clear hb3))
            go_ret
            exact ⟨by rw [HN.out]; rfl, HW1.out⟩
end Go.Proofs.YtcghahfboccceaaGreatDoor
