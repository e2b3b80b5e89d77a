/- Several texts in one: DomE, DomF, PropZ. -/
import Derived.Test.YtkmmlcnoeeaekaaGreatDoorBoxesMakeM7
import Derived.Test.YtkmmlcnoeeaekaaGreatDoorBoxesMakeM4
import Derived.Laws.CopyOwn
/- Contract of dom.one. -/
namespace Go.Proofs.YtkmmlcnoeeaekaaGreatDoor
open Go.RowKit
set_option linter.unusedVariables false
set_option linter.unusedSimpArgs false

theorem isEmpty_size (s : ByteArray) : s.toList.isEmpty = (s.size == 0) := by
  have e : s.toList.length = s.size := by rw [ByteArray.toList_eq]; simp
  cases h : s.toList with
  | nil => rw [h] at e; simp at e; rw [← e]; rfl
  | cons x r =>
    rw [h] at e
    simp only [List.length_cons] at e
    rw [← e]
    rfl
theorem bareQ_eq (x : NodeV) : bareQ x.kind x.name.toList.isEmpty ((x.attrs.length : Int) == 0) x.text.toList.isEmpty ((x.kids.length : Int) == 0) = bareP x := by
  have e : ∀ n : Nat, ((n : Int) == 0) = (n == 0) := fun n => by
    rw [Bool.eq_iff_iff]; simp
  unfold bareQ bareP
  rw [isEmpty_size, isEmpty_size, e, e]
set_option maxRecDepth 100000 in
set_option maxHeartbeats 8000000 in
theorem one_calls (x : NodeV) (B : Nat) (w : World) (h : NodeIn w B x) (hB : B ≤ w.heap.size) :
    Calls Tryz.prog 57 #[.agg #[.int .i64 x.kind, .string x.name, .slice x.attrsA x.attrs.length x.acap, .string x.text, .int .i64 x.parent, .slice x.kidsA x.kids.length x.kcap]] w fun e w' => e = .returned (.int .i64 (oneE x)) ∧ Below w.heap.size w w' := by
  obtain ⟨r, hr⟩ : ∃ r, r = oneE x := ⟨_, rfl⟩
  rw [← hr]
  unfold oneE at hr
  have hqb := bareQ_eq x
  have hX := h
  obtain ⟨k, name, aA, al, ac, text, par, kA, kl, kc⟩ := x
  simp only at hr hqb ⊢
  have h1 := hX.attrs
  have h2 := hX.an
  have h3 := hX.ac
  have h4 := hX.kn
  simp only at h1 h2 h3 h4
  clear hX h
  obtain ⟨q, hq⟩ : ∃ q, q = bareP ⟨k, name, aA, al, ac, text, par, kA, kl, kc⟩ := ⟨_, rfl⟩
  rw [← hq] at hr hqb
  clear hq
  have hb0 := below_alloc (Below.refl w.heap.size w) (.cells #[.int .i64 k, .string name, .slice aA al.length ac, .string text, .int .i64 par, .slice kA kl.length kc] 117)
  have HW0 := Lib.hid hb0
  have HBK := Lib.hid (Blk.new w 117 #[.int .i64 k, .string name, .slice aA al.length ac, .string text, .int .i64 par, .slice kA kl.length kc])
  have HA := Lib.hid (fun (ww : World) (hb : Below w.heap.size w ww) => attrs_calls aA al.length ac B al ww rfl h3 (h1.below hb hB) (Nat.le_trans hB hb.size) h2)
  have HB := Lib.hid hB
  obtain ⟨ae, hae⟩ : ∃ ae, ae = attrsE al := ⟨_, rfl⟩
  rw [← hae] at HA hr
  have HR := Lib.hid hr
  clear hr hae hb0 h1 h2 h3 hB
  obtain ⟨an, han⟩ : ∃ an, an = al.length := ⟨_, rfl⟩
  obtain ⟨kn, hkn⟩ : ∃ kn, kn = kl.length := ⟨_, rfl⟩
  rw [← han] at HW0 HBK HA hqb ⊢
  rw [← hkn] at HW0 HBK hqb h4 ⊢
  clear han hkn h4
  by_cases hk1 : k < 1
  · have hd1 : decide (k < 1) = true := decide_eq_true hk1
    have HN : Hid (r = 7) := by show _ = _; rw [HR.out, if_pos (.inl hk1)]
    clear hqb
    go_enter Tryz.func57, Tryz.ntmps57
    go_wp2_with fail
    go_ret
    exact ⟨by rw [HN.out]; rfl, HW0.out⟩
  · have hd1 : decide (k < 1) = false := decide_eq_false hk1
    by_cases hk5 : 5 < k
    · have hd5 : decide (5 < k) = true := decide_eq_true hk5
      have HN : Hid (r = 7) := by show _ = _; rw [HR.out, if_pos (.inr (.inl hk5))]
      clear hqb
      go_enter Tryz.func57, Tryz.ntmps57
      go_wp2_with fail
      go_ret
      exact ⟨by rw [HN.out]; rfl, HW0.out⟩
    · have hd5 : decide (5 < k) = false := decide_eq_false hk5
      have HBR := Lib.hid (bare_calls k name text aA kA an ac kn kc par (by omega) (by omega) (w.alloc (.cells #[.int .i64 k, .string name, .slice aA an ac, .string text, .int .i64 par, .slice kA kn kc] 117)))
      rw [hqb] at HBR
      clear hqb
      cases q
      · have HN : Hid (r = 7) := by show _ = _; rw [HR.out, if_pos (.inr (.inr rfl))]
        clear HR HA
        go_enter Tryz.func57, Tryz.ntmps57
        go_wp2_with (go_at_call 96; refine HBR.out.mono ?_; rintro e w1 ⟨rfl, hb1⟩)
        go_ret
        exact ⟨by rw [HN.out]; rfl, below_then HW0.out hb1⟩
      · have HR1 : Hid (r = if k = 2 ∧ nameP name = false then 3 else if ae ≠ 0 then ae else if 400 < text.size ∨ 400 < name.size then 2 else 0) := by
          show _ = _
          rw [HR.out, if_neg (fun h => by rcases h with h | h | h; exact hk1 h; exact hk5 h; cases h)]
        clear HR
        go_enter Tryz.func57, Tryz.ntmps57
        go_upto_region 3 with (go_at_call 96; refine HBR.out.mono ?_; rintro e w1 ⟨rfl, hb1⟩)
        have HBK1 := Lib.hid (HBK.out.below hb1 HBK.out.lt)
        have HW1 := Lib.hid (below_then HW0.out hb1)
        have d0 : w1.cell? ⟨w.heap.size, 0, none⟩ = some (.int .i64 k) := HBK1.out.cell 0
        have d1 : w1.cell? ⟨w.heap.size, 1, none⟩ = some (.string name) := HBK1.out.cell 1
        have d2 : w1.cell? ⟨w.heap.size, 2, none⟩ = some (.slice aA an ac) := HBK1.out.cell 2
        clear hb1 hd1 hd5 hk1 hk5
        by_cases hk2 : k = 2
        · have hke : (k == 2) = true := by simp [hk2]
          have HNM := Lib.hid (name_calls name w1)
          have HK2 := Lib.hid hk2
          clear hk2
          cases hnp : nameP name
          · rw [hnp] at HNM
            have HN : Hid (r = 3) := by show _ = _; rw [HR1.out, if_pos ⟨HK2.out, hnp⟩]
            clear hnp HR1
            go_wp2_with (first | (go_at_call 97; refine HNM.out.mono ?_; rintro e w2 ⟨rfl, hb2⟩; have HBK1 := Lib.hid (HBK1.out.below hb2 HBK1.out.lt); have HW1 := Lib.hid (below_then HW1.out hb2); have d2 : w2.cell? ⟨w.heap.size, 2, none⟩ = some (.slice aA an ac) := HBK1.out.cell 2; clear hb2))
            go_ret
            exact ⟨by rw [HN.out]; rfl, HW1.out⟩
          · rw [hnp] at HNM
            have HNP := Lib.hid hnp
            clear hnp
            by_cases ha : ae = 0
            · have hda : (ae != 0) = false := by simp [ha]
              by_cases ht : 400 < text.size
              · have hdt : decide ((400 : Int) < text.size) = true := by simp; omega
                have HN : Hid (r = 2) := by show _ = _; rw [HR1.out, if_neg (fun h => by rw [HNP.out] at h; cases h.2), if_neg (fun h => h ha), if_pos (.inl ht)]
                clear ha ht HR1
                go_wp2_with (first | (go_at_call 97; refine HNM.out.mono ?_; rintro e w2 ⟨rfl, hb2⟩; have HBK1 := Lib.hid (HBK1.out.below hb2 HBK1.out.lt); have HW1 := Lib.hid (below_then HW1.out hb2); have d2 : w2.cell? ⟨w.heap.size, 2, none⟩ = some (.slice aA an ac) := HBK1.out.cell 2; clear hb2) | (go_at_call 98; refine (HA.out _ HW1.out).mono ?_; rintro e w3 ⟨rfl, hb3⟩; have HBK1 := Lib.hid (HBK1.out.below hb3 HBK1.out.lt); have HW1 := Lib.hid (below_then HW1.out hb3); have e3 : w3.cell? ⟨w.heap.size, 3, none⟩ = some (.string text) := HBK1.out.cell 3; have e1 : w3.cell? ⟨w.heap.size, 1, none⟩ = some (.string name) := HBK1.out.cell 1; clear hb3))
                go_ret
                exact ⟨by rw [HN.out]; rfl, HW1.out⟩
              · have hdt : decide ((400 : Int) < text.size) = false := by simp; omega
                by_cases hm : 400 < name.size
                · have hdm : decide ((400 : Int) < name.size) = true := by simp; omega
                  have HN : Hid (r = 2) := by show _ = _; rw [HR1.out, if_neg (fun h => by rw [HNP.out] at h; cases h.2), if_neg (fun h => h ha), if_pos (.inr hm)]
                  clear ha ht hm HR1
                  go_wp2_with (first | (go_at_call 97; refine HNM.out.mono ?_; rintro e w2 ⟨rfl, hb2⟩; have HBK1 := Lib.hid (HBK1.out.below hb2 HBK1.out.lt); have HW1 := Lib.hid (below_then HW1.out hb2); have d2 : w2.cell? ⟨w.heap.size, 2, none⟩ = some (.slice aA an ac) := HBK1.out.cell 2; clear hb2) | (go_at_call 98; refine (HA.out _ HW1.out).mono ?_; rintro e w3 ⟨rfl, hb3⟩; have HBK1 := Lib.hid (HBK1.out.below hb3 HBK1.out.lt); have HW1 := Lib.hid (below_then HW1.out hb3); have e3 : w3.cell? ⟨w.heap.size, 3, none⟩ = some (.string text) := HBK1.out.cell 3; have e1 : w3.cell? ⟨w.heap.size, 1, none⟩ = some (.string name) := HBK1.out.cell 1; clear hb3))
                  go_ret
                  exact ⟨by rw [HN.out]; rfl, HW1.out⟩
                · have hdm : decide ((400 : Int) < name.size) = false := by simp; omega
                  have HN : Hid (r = 0) := by show _ = _; rw [HR1.out, if_neg (fun h => by rw [HNP.out] at h; cases h.2), if_neg (fun h => h ha), if_neg (by omega)]
                  clear ha ht hm HR1
                  go_wp2_with (first | (go_at_call 97; refine HNM.out.mono ?_; rintro e w2 ⟨rfl, hb2⟩; have HBK1 := Lib.hid (HBK1.out.below hb2 HBK1.out.lt); have HW1 := Lib.hid (below_then HW1.out hb2); have d2 : w2.cell? ⟨w.heap.size, 2, none⟩ = some (.slice aA an ac) := HBK1.out.cell 2; clear hb2) | (go_at_call 98; refine (HA.out _ HW1.out).mono ?_; rintro e w3 ⟨rfl, hb3⟩; have HBK1 := Lib.hid (HBK1.out.below hb3 HBK1.out.lt); have HW1 := Lib.hid (below_then HW1.out hb3); have e3 : w3.cell? ⟨w.heap.size, 3, none⟩ = some (.string text) := HBK1.out.cell 3; have e1 : w3.cell? ⟨w.heap.size, 1, none⟩ = some (.string name) := HBK1.out.cell 1; clear hb3))
                  go_ret
                  exact ⟨by rw [HN.out]; rfl, HW1.out⟩
            · have hda : (ae != 0) = true := by simp [ha]
              have HN : Hid (r = ae) := by show _ = _; rw [HR1.out, if_neg (fun h => by rw [HNP.out] at h; cases h.2), if_pos ha]
              clear ha HR1
              go_wp2_with (first | (go_at_call 97; refine HNM.out.mono ?_; rintro e w2 ⟨rfl, hb2⟩; have HBK1 := Lib.hid (HBK1.out.below hb2 HBK1.out.lt); have HW1 := Lib.hid (below_then HW1.out hb2); have d2 : w2.cell? ⟨w.heap.size, 2, none⟩ = some (.slice aA an ac) := HBK1.out.cell 2; clear hb2) | (go_at_call 98; refine (HA.out _ HW1.out).mono ?_; rintro e w3 ⟨rfl, hb3⟩; have HBK1 := Lib.hid (HBK1.out.below hb3 HBK1.out.lt); have HW1 := Lib.hid (below_then HW1.out hb3); have e3 : w3.cell? ⟨w.heap.size, 3, none⟩ = some (.string text) := HBK1.out.cell 3; have e1 : w3.cell? ⟨w.heap.size, 1, none⟩ = some (.string name) := HBK1.out.cell 1; clear hb3))
              go_ret
              exact ⟨by rw [HN.out]; rfl, HW1.out⟩
        · have hke : (k == 2) = false := by simp [hk2]
          have HK2 := Lib.hid hk2
          clear hk2
          by_cases ha : ae = 0
          · have hda : (ae != 0) = false := by simp [ha]
            by_cases ht : 400 < text.size
            · have hdt : decide ((400 : Int) < text.size) = true := by simp; omega
              have HN : Hid (r = 2) := by show _ = _; rw [HR1.out, if_neg (fun h => HK2.out h.1), if_neg (fun h => h ha), if_pos (.inl ht)]
              clear ha ht HR1
              go_wp2_with (first | (go_at_call 98; refine (HA.out _ HW1.out).mono ?_; rintro e w3 ⟨rfl, hb3⟩; have HBK1 := Lib.hid (HBK1.out.below hb3 HBK1.out.lt); have HW1 := Lib.hid (below_then HW1.out hb3); have e3 : w3.cell? ⟨w.heap.size, 3, none⟩ = some (.string text) := HBK1.out.cell 3; have e1 : w3.cell? ⟨w.heap.size, 1, none⟩ = some (.string name) := HBK1.out.cell 1; clear hb3))
              go_ret
              exact ⟨by rw [HN.out]; rfl, HW1.out⟩
            · have hdt : decide ((400 : Int) < text.size) = false := by simp; omega
              by_cases hm : 400 < name.size
              · have hdm : decide ((400 : Int) < name.size) = true := by simp; omega
                have HN : Hid (r = 2) := by show _ = _; rw [HR1.out, if_neg (fun h => HK2.out h.1), if_neg (fun h => h ha), if_pos (.inr hm)]
                clear ha ht hm HR1
                go_wp2_with (first | (go_at_call 98; refine (HA.out _ HW1.out).mono ?_; rintro e w3 ⟨rfl, hb3⟩; have HBK1 := Lib.hid (HBK1.out.below hb3 HBK1.out.lt); have HW1 := Lib.hid (below_then HW1.out hb3); have e3 : w3.cell? ⟨w.heap.size, 3, none⟩ = some (.string text) := HBK1.out.cell 3; have e1 : w3.cell? ⟨w.heap.size, 1, none⟩ = some (.string name) := HBK1.out.cell 1; clear hb3))
                go_ret
                exact ⟨by rw [HN.out]; rfl, HW1.out⟩
              · have hdm : decide ((400 : Int) < name.size) = false := by simp; omega
                have HN : Hid (r = 0) := by show _ = _; rw [HR1.out, if_neg (fun h => HK2.out h.1), if_neg (fun h => h ha), if_neg (by omega)]
                clear ha ht hm HR1
                go_wp2_with (first | (go_at_call 98; refine (HA.out _ HW1.out).mono ?_; rintro e w3 ⟨rfl, hb3⟩; have HBK1 := Lib.hid (HBK1.out.below hb3 HBK1.out.lt); have HW1 := Lib.hid (below_then HW1.out hb3); have e3 : w3.cell? ⟨w.heap.size, 3, none⟩ = some (.string text) := HBK1.out.cell 3; have e1 : w3.cell? ⟨w.heap.size, 1, none⟩ = some (.string name) := HBK1.out.cell 1; clear hb3))
                go_ret
                exact ⟨by rw [HN.out]; rfl, HW1.out⟩
          · have hda : (ae != 0) = true := by simp [ha]
            have HN : Hid (r = ae) := by show _ = _; rw [HR1.out, if_neg (fun h => HK2.out h.1), if_pos ha]
            clear ha HR1
            go_wp2_with (first | (go_at_call 98; refine (HA.out _ HW1.out).mono ?_; rintro e w3 ⟨rfl, hb3⟩; have HBK1 := Lib.hid (HBK1.out.below hb3 HBK1.out.lt); have HW1 := Lib.hid (below_then HW1.out hb3); have e3 : w3.cell? ⟨w.heap.size, 3, none⟩ = some (.string text) := HBK1.out.cell 3; have e1 : w3.cell? ⟨w.heap.size, 1, none⟩ = some (.string name) := HBK1.out.cell 1; clear hb3))
            go_ret
            exact ⟨by rw [HN.out]; rfl, HW1.out⟩
end Go.Proofs.YtkmmlcnoeeaekaaGreatDoor
/- Contract of dom.up. -/
namespace Go.Proofs.YtkmmlcnoeeaekaaGreatDoor
open Go.RowKit
set_option linter.unusedVariables false
set_option linter.unusedSimpArgs false

/-- The cells of a slice that its own row holds. -/
theorem row_at {w : World} {base g n cap size : Nat} {e : TypeId} {xs : List Value} (h : w.ownsRow base e size (.slice (some ⟨g, 0, none⟩) n cap) n xs) : (∀ j u, xs[j]? = some u → w.cell? ⟨g, j, none⟩ = some u) ∧ base ≤ g ∧ g < w.heap.size ∧ n ≤ cap := by
  rcases h.2 with ⟨h1, _⟩ | ⟨g', cap', cur, hv, h1, h2, h3, h4, h5, h6⟩
  · cases h1
  · injection hv with hv1 hv2 hv3
    injection hv1 with hv1
    injection hv1 with hv1
    subst hv1; subst hv3
    have hB : Blk w g e cur := h2
    refine ⟨fun j u hj => ?_, h1, hB.lt, h3⟩
    have hj5 : j < n * size := by
      rcases Nat.lt_or_ge j (n * size) with h7 | h7
      · exact h7
      · rw [List.getElem?_eq_none (by rw [h.1]; exact h7)] at hj; cases hj
    rw [hB.cell j]
    have h8 := congrArg (fun l : List Value => l[j]?) h6
    rw [List.getElem?_take_of_lt hj5, hj] at h8
    simpa using h8
theorem upF_neg {ns : List NodeV} {i : Nat} (h : (nd ns i).parent < 0) : ∀ u, upF ns u i = 0
  | 0 => rfl
  | u + 1 => by rw [upF, if_neg (by omega)]
set_option maxRecDepth 100000 in
set_option maxHeartbeats 4000000 in
theorem up_calls (A : Option Addr) (n c B i : Nat) (q : Bool) (ns : List NodeV) (w : World) (hn : ns.length = n) (h : Nodes w B A ns) (hB : B ≤ w.heap.size) (hm : n ≤ 200) (hi : i < n) (hp : ∀ j, j < n → (nd ns j).parent < n ∧ -1 ≤ (nd ns j).parent) :
    Calls Tryz.prog 59 #[.agg #[.slice A n c, .bool q], .int .i64 i] w fun e w' => e = .returned (.int .i64 (upF ns (n + 1) i : Nat)) ∧ Below w.heap.size w w' := by
  subst hn
  have HD := Lib.hid (Blk.new w 24 #[.slice A ns.length c, .bool q])
  have d0 := HD.out.cell 0
  have d0' : (w.alloc (.cells #[.slice A ns.length c, .bool q] 24)).cell? ⟨w.heap.size, 0, none⟩ = some (.slice A ns.length c) := d0
  have HW := Lib.hid (below_alloc (Below.refl w.heap.size w) (.cells #[.slice A ns.length c, .bool q] 24))
  have HN := Lib.hid (h.below HW.out hB)
  have HP := Lib.hid hp
  obtain ⟨r, hr⟩ : ∃ r, r = upF ns (ns.length + 1) i := ⟨_, rfl⟩
  rw [← hr]
  have HR := Lib.hid hr
  clear h hp hr d0
  go_enter Tryz.func59, Tryz.ntmps59
  go_wp2_with fail
  generalize World.alloc w _ = w0 at HD HW HN d0' ⊢
  go_loop [1, 4] (fun x y => ∃ m k : Nat, k < ns.length ∧ m ≤ ns.length + 1 ∧ x = .int .i64 k ∧ y = .int .i64 m ∧ Hid (r = m + upF ns (ns.length + 1 - m) k)) (fun _ y => ns.length + 1 - (intOf y).toNat)
  case atStart => exact ⟨0, i, hi, by omega, rfl, rfl, by show _ = _; rw [HR.out]; simp⟩
  case round =>
    obtain ⟨m, k, hk, hmm, rfl, rfl, HK⟩ := hrel
    obtain ⟨b, off, rfl, hb, hc, _⟩ := HN.out k hk
    have c4 : w0.cell? ⟨b, off + k * 6 + 4, none⟩ = some (.int .i64 (nd ns k).parent) := hc 4 (by decide)
    have hpk := HP.out k hk
    obtain ⟨p, hpp⟩ : ∃ p, p = (nd ns k).parent := ⟨_, rfl⟩
    rw [← hpp] at c4 hpk
    have HPP := Lib.hid hpp
    clear hc hpp
    by_cases h0 : p < 0
    · have hd : decide (0 ≤ p) = false := by simp; omega
      have HE : Hid (r = m) := by show _ = _; rw [HK.out, upF_neg (by rw [← HPP.out]; exact h0)]; rfl
      clear h0
      go_wp2_with fail
      go_ret
      exact ⟨by rw [HE.out]; rfl, HW.out⟩
    · have hd : decide (0 ≤ p) = true := by simp; omega
      by_cases h1 : m ≤ ns.length
      · have hd1 : decide (m ≤ ns.length) = true := by simp; omega
        obtain ⟨p', rfl⟩ : ∃ p' : Nat, p = p' := ⟨p.toNat, by omega⟩
        have HE : Hid (r = m + 1 + upF ns (ns.length + 1 - (m + 1)) p') := by
          show _ = _
          have e : ns.length + 1 - m = (ns.length - m) + 1 := by omega
          rw [HK.out, e, upF, if_pos (by rw [← HPP.out]; omega), ← HPP.out, Int.toNat_natCast]
          have e2 : ns.length + 1 - (m + 1) = ns.length - m := by omega
          rw [e2]; omega
        go_wp2_with fail
        go_round
        case rel => exact ⟨m + 1, p', by omega, by omega, rfl, by go_num, HE.out⟩
        case measure => simp [intOf]; omega
      · have hd1 : decide (m ≤ ns.length) = false := by simp; omega
        have HE : Hid (r = m) := by
          show _ = _
          have e : ns.length + 1 - m = 0 := by omega
          rw [HK.out, e]; rfl
        clear h1
        go_wp2_with fail
        go_ret
        exact ⟨by rw [HE.out]; rfl, HW.out⟩
end Go.Proofs.YtkmmlcnoeeaekaaGreatDoor
/- Contracts of prop: the tables' rows. -/
namespace Go.Proofs.YtkmmlcnoeeaekaaGreatDoor
open Go.RowKit Go.Great
set_option linter.unusedVariables false
set_option linter.unusedSimpArgs false

theorem tbl_facts (w : World) (t1 t2 : TypeId) (c1 c2 tbl : Array Value) :
    Blk (((w.alloc (.cells c1 t1)).alloc (.cells c2 t2)).setRow (w.heap.size + 1) tbl) (w.heap.size + 1) t2 tbl ∧ Blk (((w.alloc (.cells c1 t1)).alloc (.cells c2 t2)).setRow (w.heap.size + 1) tbl) w.heap.size t1 c1 ∧ Below w.heap.size w (((w.alloc (.cells c1 t1)).alloc (.cells c2 t2)).setRow (w.heap.size + 1) tbl) := by
  have hsz : (w.alloc (.cells c1 t1)).heap.size = w.heap.size + 1 := by simp
  have h2 := Blk.new (w.alloc (.cells c1 t1)) t2 c2
  rw [hsz] at h2
  refine ⟨setRow_heap _ _ _ _ _ _ h2, ?_, below_setRow (below_alloc (below_alloc (Below.refl _ _) _) _) (by omega) _⟩
  refine (setRow_other _ _ _ _ (by omega)).trans ?_
  exact (Blk.new w t1 c1).alloc _
end Go.Proofs.YtkmmlcnoeeaekaaGreatDoor
