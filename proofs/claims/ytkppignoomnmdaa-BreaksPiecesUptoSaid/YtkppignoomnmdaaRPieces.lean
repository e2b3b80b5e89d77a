/- Contract of the reference's Pieces. -/
import Derived.Test.YtkppignoomnmdaaEqStr
import Derived.Test.YtkppignoomnmdaaRBreaks
namespace Go.Proofs.Ytkppignoomnmdaa
open Go.RowKit
set_option linter.unusedVariables false
set_option linter.unusedSimpArgs false

set_option maxRecDepth 100000 in
set_option maxHeartbeats 4000000 in
theorem rpieces_calls (s : ByteArray) (m : Int) (w : World) (hs : s.size ≤ 1048576) :
    Calls Try.prog 22 #[.string s, .int .i64 m] w fun e w' => ∃ v, e = .returned v ∧ w'.ownsRow w.heap.size 9 1 v (pieces m s).length (pstr s (pieces m s)) ∧ Below w.heap.size w w' := by
  obtain ⟨i0, hi, hz0, hz1, hz2⟩ := info_parts info_brk
  obtain ⟨j0, hj, hy0, hy1, hy2⟩ := info_parts info_str
  have hbl := brks_len m s
  have hpl := pieces_len m s
  obtain ⟨T, hT⟩ : ∃ T, T = pieces m s := ⟨_, rfl⟩
  have HT : Hid (pcsR s.size 0 ((brks m s).map (·.1)) = T) := by rw [hT]; rfl
  have HR : Hid (Inc s.size 0 ((brks m s).map (·.1))) := brks_inc m s
  rw [← hT] at hpl ⊢
  clear hT
  go_enter Try.func22, Try.ntmps22
  go_wp2_with (first | (go_at_call 19; refine (rbreaks_calls _ _ _ hs).mono ?_; rintro e w1 ⟨v, rfl, hown, hb⟩; obtain ⟨A2, c2, rfl⟩ := own_any3 hown))
  have hbel := hb
  have HE := Lib.hid (Holds.of_own hown)
  obtain ⟨L, hL⟩ : ∃ L, L = brks m s := ⟨_, rfl⟩
  clear hown hb
  obtain ⟨wo, rfl⟩ : ∃ wo : World, wo = w1 := ⟨_, rfl⟩
  rw [← hL] at HT HR HE hbl ⊢
  have hwo := hbel.size
  clear hL
  go_wp2_with fail
  go_loopw [5, 6, 13] (fun v fv i w2 => ∃ (k f : Nat) (es : List (Nat × Nat)), k ≤ L.length ∧ i = .int .i64 k ∧ fv = .int .i64 f ∧ w2.ownsRow wo.heap.size 9 1 v es.length (pstr s es) ∧ es ++ pcsR s.size f ((L.drop k).map (·.1)) = T ∧ Inc s.size f ((L.drop k).map (·.1)) ∧ Below wo.heap.size wo w2) (fun _ _ i _ => L.length - (intOf i).toNat)
  case atStart => exact ⟨0, 0, [], Nat.zero_le _, rfl, rfl, World.ownsRow_nil _ _ _ _, HT.out, HR.out, Below.refl _ _⟩
  case round =>
    obtain ⟨k, f, es, hk, rfl, rfl, hown, hes, hris, hb2⟩ := hrel
    have hw2 := hb2.size
    have hesl : es.length ≤ 1048577 := by have := congrArg List.length hes; simp at this; omega
    have HRR := Lib.hid hes
    have HRI := Lib.hid hris
    clear hes hris
    by_cases hlt : k < L.length
    · obtain ⟨b, off, rfl, hb, hc⟩ := (HE.out.below hb2 (Nat.le_refl _)).flat (f := brkF) 2 (fun _ => rfl) (by omega) (0, false) hlt
      have hdr := drop_at3 L k (0, false) hlt
      obtain ⟨⟨p, y⟩, hx⟩ : ∃ x, x = L.getD k (0, false) := ⟨_, rfl⟩
      rw [← hx] at hc hdr
      rw [hdr] at HRR HRI
      have c0 := hc 0 _ rfl
      have c1 := hc 1 _ rfl
      simp only [Nat.add_zero] at c0
      have hri : Inc s.size f (p :: (L.drop (k + 1)).map (·.1)) := HRI.out
      obtain ⟨hf, hp, hr3⟩ := hri
      have HR3 := Lib.hid hr3
      have KK := Lib.hid (show k ≤ L.length ∧ k < L.length from ⟨hk, hlt⟩)
      clear hc hx hdr hr3 HRI
      have HPC : Hid (pcsR s.size f (((p, y) :: L.drop (k + 1)).map (·.1)) = (f, p) :: pcsR s.size p ((L.drop (k + 1)).map (·.1))) := rfl
      go_wp2_with ((at_builtin; refine wpList_append_own _ rfl _ _ 33 rfl wo.heap.size 9 j0 (.string ⟨#[]⟩) 1 16 Try.underlying33 hj hy0 hy1 hy2 rfl (by decide) _ _ _ rfl ((hown.alloc _).alloc _) ⟨wr.heap.size + 1, 0, none⟩ 1 1 [.string (s.extract f p)] rfl rfl (cell_one_at _ _ _ _ (by simp)) (fun u hu => by simp at hu; subst hu; rfl) (by unfold maxLen; omega) (by omega) (by simp; omega) ?_; intro v' w2 hown1 hg _; have q0 : w2.cell? ⟨wr.heap.size, 0, none⟩ = some (.int .i64 (p : Nat)) := kept_new hg (fun e => by have := (hown.lt _ e).2; omega) 0))
      have hb3 := below_grown' hown (below_alloc (below_alloc hb2 _) _) hg
      go_roundw
      case rel => exact ⟨k + 1, p, es ++ [(f, p)], by have := KK.out; omega, by go_num, rfl, by rw [pstr_snoc, List.length_append]; exact hown1, by rw [List.append_assoc]; refine Eq.trans ?_ HRR.out; rw [HPC.out]; rfl, HR3.out, hb3⟩
      case measure => have := KK.out; simp [intOf]; omega
    · have hTT := HRR.out
      have hfl := HRI.out
      rw [List.drop_of_length_le (by omega)] at hTT hfl
      simp only [List.map_nil, pcsR] at hTT
      have hfl : f ≤ s.size := hfl
      have hbel2 := below_then hbel hb2
      by_cases hfs : f < s.size
      · rw [if_pos hfs] at hTT
        have HTT := Lib.hid hTT
        clear hTT
        go_wp2_with ((at_builtin; refine wpList_append_own _ rfl _ _ 33 rfl wo.heap.size 9 j0 (.string ⟨#[]⟩) 1 16 Try.underlying33 hj hy0 hy1 hy2 rfl (by decide) _ _ _ rfl (hown.alloc _) ⟨wr.heap.size, 0, none⟩ 1 1 [.string (s.extract f s.size)] rfl rfl (cell_one_at _ _ _ _ (by simp)) (fun u hu => by simp at hu; subst hu; rfl) (by unfold maxLen; omega) (by omega) (by simp; omega) ?_; intro v' w2 hown1 hg _))
        have hb3 := below_grown' hown (below_alloc hb2 _) hg
        have HO := Lib.hid (own_base (base' := w.heap.size) hown1 (by omega))
        have hbel3 := below_then hbel hb3
        have e1 : es.length + 1 = T.length := by rw [← HTT.out]; simp
        have e2 : pstr s T = pstr s es ++ [.string (s.extract f s.size)] := by rw [← HTT.out]; exact pstr_snoc _ _ _
        have HO2 := HO.out
        rw [e1, ← e2] at HO2
        have HO3 := Lib.hid HO2
        clear hown1 hg e1 e2 HO2 HO
        go_ret
        exact ⟨_, rfl, HO3.out, hbel3⟩
      · rw [if_neg hfs, List.append_nil] at hTT
        rw [hTT] at hown
        have HO := Lib.hid (own_base (base' := w.heap.size) hown (by omega))
        clear hTT hown
        go_wp2_with fail
        go_ret
        exact ⟨_, rfl, HO.out, hbel2⟩
end Go.Proofs.Ytkppignoomnmdaa
