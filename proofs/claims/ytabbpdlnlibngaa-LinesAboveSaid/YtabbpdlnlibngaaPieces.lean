/- Contract of breaks.Pieces; of the reference's Eq at strings; the closed fact broken. -/
import Derived.Test.YtabbpdlnlibngaaEqBrk
namespace Go.Proofs.Ytabbpdlnlibngaa
open Go.RowKit
set_option linter.unusedVariables false
set_option linter.unusedSimpArgs false

theorem cell_one_at (w : World) (a : Value) (t : TypeId) (g : Nat) (hg : w.heap.size = g) : ∀ j u, [a][j]? = some u → (w.alloc (.cells #[a] t)).cell? ((⟨g, 0, none⟩ : Addr).add j) = some u := by
  subst hg; exact cell_one_new w a t
theorem kept_new {wr w2 : World} {X : Array Value} {T : TypeId} {o : Obj} {row : Option Nat} (hg : ((wr.alloc (.cells X T)).alloc o).grownBy w2 row) (hne : row ≠ some wr.heap.size) (j : Nat) : w2.cell? ⟨wr.heap.size, j, none⟩ = X[j]? := by
  have h1 := World.cell?_of_block (a := ⟨wr.heap.size, j, none⟩) (hg.block wr.heap.size (by simp; omega) (fun e => hne e.symm))
  rw [h1]
  have h2 := ((Below.refl (wr.alloc (.cells X T)).heap.size (wr.alloc (.cells X T))).alloc (Nat.le_refl _) o).cell (p := ⟨wr.heap.size, j, none⟩) (by simp)
  rw [h2]
  exact new_cell wr X T j
theorem own_any3 {w : World} {base : Nat} {e : TypeId} {size n : Nat} {v : Value} {xs : List Value} (h : w.ownsRow base e size v n xs) : ∃ A c, v = .slice A n c := by
  rcases h.2 with ⟨rfl, rfl⟩ | ⟨g, cap, cur, hv, hb, hh, _⟩
  · exact ⟨_, _, rfl⟩
  · exact ⟨_, _, hv⟩
theorem drop_at3 {α : Type} (l : List α) (k : Nat) (d : α) (h : k < l.length) : l.drop k = l.getD k d :: l.drop (k + 1) := by
  rw [List.drop_eq_getElem_cons h]; simp [List.getD, h]
/-- Pieces of a text as cells. -/
def pstr (s : ByteArray) (l : List (Nat × Nat)) : List Value := l.map fun p => .string (s.extract p.1 p.2)
theorem pstr_snoc (s : ByteArray) (l : List (Nat × Nat)) (p : Nat × Nat) : pstr s (l ++ [p]) = pstr s l ++ [.string (s.extract p.1 p.2)] := by simp [pstr]
def pieces (m : Int) (s : ByteArray) : List (Nat × Nat) := pcsR s.size 0 ((brks m s).map (·.1))
theorem pcsR_len (len : Nat) : ∀ (l : List Nat) (f : Nat), (pcsR len f l).length ≤ l.length + 1
  | [], f => by unfold pcsR; split <;> simp
  | a :: l, f => by have := pcsR_len len l a; simp [pcsR]; omega
theorem pieces_len (m : Int) (s : ByteArray) : (pieces m s).length ≤ s.size + 1 := by
  have := pcsR_len s.size ((brks m s).map (·.1)) 0
  have := brks_len m s
  unfold pieces; simp at *; omega
theorem info_str : (Try.prog.info? 9).map (fun i => (i.zero, i.size, i.bytes)) = some (some (.string ⟨#[]⟩), 1, 16) := by kernel_rfl
/-- The places that the program's loop meets, from the k-th on. -/
def ends2 (m : Int) (s : ByteArray) : List (Nat × Bool) := brks m s ++ [(s.size, false)]
theorem ends2_map (m : Int) (s : ByteArray) : (ends2 m s).map (·.1) = (brks m s).map (·.1) ++ [s.size] := by simp [ends2]
theorem ends2_pieces (m : Int) (s : ByteArray) : pcs 0 ((ends2 m s).map (·.1)) = pieces m s := by
  rw [ends2_map]; exact pcs_eq s.size _ 0 (brks_inc m s)
/-- Places that are within the text, in order (not falling). -/
def Ris (len : Nat) : Nat → List Nat → Prop
  | f, [] => f ≤ len
  | f, a :: l => f ≤ a ∧ a ≤ len ∧ Ris len a l
theorem ris_of_inc (len : Nat) : ∀ (l : List Nat) (f : Nat), Inc len f l → Ris len f (l ++ [len])
  | [], f, h => ⟨h, Nat.le_refl _, Nat.le_refl _⟩
  | a :: l, f, h => ⟨Nat.le_of_lt h.1, h.2.1, ris_of_inc len l a h.2.2⟩
theorem ends2_ris (m : Int) (s : ByteArray) : Ris s.size 0 ((ends2 m s).map (·.1)) := by
  rw [ends2_map]; exact ris_of_inc _ _ _ (brks_inc m s)
set_option maxRecDepth 100000 in
set_option maxHeartbeats 4000000 in
theorem pieces_calls (s : ByteArray) (m : Int) (w : World) (hs : s.size ≤ 1048576) :
    Calls Try.prog 27 #[.string s, .int .i64 m] w fun e w' => ∃ v, e = .returned v ∧ w'.ownsRow w.heap.size 9 1 v (pieces m s).length (pstr s (pieces m s)) ∧ Below w.heap.size w w' := by
  obtain ⟨i0, hi, hz0, hz1, hz2⟩ := info_parts info_brk
  obtain ⟨j0, hj, hy0, hy1, hy2⟩ := info_parts info_str
  have hbl := brks_len m s
  have hpl := pieces_len m s
  obtain ⟨T, hT⟩ : ∃ T, T = pieces m s := ⟨_, rfl⟩
  have HT : Hid (pcs 0 ((ends2 m s).map (·.1)) = T) := by rw [hT]; exact ends2_pieces m s
  have HR : Hid (Ris s.size 0 ((ends2 m s).map (·.1))) := ends2_ris m s
  rw [← hT] at hpl ⊢
  clear hT
  go_enter Try.func27, Try.ntmps27
  go_wp2_with (first | (go_at_call 40; refine (all_calls _ _ _ hs).mono ?_; rintro e wa ⟨v, rfl, hown, hb⟩) | (at_builtin; refine wpList_append_own _ rfl _ _ 69 rfl w.heap.size 72 i0 (.agg #[.int .i64 0, .bool false]) 2 16 Try.underlying69 hi hz0 hz1 hz2 rfl (by decide) _ _ _ rfl (hown.alloc _) ⟨wa.heap.size, 0, none⟩ 1 1 [.int .i64 s.size, .bool false] rfl rfl (cell_two_new _ _ _ _) (fun u hu => by simp at hu; rcases hu with rfl | rfl <;> rfl) (by unfold maxLen; omega) (by omega) (by have := hb.size; simp; omega) ?_; intro v' w1 hown1 hg _; obtain ⟨A2, c2, rfl⟩ := own_any3 hown1))
  have hbel := below_grown' hown (below_alloc hb _) hg
  have HE := Lib.hid (by have h := Holds.of_own hown1; rw [show bcells (brks m s) ++ [Value.int .i64 (s.size : Nat), .bool false] = bcells (ends2 m s) from (bcells_snoc _ (s.size, false)).symm] at h; exact h)
  have hEl : (ends2 m s).length = (brks m s).length + 1 := by simp [ends2]
  obtain ⟨L, hL⟩ : ∃ L, L = brks m s := ⟨_, rfl⟩
  obtain ⟨E, hE⟩ : ∃ E, E = ends2 m s := ⟨_, rfl⟩
  have HEL := Lib.hid hEl
  clear hown1 hg hown hEl
  obtain ⟨wo, rfl⟩ : ∃ wo : World, wo = w1 := ⟨_, rfl⟩
  rw [← hE] at HT HR HE HEL
  rw [← hL] at HEL hbl ⊢
  have hwo := hbel.size
  clear hE hL
  have hEs : E.length ≤ 1048577 := by have := HEL.out; omega
  go_wp2_with fail
  go_loopw [5, 6, 18] (fun v fv i w2 => ∃ (k f : Nat) (es : List (Nat × Nat)), k ≤ L.length + 1 ∧ i = .int .i64 k ∧ fv = .int .i64 f ∧ w2.ownsRow wo.heap.size 9 1 v es.length (pstr s es) ∧ es ++ pcs f ((E.drop k).map (·.1)) = T ∧ Ris s.size f ((E.drop k).map (·.1)) ∧ Below wo.heap.size wo w2) (fun _ _ i _ => L.length + 1 - (intOf i).toNat)
  case atStart => exact ⟨0, 0, [], Nat.zero_le _, rfl, rfl, World.ownsRow_nil _ _ _ _, HT.out, HR.out, Below.refl _ _⟩
  case round =>
    obtain ⟨k, f, es, hk, rfl, rfl, hown, hes, hris, hb2⟩ := hrel
    have hw2 := hb2.size
    have hesl : es.length ≤ 1048577 := by have := congrArg List.length hes; simp at this; omega
    have HRR := Lib.hid hes
    have HRI := Lib.hid hris
    clear hes hris
    by_cases hlt : k < L.length + 1
    · obtain ⟨b, off, rfl, hb, hc⟩ := (HE.out.below hb2 (Nat.le_refl _)).flat (f := brkF) 2 (fun _ => rfl) (by omega) (0, false) (by rw [HEL.out]; exact hlt)
      have hdr := drop_at3 E k (0, false) (by rw [HEL.out]; exact hlt)
      obtain ⟨⟨p, y⟩, hx⟩ : ∃ x, x = E.getD k (0, false) := ⟨_, rfl⟩
      rw [← hx] at hc hdr
      rw [hdr] at HRR HRI
      have c0 := hc 0 _ rfl
      have c1 := hc 1 _ rfl
      simp only [Nat.add_zero] at c0
      have hri : Ris s.size f (p :: (E.drop (k + 1)).map (·.1)) := HRI.out
      obtain ⟨hf, hp, hr3⟩ := hri
      have HR3 := Lib.hid hr3
      have KK := Lib.hid (show k ≤ L.length + 1 ∧ k < L.length + 1 from ⟨hk, hlt⟩)
      clear hc hx hdr hr3 HRI
      by_cases hfp : f < p
      · have HPC : Hid (pcs f (((p, y) :: E.drop (k + 1)).map (·.1)) = (f, p) :: pcs p ((E.drop (k + 1)).map (·.1))) := by show _ = _; simp [pcs, hfp]
        go_wp2_with ((at_builtin; refine wpList_append_own _ rfl _ _ 57 rfl wo.heap.size 9 j0 (.string ⟨#[]⟩) 1 16 Try.underlying57 hj hy0 hy1 hy2 rfl (by decide) _ _ _ rfl ((hown.alloc _).alloc _) ⟨wr.heap.size + 1, 0, none⟩ 1 1 [.string (s.extract f p)] rfl rfl (cell_one_at _ _ _ _ (by simp)) (fun u hu => by simp at hu; subst hu; rfl) (by unfold maxLen; omega) (by omega) (by simp; omega) ?_; intro v' w2 hown1 hg _; have q0 : w2.cell? ⟨wr.heap.size, 0, none⟩ = some (.int .i64 (p : Nat)) := kept_new hg (fun e => by have := (hown.lt _ e).2; omega) 0))
        have hb3 := below_grown' hown (below_alloc (below_alloc hb2 _) _) hg
        go_roundw
        case rel => exact ⟨k + 1, p, es ++ [(f, p)], by have := KK.out; omega, by go_num, rfl, by rw [pstr_snoc, List.length_append]; exact hown1, by rw [List.append_assoc]; refine Eq.trans ?_ HRR.out; rw [HPC.out]; rfl, HR3.out, hb3⟩
        case measure => have := KK.out; simp [intOf]; omega
      · have HPC : Hid (pcs f (((p, y) :: E.drop (k + 1)).map (·.1)) = pcs f ((E.drop (k + 1)).map (·.1))) := by show _ = _; simp [pcs, hfp]
        obtain rfl : f = p := by omega
        go_wp2_with fail
        go_roundw
        case rel => exact ⟨k + 1, f, es, by have := KK.out; omega, by go_num, rfl, hown.alloc _, by refine Eq.trans ?_ HRR.out; rw [HPC.out], HR3.out, below_alloc hb2 _⟩
        case measure => have := KK.out; simp [intOf]; omega
    · have hTT := HRR.out
      rw [List.drop_of_length_le (by rw [HEL.out]; omega)] at hTT
      simp only [List.map_nil, pcs, List.append_nil] at hTT
      have hbel2 := below_then hbel hb2
      rw [hTT] at hown
      have HO := Lib.hid (own_base (base' := w.heap.size) hown (by omega))
      clear hTT hown
      go_wp2_with fail
      go_ret
      exact ⟨_, rfl, HO.out, hbel2⟩
end Go.Proofs.Ytabbpdlnlibngaa
