/- The contract of (*items.maker).kids, by steps. -/
import Derived.Test.YtpamfhplklhnpaaDoorItmH
namespace Go.Proofs.YtpamfhplklhnpaaDoor
open Go.RowKit
set_option linter.unusedVariables false
set_option linter.unusedSimpArgs false

/-- What the maker's boxes and looks are like. -/
structure MOk (M : MkV) : Prop where
  nl : M.nl = M.nb
  len : M.lz.length = M.nl * 118
  hn : M.bs.length = M.nb
  kids : ∀ i, i < M.bs.length → kidsOk M.bs i i (bx M.bs i).kids = true
  text : ∀ i, (bx M.bs i).text.size ≤ 1048576
def WPost (M : MkV) (B gM : Nat) (v : Value) (xs : List ItemV) (w : World) (r : List ItemV × Bool) (e : Ending) (w' : World) : Prop :=
  e = .returned (.tuple #[]) ∧ ∃ v', MSt M B gM r.2 v' (xs ++ r.1) w' ∧ Fr gM v w w' ∧ OwnRel v v' w
theorem WPost.from {M : MkV} {B gM : Nat} {v : Value} {xs : List ItemV} {w w2 : World} {r : List ItemV × Bool} {e : Ending} {w' : World} (h : WPost M B gM v xs w2 r e w') (hb : Below w.heap.size w w2) : WPost M B gM v xs w r e w' := by
  obtain ⟨he, v', h1, h2, h3⟩ := h
  exact ⟨he, v', h1, (Fr.below hb).trans (.inl rfl) h2, h3.imp id (fun ⟨g, a, b⟩ => ⟨g, a, Nat.le_trans hb.size b⟩)⟩
def BoxC (M : MkV) (B gM u : Nat) : Prop := ∀ (at_ : Nat) (bl : Bool) (v : Value) (xs : List ItemV) (w : World), MSt M B gM bl v xs w → at_ < M.nb → M.nb ≤ at_ + u → xs.length + costB M.bs u at_ ≤ 4194304 →
  Calls Tryd.prog 41 #[.pointer (some ⟨gM, 0, none⟩), .int .i64 (at_ : Nat)] w (WPost M B gM v xs w (boxW M u at_ bl))
def KidsC (M : MkV) (B gM u : Nat) : Prop := ∀ (at_ : Nat) (bl : Bool) (v : Value) (xs : List ItemV) (w : World), MSt M B gM bl v xs w → at_ < M.nb → M.nb ≤ at_ + 1 + u → xs.length + costL (costB M.bs u) (bx M.bs at_).kids ≤ 4194304 →
  Calls Tryd.prog 26 #[.pointer (some ⟨gM, 0, none⟩), .int .i64 (at_ : Nat)] w (WPost M B gM v xs w (walkL (boxW M u) (bx M.bs at_).kids bl))
/-- The maker behind the first k kids. -/
structure KG (M : MkV) (B gM u : Nat) (v : Value) (xs : List ItemV) (ks : List Int) (bl : Bool) (w : World) (k : Nat) (wr : World) : Prop where
  mst : ∃ b out v', MSt M B gM b v' out wr ∧ Fr gM v w wr ∧ OwnRel v v' w ∧ out ++ (walkL (boxW M u) (ks.drop k) b).1 = xs ++ (walkL (boxW M u) ks bl).1 ∧ (walkL (boxW M u) (ks.drop k) b).2 = (walkL (boxW M u) ks bl).2 ∧ out.length + costL (costB M.bs u) (ks.drop k) ≤ 4194304
section
variable {M : MkV} {B gM u : Nat} {v : Value} {xs : List ItemV} {ks : List Int} {bl : Bool} {w wr : World} {k : Nat}
theorem KG.start (h : MSt M B gM bl v xs w) (hx : xs.length + costL (costB M.bs u) ks ≤ 4194304) : KG M B gM u v xs ks bl w 0 w := ⟨bl, xs, v, h, Fr.refl, .inl rfl, rfl, rfl, hx⟩
theorem KG.done (h : KG M B gM u v xs ks bl w ks.length wr) : WPost M B gM v xs w (walkL (boxW M u) ks bl) (.returned (.tuple #[])) wr := by
  obtain ⟨b, out, v', h1, h2, h3, h4, h5, h6⟩ := h.mst
  rw [List.drop_length] at h4 h5
  simp only [walkL, List.append_nil] at h4 h5
  refine ⟨rfl, v', ?_, h2, h3⟩
  rw [← h4, ← h5]
  exact h1
theorem KG.round (hB : BoxC M B gM u) (h : KG M B gM u v xs ks bl w k wr) (hk : k < ks.length) (z : Nat) (hz : ks.getD k 0 = (z : Int)) (hzn : z < M.nb) (hzu : M.nb ≤ z + u) :
    Calls Tryd.prog 41 #[.pointer (some ⟨gM, 0, none⟩), .int .i64 (z : Nat)] wr fun e w' => e = .returned (.tuple #[]) ∧ KG M B gM u v xs ks bl w (k + 1) w' := by
  obtain ⟨b, out, v', h1, h2, h3, h4, h5, h6⟩ := h.mst
  have hd : ks.drop k = (z : Int) :: ks.drop (k + 1) := by
    rw [List.drop_eq_getElem_cons hk]
    congr 1
    simpa [List.getD, hk] using hz
  rw [hd] at h4 h5 h6
  simp only [walkL, costL, Int.toNat_natCast] at h4 h5 h6
  refine (hB z b v' out wr h1 hzn hzu (by omega)).mono ?_
  rintro e w' ⟨rfl, v2, q1, q2, q3⟩
  have hl := box_len M u z b
  refine ⟨rfl, _, _, v2, q1, h2.trans h3 q2, h3.trans h2.size q3, ?_, h5, ?_⟩
  · rw [List.append_assoc]; exact h4
  · rw [List.length_append]; omega
end
set_option maxRecDepth 1000000 in
set_option maxHeartbeats 2000000 in
theorem kids_step (M : MkV) (B gM u : Nat) (hM : MOk M) (hB : BoxC M B gM u) : KidsC M B gM u := by
  intro at_ bl v xs w h hk hu hx
  have hkf : ∀ j : Int, j ∈ (bx M.bs at_).kids → (at_ : Int) < j ∧ j < M.bs.length ∧ par M.bs j.toNat = at_ := fun j hj => kid_of hM.kids (i := at_) (by rw [hM.hn]; exact hk) hj
  obtain ⟨bB, offB, eB, hbB, -, -, -, c3, -, hkids, hkl⟩ := h.boxes.at_ (i := at_) (by rw [hM.hn]; exact hk)
  have g0 : w.cell? ⟨gM, 0, none⟩ = some (.slice (some ⟨bB, offB, none⟩) M.nb M.cb) := by have := h.blk.cell 0; rw [this, ← eB]; rfl
  have HKB : Hid (∀ b' v' out wr, MSt M B gM b' v' out wr → Holds wr B (bx M.bs at_).kidsA ((bx M.bs at_).kids.map (Value.int .i64))) := fun b' v' out wr hm => by
    obtain ⟨_, _, _, _, -, -, -, -, -, hh, -⟩ := hm.boxes.at_ (i := at_) (by rw [hM.hn]; exact hk)
    exact hh
  obtain ⟨ks, hks⟩ : ∃ x, x = (bx M.bs at_).kids := ⟨_, rfl⟩
  obtain ⟨kA, hkA⟩ : ∃ x, x = (bx M.bs at_).kidsA := ⟨_, rfl⟩
  obtain ⟨kc, hkc⟩ : ∃ x, x = (bx M.bs at_).kcap := ⟨_, rfl⟩
  have HLT : Hid (at_ < M.nb) := hk
  rw [← hks, ← hkA] at HKB
  rw [← hks, ← hkA, ← hkc] at c3
  rw [← hks] at hkl hx hkf ⊢
  have HKF : Hid (∀ k, k < ks.length → ∃ z : Nat, ks.getD k 0 = (z : Int) ∧ z < M.nb ∧ M.nb ≤ z + u) := fun k hk => by
    have h1 := hkf (ks.getD k 0) (by simp [List.getD, hk])
    have h2 := hM.hn
    exact ⟨(ks.getD k 0).toNat, by omega, by omega, by omega⟩
  have HB := Lib.hid hB
  have HST := Lib.hid (KG.start h hx)
  clear h hx hks hkA hkc hM hB hkids eB hkf hu
  go_enter Tryd.func26, Tryd.ntmps26
  go_wp2_with fail
  go_loopw [15] (fun i wr => ∃ k : Nat, k ≤ ks.length ∧ i = .int .i64 k ∧ Hid (KG M B gM u v xs ks bl w k wr)) (fun i _ => ks.length - (intOf i).toNat)
  case atStart => exact ⟨0, Nat.zero_le _, rfl, HST.out⟩
  case round =>
    obtain ⟨k, hkl2, rfl, HG⟩ := hrel
    by_cases hlt : k < ks.length
    · have hh : ∃ b' off', kA = some ⟨b', off', none⟩ ∧ b' < B ∧ wr.cell? ⟨b', off' + k, none⟩ = some (.int .i64 (ks.getD k 0)) := by
        obtain ⟨b1, out, v', h1, _⟩ := HG.out.mst
        obtain ⟨b', off', a1, a2, a3⟩ := (HKB.out b1 v' out wr h1).ints hlt
        exact ⟨b', off', a1, a2, a3⟩
      obtain ⟨b', off', rfl, hb', hc'⟩ := hh
      obtain ⟨z, hz, hzn, hzu⟩ := HKF.out k hlt
      rw [hz] at hc'
      have HR := Lib.hid (KG.round HB.out HG.out hlt z hz hzn hzu)
      clear hz hzn hzu HKB HG HST HB HKF
      go_wp2_with (go_at_call 41; refine HR.out.mono ?_; rintro e wq ⟨rfl, hq⟩; have HQ := Lib.hid hq; clear hq)
      go_roundw
      case rel => exact ⟨k + 1, by omega, by go_num, HQ⟩
      case measure => simp [intOf]; omega
    · obtain rfl : k = ks.length := by omega
      have qi : decide (ks.length < ks.length) = false := decide_eq_false (by omega)
      clear HKB HST HB HKF
      go_wp2_with fail
      (try simp only [Exit.inBlock, Exit.then]); refine bodyPost_ret (results_none rfl _ _ _) rfl ?_
      exact HG.out.done
end Go.Proofs.YtpamfhplklhnpaaDoor
