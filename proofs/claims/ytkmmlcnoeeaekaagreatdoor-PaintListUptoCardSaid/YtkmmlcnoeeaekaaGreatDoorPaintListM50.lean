/- Several texts in one: PntE. -/
import Derived.Test.YtkmmlcnoeeaekaaGreatDoorPaintListM47
import Derived.Test.YtkmmlcnoeeaekaaGreatDoorPaintListM48
import Derived.Test.YtkmmlcnoeeaekaaGreatDoorPaintListM37
import Derived.Test.YtkmmlcnoeeaekaaGreatDoorPaintListM49
/- Contracts for the law's PaintList: the program's List, the reference's Stack and Cmds, at what the law hands them. -/
namespace Go.Proofs.YtkmmlcnoeeaekaaGreatDoor
open Go.RowKit
set_option linter.unusedVariables false
set_option linter.unusedSimpArgs false

theorem cmds_calls (L : LayV) (ns : List (Nat × Nat)) (As : Option Addr) (cS : Nat) (hp0 : 0 < L.nf) (hns : ns.length ≤ 1048576) (hflt : ∀ k, k < ns.length → hF ns k < L.nf) (hfb : ∀ i, i < L.nf → FragB (fr L.fs i)) :
    ∀ (d f t : Nat) (w : World), t - f ≤ d → L.ok w w.heap.size → Holds w w.heap.size As (steps ns) → t ≤ ns.length → f ≤ t → Shut (endAt ns) f t → CmdsSays L ns As cS f t w := by
  intro d
  induction d with
  | zero => exact fun f t w hd h hS ht hft hsh => cmds_round L ns As cS f t w h hS hp0 hns ht hft hsh hflt hfb (fun k w' h1 h2 _ _ _ => by omega)
  | succ d ih =>
    exact fun f t w hd h hS ht hft hsh => cmds_round L ns As cS f t w h hS hp0 hns ht hft hsh hflt hfb (fun k w' h1 h2 h3 h4 h5 => by
      have h6 := h3.1 k (Nat.le_refl _) h2
      exact ih (k + 1) (endAt ns k) w' (by omega) h4 h5 (by omega) (by omega) (h3.inner h2))
open Classical in
/-- What is wrong, by number; what is told. -/
noncomputable def pErr (I : InV) (F : FrV) (EW EH : Int) : Int := if sfitsE I.ns I.nl I.lz ≠ 0 then sfitsE I.ns I.nl I.lz else if scrP EW EH = false then 1 else if LayOk I.bs F.fs ∧ LooksOk I.nl I.bs then 0 else 3
def pNs (I : InV) (F : FrV) : List (Nat × Nat) := stepsOf I.bs F.fs (lookAt I.lz I.tbl I.bs)
def pLst (I : InV) (F : FrV) : List CmdV := pCmds (layL I F 0 0) (pNs I F) 0 (pNs I F).length
open Classical in
noncomputable def pOut (I : InV) (F : FrV) (EW EH : Int) : List CmdV := if pErr I F EW EH = 0 then pLst I F else []
theorem plist2_calls (I : InV) (F : FrV) (EW EH : Int) (ED EP : Bool) (w : World) (h : I.ok w w.heap.size) (hF : F.ok w w.heap.size) :
    Calls Tryz.prog 22 #[docA I, .slice I.Al I.nl I.cl, .agg #[.int .i64 EW, .int .i64 EH, .bool ED, .bool EP], layA I F] w fun e w' => ∃ A' c', e = .returned (.tuple #[.slice A' (pOut I F EW EH).length c', .int .i64 (pErr I F EW EH)]) ∧ w'.ownsRow w.heap.size 64 9 (.slice A' (pOut I F EW EH).length c') (pOut I F EW EH).length (cmds (pOut I F EW EH)) ∧ Below w.heap.size w w' := by
  refine (plist_calls I.A I.n I.c I.q I.ns I.Al I.nl I.cl I.lz I.tbl I.Ab I.nb I.cb I.bs F.Af F.nf F.cf F.fs I.W1 I.H1 EW EH ED EP w h.hn0 h.nodes h.n0 h.hl h.hb hF.hf h.boxes hF.frags h.looks h.tab h.pos h.l64 h.t64 h.nb0 hF.nf0 h.nl0 hF.fb).mono ?_
  rintro e w' ⟨hp, hb⟩
  rcases hp with ⟨h1, rfl⟩ | ⟨h1, h2, rfl⟩ | ⟨h1, h2, h3, rfl⟩ | ⟨h1, h2, h3, h4, v, rfl, ho⟩
  · have he : pErr I F EW EH = sfitsE I.ns I.nl I.lz := by unfold pErr; rw [if_pos h1]
    have hx : pOut I F EW EH = [] := by unfold pOut; rw [if_neg (by rw [he]; exact h1)]
    rw [he, hx]
    exact ⟨none, 0, rfl, World.ownsRow_nil _ _ _ _, hb⟩
  · have he : pErr I F EW EH = 1 := by unfold pErr; rw [if_neg (fun h => h h1), if_pos h2]
    have hx : pOut I F EW EH = [] := by unfold pOut; rw [if_neg (by rw [he]; decide)]
    rw [he, hx]
    exact ⟨none, 0, rfl, World.ownsRow_nil _ _ _ _, hb⟩
  · have he : pErr I F EW EH = 3 := by unfold pErr; rw [if_neg (fun h => h h1), if_neg (by rw [h2]; decide), if_neg h3]
    have hx : pOut I F EW EH = [] := by unfold pOut; rw [if_neg (by rw [he]; decide)]
    rw [he, hx]
    exact ⟨none, 0, rfl, World.ownsRow_nil _ _ _ _, hb⟩
  · have he : pErr I F EW EH = 0 := by unfold pErr; rw [if_neg (fun h => h h1), if_neg (by rw [h2]; decide), if_pos ⟨h3, h4⟩]
    have hx : pOut I F EW EH = pLst I F := by unfold pOut; rw [if_pos he]
    rw [he, hx]
    obtain ⟨A', c', rfl⟩ := own_open ho
    exact ⟨A', c', rfl, ho, hb⟩
theorem layL_ok (I : InV) (F : FrV) (gL cL base : Nat) (w : World) (h : I.ok w w.heap.size) (hF : F.ok w w.heap.size) (ho : w.ownsRow base 35 118 (.slice (some ⟨gL, 0, none⟩) I.nb cL) I.nb (rows I.nb (lookRow I.lz I.tbl I.bs))) (hok : LayOk I.bs F.fs) : (layL I F gL cL).ok w w.heap.size := layV_ok (Ab := I.Ab) (cb := I.cb) (Af := F.Af) (cf := F.cf) (W1 := I.W1) (H1 := I.H1) h.hb hF.hf h.boxes hF.frags ho h.l64 h.t64 hok h.nb0 hF.nf0
theorem layL_steps (I : InV) (F : FrV) (gL cL : Nat) (hf : F.fs.length = F.nf) : (layL I F gL cL).steps = pNs I F := by
  show tellN _ F.nf 0 0 = tellN _ F.fs.length 0 0
  rw [hf]
  rfl
theorem layL_pos (I : InV) (F : FrV) (gL cL : Nat) (hf : F.fs.length = F.nf) (hok : LayOk I.bs F.fs) : 0 < (layL I F gL cL).nf := by show 0 < F.nf; have := hok.2.2.1; rw [← hf]; exact this
theorem pNs_len (I : InV) (F : FrV) (gL cL base : Nat) (w : World) (h : I.ok w w.heap.size) (hF : F.ok w w.heap.size) (ho : w.ownsRow base 35 118 (.slice (some ⟨gL, 0, none⟩) I.nb cL) I.nb (rows I.nb (lookRow I.lz I.tbl I.bs))) (hok : LayOk I.bs F.fs) : (pNs I F).length ≤ 1048576 := by
  have h1 : (layL I F gL cL).steps.length ≤ F.nf := steps_le (layL_ok I F gL cL base w h hF ho hok) (layL_pos I F gL cL hF.hf hok)
  rw [layL_steps I F gL cL hF.hf] at h1
  exact Nat.le_trans h1 hF.nf0
theorem pNs_lam (I : InV) (F : FrV) : Lam (pNs I F) 0 := steps_lam _ _ _
theorem pLst_len (I : InV) (F : FrV) (gL cL base : Nat) (w : World) (h : I.ok w w.heap.size) (hF : F.ok w w.heap.size) (ho : w.ownsRow base 35 118 (.slice (some ⟨gL, 0, none⟩) I.nb cL) I.nb (rows I.nb (lookRow I.lz I.tbl I.bs))) (hok : LayOk I.bs F.fs) : (pLst I F).length ≤ 9437184 := by
  have h1 := pCmds_len (layL I F 0 0) (pNs I F) (shut_of_lam (pNs_lam I F))
  have h2 := pNs_len I F gL cL base w h hF ho hok
  have h3 : ((pNs I F).length - 0) * 9 ≤ 1048576 * 9 := Nat.mul_le_mul_right _ (by omega)
  exact Nat.le_trans h1 (by omega)
theorem rstack2_calls (I : InV) (F : FrV) (gL cL base : Nat) (w : World) (h : I.ok w w.heap.size) (hF : F.ok w w.heap.size) (ho : w.ownsRow base 35 118 (.slice (some ⟨gL, 0, none⟩) I.nb cL) I.nb (rows I.nb (lookRow I.lz I.tbl I.bs))) (hok : LayOk I.bs F.fs) : Calls Tryz.prog 23 #[.slice (some ⟨gL, 0, none⟩) I.nb cL, layA I F] w fun e w' => ∃ A' c', e = .returned (.slice A' (pNs I F).length c') ∧ w'.ownsRow w.heap.size 94 2 (.slice A' (pNs I F).length c') (pNs I F).length (steps (pNs I F)) ∧ Below w.heap.size w w' := by
  have hc := rstack_calls (layL I F gL cL) w.heap.size w (layL_ok I F gL cL base w h hF ho hok) (Nat.le_refl _) (layL_pos I F gL cL hF.hf hok)
  rw [layL_steps I F gL cL hF.hf] at hc
  refine hc.mono ?_
  rintro e w' ⟨v, rfl, h1, h2⟩
  obtain ⟨A', c', rfl⟩ := own_open h1
  exact ⟨A', c', rfl, h1, h2⟩
theorem rcmds2_calls (I : InV) (F : FrV) (gL cL base : Nat) (w : World) (h : I.ok w w.heap.size) (hF : F.ok w w.heap.size) (ho : w.ownsRow base 35 118 (.slice (some ⟨gL, 0, none⟩) I.nb cL) I.nb (rows I.nb (lookRow I.lz I.tbl I.bs))) (hok : LayOk I.bs F.fs) (As : Option Addr) (cS : Nat) (hS : Holds w w.heap.size As (steps (pNs I F))) : Calls Tryz.prog 25 #[.slice (some ⟨gL, 0, none⟩) I.nb cL, layA I F, .slice As (pNs I F).length cS, .int .i64 0, .int .i64 ((pNs I F).length : Nat)] w fun e w' => ∃ A' c', e = .returned (.slice A' (pLst I F).length c') ∧ w'.ownsRow w.heap.size 64 9 (.slice A' (pLst I F).length c') (pLst I F).length (cmds (pLst I F)) ∧ Below w.heap.size w w' := by
  have hn : F.fs.length = F.nf := hF.hf
  have hp := layL_pos I F gL cL hF.hf hok
  have hc := cmds_calls (layL I F gL cL) (pNs I F) As cS hp (pNs_len I F gL cL base w h hF ho hok) (fun k hk => by
    have := steps_in I.bs F.fs (lookAt I.lz I.tbl I.bs) (by rw [hn]; exact hp) (k := k) hk
    rw [hn] at this
    exact this) hF.fb (pNs I F).length 0 (pNs I F).length w (by omega) (layL_ok I F gL cL base w h hF ho hok) hS (Nat.le_refl _) (Nat.zero_le _) (shut_of_lam (pNs_lam I F))
  exact hc
end Go.Proofs.YtkmmlcnoeeaekaaGreatDoor
