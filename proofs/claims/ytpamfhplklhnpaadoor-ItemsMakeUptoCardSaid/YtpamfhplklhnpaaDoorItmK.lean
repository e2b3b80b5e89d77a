/- The contract of items.Make. -/
import Derived.Test.YtpamfhplklhnpaaDoorItmJ
namespace Go.Proofs.YtpamfhplklhnpaaDoor
open Go.RowKit
set_option linter.unusedVariables false
set_option linter.unusedSimpArgs false

theorem boxC_all {M : MkV} {B gM : Nat} (hM : MOk M) : ∀ u, BoxC M B gM u
  | 0 => fun at_ bl v xs w h hk hu hx => absurd hu (by omega)
  | u + 1 => box_step M B gM u hM (kids_step M B gM u hM (boxC_all hM u))
theorem kidsC_all {M : MkV} {B gM : Nat} (hM : MOk M) (u : Nat) : KidsC M B gM u := kids_step M B gM u hM (boxC_all hM u)
/-- The items of a box of lines. -/
def itemsL (M : MkV) (at_ : Nat) : List ItemV := (walkL (boxW M M.nb) (bx M.bs at_).kids true).1
noncomputable def makeE (bs : List BoxV) (nl : Nat) (at_ : Int) : Int := if ¬ boxesE bs = 0 then 3 else if ¬ nl = bs.length then 3 else if at_ < 0 ∨ (bs.length : Int) ≤ at_ then 5 else if ¬ (bx bs at_.toNat).kind = 2 then 7 else 0
theorem mok_of {M : MkV} (h : boxesE M.bs = 0) (hn : M.bs.length = M.nb) (hl : M.nl = M.nb) (hlz : M.lz.length = M.nl * 118) (ht : textAll M.bs ≤ 1048576) : MOk M := by
  refine ⟨hl, hlz, hn, ?_, fun i => Nat.le_trans (text_all M.bs i) ht⟩
  have h1 : BoxesOk M.bs := by
    by_cases h2 : BoxesOk M.bs
    · exact h2
    · rw [boxesE_no _ h2] at h; cases h
  exact fun i hi => (h1.1 i hi).2
theorem cost_kids {M : MkV} (h : MOk M) (ht : textAll M.bs ≤ 1048576) {at_ : Nat} (hk : at_ < M.nb) : costL (costB M.bs M.nb) (bx M.bs at_).kids ≤ 4194304 := by
  have h1 := cost_all M.bs h.kids (M.nb + 1) at_ (by rw [h.hn]; exact hk)
  rw [costB] at h1
  omega
def MakeP (M : MkV) (at_ : Int) (w : World) (e : Ending) (w' : World) : Prop :=
  ∃ A n c, e = .returned (.tuple #[.slice A n c, .int .i64 (makeE M.bs M.nl at_)]) ∧ Below w.heap.size w w' ∧ (makeE M.bs M.nl at_ ≠ 0 → n = 0) ∧ (makeE M.bs M.nl at_ = 0 → n = (itemsL M at_.toNat).length ∧ w'.ownsRow w.heap.size 40 11 (.slice A n c) n (items (itemsL M at_.toNat)))
set_option maxRecDepth 1000000 in
set_option maxHeartbeats 4000000 in
theorem make_calls (M : MkV) (at_ : Int) (w : World) (hn : M.bs.length = M.nb) (hlz : M.lz.length = M.nl * 118) (hb : Boxes w w.heap.size M.Ab M.bs) (hL : Holds w w.heap.size M.Al (ints M.lz)) (hm : M.nb ≤ 17592186044404) (hml : M.nl ≤ 17592186044404) (ht : textAll M.bs ≤ 1048576) (ha : -9223372036854775808 ≤ at_ ∧ at_ ≤ 9223372036854775807) :
    Calls Tryd.prog 8 #[.slice M.Ab M.nb M.cb, .slice M.Al M.nl M.cl, .int .i64 at_, .int .i64 M.room] w (MakeP M at_ w) := by
  have HB := Lib.hid hb
  have HL := Lib.hid hL
  have HN := Lib.hid hn
  have HLZ := Lib.hid hlz
  have HT := Lib.hid ht
  have hC := check_calls M.Ab M.nb M.cb w.heap.size M.bs w hn hb hm (Nat.le_refl _)
  have HC := Lib.hid hC
  obtain ⟨r, hr⟩ : ∃ x, x = makeE M.bs M.nl at_ := ⟨_, rfl⟩
  have HR := Lib.hid hr
  have hfin : ∀ (A : Option Addr) (n c : Nat) (w' : World) (k : Int), k = r → r ≠ 0 → n = 0 → Below w.heap.size w w' → MakeP M at_ w (.returned (.tuple #[.slice A n c, .int .i64 k])) w' := fun A n c w' k hk h0 hn0 hbw => by
    subst hk; subst hn0
    exact ⟨A, 0, c, by rw [← HR.out], hbw, fun _ => rfl, fun h => absurd (HR.out.trans h) h0⟩
  have HF := Lib.hid hfin
  clear hb hL hn hlz ht hC hr hfin
  by_cases e0 : boxesE M.bs = 0
  · rw [e0] at HC
    by_cases e1 : M.nl = M.nb
    · have q1 : ((M.nl : Int) != (M.nb : Int)) = false := by simp [e1]
      have q1' : (M.nl != M.nb) = false := by simp [e1]
      by_cases e2 : at_ < 0
      · have hr : r = 5 := by rw [HR.out]; unfold makeE; rw [if_neg (by simp [e0]), if_neg (by rw [HN.out]; simp [e1]), if_pos (.inl e2)]
        have q2 : decide (at_ < 0) = true := decide_eq_true e2
        have HRR := Lib.hid hr
        have HE := Lib.hid e1
        clear hr e1 e0
        go_enter Tryd.func8, Tryd.ntmps8
        go_wp2_with (go_at_call 25; refine HC.out.mono ?_; rintro e w1 ⟨rfl, hb1⟩; have HB1 := Lib.hid hb1; clear hb1)
        go_ret2
        exact HF.out none 0 0 w1 _ (by rw [HRR.out]) (by rw [HRR.out]; decide) rfl HB1.out
      by_cases e3 : (M.nb : Int) ≤ at_
      · have hr : r = 5 := by rw [HR.out]; unfold makeE; rw [if_neg (by simp [e0]), if_neg (by rw [HN.out]; simp [e1]), if_pos (.inr (by rw [HN.out]; exact e3))]
        have q2 : decide (at_ < 0) = false := decide_eq_false e2
        have q3 : decide ((M.nb : Int) ≤ at_) = true := decide_eq_true e3
        have HRR := Lib.hid hr
        have HE := Lib.hid e1
        clear hr e1 e0 e2 e3
        go_enter Tryd.func8, Tryd.ntmps8
        go_wp2_with (go_at_call 25; refine HC.out.mono ?_; rintro e w1 ⟨rfl, hb1⟩; have HB1 := Lib.hid hb1; clear hb1)
        go_ret2
        exact HF.out none 0 0 w1 _ (by rw [HRR.out]) (by rw [HRR.out]; decide) rfl HB1.out
      obtain ⟨k, rfl⟩ : ∃ k : Nat, at_ = k := ⟨at_.toNat, by omega⟩
      have hk : k < M.nb := by omega
      have q2 : decide ((k : Int) < 0) = false := decide_eq_false e2
      have q3 : decide ((M.nb : Int) ≤ (k : Int)) = false := decide_eq_false e3
      have q3' : decide (M.nb ≤ k) = false := decide_eq_false (by omega)
      obtain ⟨bB, offB, eB, hbB, c0, -, -, -, -, -, -⟩ := HB.out.at_ (i := k) (by rw [HN.out]; exact hk)
      obtain ⟨kd, hkd⟩ : ∃ x, x = (bx M.bs k).kind := ⟨_, rfl⟩
      rw [← hkd] at c0
      have HKD := Lib.hid hkd
      have HC0 : Hid (∀ w', Below w.heap.size w w' → w'.cell? ⟨bB, offB + k * 5, none⟩ = some (.int .i64 kd)) := fun w' hb => (hb.cell (p := ⟨bB, offB + k * 5, none⟩) hbB).trans c0
      have hmk : boxesE M.bs = 0 ∧ M.nl = M.nb := ⟨e0, e1⟩
      by_cases e4 : kd = 2
      · have hr : r = 0 := by rw [HR.out]; unfold makeE; rw [if_neg (by simp [e0]), if_neg (by rw [HN.out]; simp [e1]), if_neg (by rw [HN.out]; omega), if_neg (by rw [Int.toNat_natCast, ← HKD.out]; simp [e4])]
        have HRR := Lib.hid hr
        have hM := mok_of hmk.1 HN.out hmk.2 HLZ.out HT.out
        have HM := Lib.hid hM
        have HK : Hid (k < M.nb) := hk
        have HKI : Hid (∀ w1, Below w.heap.size w w1 → MSt M w.heap.size w1.heap.size true (.slice none 0 0) [] (w1.alloc (.cells (mkC M true (.slice none 0 0)) 63)) ∧ Calls Tryd.prog 26 #[.pointer (some ⟨w1.heap.size, 0, none⟩), .int .i64 (k : Nat)] (w1.alloc (.cells (mkC M true (.slice none 0 0)) 63)) (WPost M w.heap.size w1.heap.size (.slice none 0 0) [] (w1.alloc (.cells (mkC M true (.slice none 0 0)) 63)) (walkL (boxW M M.nb) (bx M.bs k).kids true))) := fun w1 hb1 => by
          have hb2 := below_alloc hb1 (.cells (mkC M true (.slice none 0 0)) 63)
          have hst : MSt M w.heap.size w1.heap.size true (.slice none 0 0) [] (w1.alloc (.cells (mkC M true (.slice none 0 0)) 63)) :=
            ⟨Blk.new _ _ _, World.ownsRow_nil _ _ _ _, HB.out.below hb2 (Nat.le_refl _), HL.out.below hb2 (Nat.le_refl _), hb2.size, hb1.size⟩
          exact ⟨hst, kidsC_all HM.out M.nb k true _ [] _ hst HK.out (by omega) (by rw [List.length_nil, Nat.zero_add]; exact cost_kids HM.out HT.out HK.out)⟩
        subst e4
        have hAb : M.Ab = some ⟨bB, offB, none⟩ := eB
        obtain ⟨Ab, hA⟩ : ∃ x, x = M.Ab := ⟨_, rfl⟩
        clear hr e1 e0 e2 e3 c0 hkd hmk hM eB
        have mk : ∀ bl v, mkC M bl v = #[.slice M.Ab M.nb M.cb, .slice M.Al M.nl M.cl, .int .i64 M.room, .bool bl, v] := fun _ _ => rfl
        have HMC := Lib.hid mk
        clear mk
        go_enter Tryd.func8, Tryd.ntmps8
        rw [hAb]
        go_upto_region 8 with (go_at_call 25; rw [← hAb]; refine HC.out.mono ?_; rintro e w1 ⟨rfl, hb1⟩; have HB1 := Lib.hid hb1; have s0 := HC0.out w1 hb1; clear hb1)
        go_upto_region 11 with fail
        rw [← hAb]
        obtain ⟨hst, hki⟩ := HKI.out w1 HB1.out
        rw [HMC.out] at hki hst
        have HKK := Lib.hid hki
        have HBS : Hid (Below w.heap.size w (w1.alloc (.cells #[.slice M.Ab M.nb M.cb, .slice M.Al M.nl M.cl, .int .i64 M.room, .bool true, .slice none 0 0] 63))) := below_alloc HB1.out _
        have HST := Lib.hid hst
        clear hki hst s0 hAb
        go_upto_region 12 with (go_at_call 26; refine HKK.out.mono ?_; rintro e w2 ⟨rfl, v2, hm2, hf2, -⟩; obtain ⟨A2, c2, rfl⟩ := own_open hm2.own; have HM2 := Lib.hid hm2; have HF2 := Lib.hid hf2; have s4 : w2.cell? ⟨w1.heap.size, 4, none⟩ = some (.slice A2 _ c2) := hm2.blk.cell 4; clear hm2 hf2)
        go_wp2_with fail
        go_ret2
        refine ⟨A2, ([] ++ (walkL (boxW M M.nb) (bx M.bs k).kids true).1).length, c2, by rw [← HR.out, HRR.out]; rfl, HBS.out.trans (HST.out.under HF2.out), fun h => absurd (HR.out.symm.trans HRR.out) h, fun _ => ⟨?_, ?_⟩⟩
        · simp [itemsL]
        · have := HM2.out.own
          simpa [itemsL] using this
      · have hr : r = 7 := by rw [HR.out]; unfold makeE; rw [if_neg (by simp [e0]), if_neg (by rw [HN.out]; simp [e1]), if_neg (by rw [HN.out]; omega), if_pos (by rw [Int.toNat_natCast, ← HKD.out]; exact e4)]
        have HRR := Lib.hid hr
        have q4 : (kd != 2) = true := by simpa using e4
        clear hr e1 e0 e2 e3 e4 c0 hkd hmk
        go_enter Tryd.func8, Tryd.ntmps8
        rw [eB]
        go_wp2_with (go_at_call 25; rw [← eB]; refine HC.out.mono ?_; rintro e w1 ⟨rfl, hb1⟩; have HB1 := Lib.hid hb1; have s0 := HC0.out w1 hb1; clear hb1)
        go_ret2
        exact HF.out none 0 0 w1 _ (by rw [HRR.out]) (by rw [HRR.out]; decide) rfl HB1.out
    · have q1 : ((M.nl : Int) != (M.nb : Int)) = true := by simp; omega
      have q1' : (M.nl != M.nb) = true := by simpa using e1
      have hr : r = 3 := by rw [HR.out]; unfold makeE; rw [if_neg (by simp [e0]), if_pos (by rw [HN.out]; exact e1)]
      have HRR := Lib.hid hr
      clear hr e1 e0
      go_enter Tryd.func8, Tryd.ntmps8
      go_wp2_with (go_at_call 25; refine HC.out.mono ?_; rintro e w1 ⟨rfl, hb1⟩; have HB1 := Lib.hid hb1; clear hb1)
      go_ret2
      exact HF.out none 0 0 w1 _ (by rw [HRR.out]) (by rw [HRR.out]; decide) rfl HB1.out
  · have h3 := (boxesE_or M.bs).resolve_left e0
    have hr : r = 3 := by rw [HR.out]; unfold makeE; rw [if_pos e0]
    rw [h3] at HC
    have HRR := Lib.hid hr
    clear hr e0 h3
    go_enter Tryd.func8, Tryd.ntmps8
    go_wp2_with (go_at_call 25; refine HC.out.mono ?_; rintro e w1 ⟨rfl, hb1⟩; have HB1 := Lib.hid hb1; clear hb1)
    go_ret2
    exact HF.out none 0 0 w1 _ (by rw [HRR.out]) (by rw [HRR.out]; decide) rfl HB1.out
end Go.Proofs.YtpamfhplklhnpaaDoor
