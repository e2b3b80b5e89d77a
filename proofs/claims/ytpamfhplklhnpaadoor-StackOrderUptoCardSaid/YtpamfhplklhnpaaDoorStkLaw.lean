/- StackOrder: the walk. -/
import Derived.Test.YtpamfhplklhnpaaDoorStkP
import Derived.Test.YtpamfhplklhnpaaDoorStkQ
import Derived.Test.YtpamfhplklhnpaaDoorStkR1
namespace Go.Proofs.YtpamfhplklhnpaaDoor
open Go.RowKit
set_option linter.unusedVariables false
set_option linter.unusedSimpArgs false
theorem steps_of {Ab : Option Addr} {nb cb : Nat} {bs : List BoxV} {Af : Option Addr} {nf cf : Nat} {fs : List FragV} {W1 H1 : Int} {gL cL : Nat} {lk : Nat → List Int} {ns : List (Nat × Nat)} (hf : fs.length = nf) (hns : ns = stepsOf bs fs lk) : (layV Ab nb cb bs Af nf cf fs W1 H1 gL cL lk).steps = ns := by
  subst hf; subst hns; rfl
theorem hs6_of {L : LayV} {w : World} {B : Nat} {ns : List (Nat × Nat)} (h : L.ok w B) (h0 : 0 < L.nf) (e : L.steps = ns) : ns.length ≤ L.nf := by rw [← e]; exact steps_le h h0
set_option maxRecDepth 1000000 in
set_option maxHeartbeats 8000000 in
theorem stackOrder_calls (Al : Option Addr) (nl cl : Nat) (lz tbl : List Int) (Ab : Option Addr) (nb cb : Nat) (bs : List BoxV) (Af : Option Addr) (nf cf : Nat) (fs : List FragV) (W1 H1 : Int) (w : World) (hl : lz.length = nl * 118) (hn : bs.length = nb) (hf : fs.length = nf)
    (h : Boxes w w.heap.size Ab bs) (h2 : Frags w w.heap.size Af fs) (h3 : Holds w w.heap.size Al (ints lz)) (hT : TabAt w tbl) (h0 : 0 < w.heap.size) (h64 : In64 lz) (ht64 : In64 tbl) (hm : nb ≤ 1048576) (hm2 : nf ≤ 1048576) (hm3 : nl ≤ 1048576) :
    Calls Tryd.prog 4 #[.slice Al nl cl, .agg #[.slice Ab nb cb, .slice Af nf cf, .int .i64 W1, .int .i64 H1]] w fun e w' => e = .returned (.bool true) ∧ Below w.heap.size w w' := by
  have HBA := Lib.hid (below_alloc (Below.refl w.heap.size w) (.cells #[.slice Ab nb cb, .slice Af nf cf, .int .i64 W1, .int .i64 H1] 45))
  have HLA := Lib.hid (Blk.new w 45 #[.slice Ab nb cb, .slice Af nf cf, .int .i64 W1, .int .i64 H1])
  have HB' : ∀ X, Below w.heap.size w X → Boxes X X.heap.size Ab bs := fun X hX => (h.below hX (Nat.le_refl _)).more' hX.size
  have HF' : ∀ X, Below w.heap.size w X → Frags X X.heap.size Af fs := fun X hX => Holds.more (h2.below hX (Nat.le_refl _)) hX.size
  have HL' : ∀ X, Below w.heap.size w X → Holds X X.heap.size Al (ints lz) := fun X hX => Holds.more (h3.below hX (Nat.le_refl _)) hX.size
  have HOR : Hid (∀ X, Below w.heap.size w X → Calls Tryd.prog 12 #[.slice Al nl cl, .agg #[.slice Ab nb cb, .slice Af nf cf, .int .i64 W1, .int .i64 H1]] X (OrderPost bs fs nl lz tbl X)) := fun X hX => order_calls Al nl cl lz tbl Ab nb cb bs Af nf cf fs W1 H1 X hl hn hf (HB' X hX) (HF' X hX) (HL' X hX) (hT.below hX h0) (Nat.lt_of_lt_of_le h0 hX.size) h64 ht64 hm hm2 hm3
  have HCK : Hid (∀ X, Below w.heap.size w X → Calls Tryd.prog 15 #[.agg #[.slice Ab nb cb, .slice Af nf cf, .int .i64 W1, .int .i64 H1]] X fun e w' => e = .returned (.int .i64 (layE bs fs)) ∧ Below X.heap.size X w') := fun X hX => scheck_calls Ab nb cb bs Af nf cf fs W1 H1 w.heap.size X hn hf (h.below hX (Nat.le_refl _)) (h2.below hX (Nat.le_refl _)) hX.size hm hm2
  have HRL : Hid (∀ X, Below w.heap.size w X → Calls Tryd.prog 13 #[.agg #[.slice Ab nb cb, .slice Af nf cf, .int .i64 W1, .int .i64 H1]] X fun e w' => e = .returned (.bool (layE bs fs == 0)) ∧ Below X.heap.size X w') := fun X hX => rlay_calls Ab nb cb bs Af nf cf fs W1 H1 w.heap.size X hn hf (h.below hX (Nat.le_refl _)) (h2.below hX (Nat.le_refl _)) hX.size hm hm2
  have HLK : Hid (∀ X, Below w.heap.size w X → _) := fun X hX => looks_calls Ab nb cb bs Al nl cl lz tbl w.heap.size X hn hl (h.below hX (Nat.le_refl _)) (h3.below hX (Nat.le_refl _)) (hT.below hX h0) hX.size h0 hm hm3
  have HN := Lib.hid hn
  have HNF := Lib.hid hf
  have HBX := Lib.hid HB'
  have HFX := Lib.hid HF'
  have H64 := Lib.hid h64
  have HT64 := Lib.hid ht64
  clear hl hn hf h h2 h3 hT h0 h64 ht64 HB' HF' HL'
  by_cases hok : LayOk bs fs
  · have HOK := Lib.hid hok
    have HCK : Hid (∀ X, Below w.heap.size w X → Calls Tryd.prog 15 #[.agg #[.slice Ab nb cb, .slice Af nf cf, .int .i64 W1, .int .i64 H1]] X fun e w' => e = .returned (.int .i64 0) ∧ Below X.heap.size X w') := by
      have h1 := HCK.out; rw [layE_yes hok] at h1; exact h1
    have HRL : Hid (∀ X, Below w.heap.size w X → Calls Tryd.prog 13 #[.agg #[.slice Ab nb cb, .slice Af nf cf, .int .i64 W1, .int .i64 H1]] X fun e w' => e = .returned (.bool true) ∧ Below X.heap.size X w') := by
      have h1 := HRL.out; rw [layE_yes hok] at h1; exact h1
    by_cases hlo : LooksOk nl bs
    · have HLK : Hid (∀ X, Below w.heap.size w X → Calls Tryd.prog 16 #[.slice Ab nb cb, .slice Al nl cl] X fun e w' => (∃ v, e = .returned (.tuple #[v, .int .i64 0]) ∧ w'.ownsRow X.heap.size 28 118 v nb (rows nb (lookRow lz tbl bs))) ∧ Below X.heap.size X w') := fun X hX => (HLK.out X hX).mono fun e w' hh => by
        rcases hh with ⟨⟨v, he, ho, _⟩ | ⟨_, hno⟩, hb⟩
        · exact ⟨⟨v, he, ho⟩, hb⟩
        · exact absurd hlo hno
      have HOR : Hid (∀ X, Below w.heap.size w X → Calls Tryd.prog 12 #[.slice Al nl cl, .agg #[.slice Ab nb cb, .slice Af nf cf, .int .i64 W1, .int .i64 H1]] X fun e w' => (∃ v, e = .returned (.tuple #[v, .int .i64 0]) ∧ w'.ownsRow X.heap.size 55 2 v (stepsOf bs fs (lookAt lz tbl bs)).length (steps (stepsOf bs fs (lookAt lz tbl bs)))) ∧ Below X.heap.size X w') := fun X hX => (HOR.out X hX).mono fun e w' hh => by
        rcases hh with ⟨⟨_, _, v, he, ho⟩ | ⟨hno, _⟩, hb⟩
        · exact ⟨⟨v, he, ho⟩, hb⟩
        · exact absurd ⟨hok, hlo⟩ hno
      have hnf0 : 0 < nf := by rw [← HNF.out]; exact HOK.out.2.2.1
      have hnb0 : 0 < nb := by
        have h1 := (HOK.out.2.1 0 (by rw [HNF.out]; exact hnf0)).2.1
        have h2 := (HOK.out.2.1 0 (by rw [HNF.out]; exact hnf0)).1
        rw [HN.out] at h1; omega
      obtain ⟨ns, hns⟩ : ∃ x, x = stepsOf bs fs (lookAt lz tbl bs) := ⟨_, rfl⟩
      rw [← hns] at HOR
      have HNS := Lib.hid hns
      clear hok hlo hns
      go_enter Tryd.func4, Tryd.ntmps4
      go_wp2_with (first | (go_at_call 12; refine (HOR.out _ HBA.out).mono ?_; rintro e w1 ⟨⟨v, rfl, ho⟩, hb1⟩; obtain ⟨A1, c1, rfl⟩ := own_open ho; have HO1 := Lib.hid (own_low ho HBA.out.size); have HB1 := Lib.hid (below_then HBA.out hb1); have HL1 := Lib.hid (HLA.out.below hb1 HLA.out.lt); have l0 : w1.cell? ⟨w.heap.size, 0, none⟩ = some (.slice Ab nb cb) := HL1.out.cell 0; have l1 : w1.cell? ⟨w.heap.size, 1, none⟩ = some (.slice Af nf cf) := HL1.out.cell 1; have l2 : w1.cell? ⟨w.heap.size, 2, none⟩ = some (.int .i64 W1) := HL1.out.cell 2; have l3 : w1.cell? ⟨w.heap.size, 3, none⟩ = some (.int .i64 H1) := HL1.out.cell 3; clear ho hb1) | (go_at_call 13; refine (HRL.out _ HB1.out).mono ?_; rintro e w2 ⟨rfl, hb2⟩; have HO2 := Lib.hid (own_below HO1.out hb2); have HB2 := Lib.hid (below_then HB1.out hb2); have HL2 := Lib.hid (HL1.out.below hb2 HL1.out.lt); have m0 : w2.cell? ⟨w.heap.size, 0, none⟩ = some (.slice Ab nb cb) := HL2.out.cell 0; have m1 : w2.cell? ⟨w.heap.size, 1, none⟩ = some (.slice Af nf cf) := HL2.out.cell 1; have m2 : w2.cell? ⟨w.heap.size, 2, none⟩ = some (.int .i64 W1) := HL2.out.cell 2; have m3 : w2.cell? ⟨w.heap.size, 3, none⟩ = some (.int .i64 H1) := HL2.out.cell 3; clear hb2) | (go_at_call 16; refine (HLK.out _ HB2.out).mono ?_; rintro e w3 ⟨⟨v3, rfl, ho3⟩, hb3⟩; obtain ⟨gL, cL, rfl, hgLa, hgLb⟩ := own_some ho3 hnb0; have HV3 := Lib.hid ho3; have HO3 := Lib.hid (own_below HO2.out hb3); have HB3 := Lib.hid (below_then HB2.out hb3); have HL3 := Lib.hid (HL2.out.below hb3 HL2.out.lt); have n0 : w3.cell? ⟨w.heap.size, 0, none⟩ = some (.slice Ab nb cb) := HL3.out.cell 0; have n1 : w3.cell? ⟨w.heap.size, 1, none⟩ = some (.slice Af nf cf) := HL3.out.cell 1; have n2 : w3.cell? ⟨w.heap.size, 2, none⟩ = some (.int .i64 W1) := HL3.out.cell 2; have n3 : w3.cell? ⟨w.heap.size, 3, none⟩ = some (.int .i64 H1) := HL3.out.cell 3; clear hb3 ho3 hgLa hgLb) | (go_at_call 15; refine (HCK.out _ HB3.out).mono ?_; rintro e w4 ⟨rfl, hb4⟩; have HV4 := Lib.hid (own_below HV3.out hb4); have HO4 := Lib.hid (own_below HO3.out hb4); have HB4 := Lib.hid (below_then HB3.out hb4); have HL4 := Lib.hid (HL3.out.below hb4 HL3.out.lt); have o0 : w4.cell? ⟨w.heap.size, 0, none⟩ = some (.slice Ab nb cb) := HL4.out.cell 0; have o1 : w4.cell? ⟨w.heap.size, 1, none⟩ = some (.slice Af nf cf) := HL4.out.cell 1; have o2 : w4.cell? ⟨w.heap.size, 2, none⟩ = some (.int .i64 W1) := HL4.out.cell 2; have o3 : w4.cell? ⟨w.heap.size, 3, none⟩ = some (.int .i64 H1) := HL4.out.cell 3; clear hb4) | (go_at_call 14; refine (stacked_calls _).mono ?_; rintro e w5 ⟨rfl, hb5⟩; have HV5 := Lib.hid (own_below HV4.out hb5); have HO5 := Lib.hid (own_below HO4.out hb5); have HB5 := Lib.hid (below_then HB4.out hb5); have HL5 := Lib.hid (HL4.out.below hb5 HL4.out.lt); have p0 : w5.cell? ⟨w.heap.size, 0, none⟩ = some (.slice Ab nb cb) := HL5.out.cell 0; have p1 : w5.cell? ⟨w.heap.size, 1, none⟩ = some (.slice Af nf cf) := HL5.out.cell 1; have p2 : w5.cell? ⟨w.heap.size, 2, none⟩ = some (.int .i64 W1) := HL5.out.cell 2; have p3 : w5.cell? ⟨w.heap.size, 3, none⟩ = some (.int .i64 H1) := HL5.out.cell 3; clear hb5) | (go_at_call 18; have HLO5 : Hid ((layV Ab nb cb bs Af nf cf fs W1 H1 gL cL (lookAt lz tbl bs)).ok w5 w5.heap.size) := layV_ok HN.out HNF.out (HBX.out _ HB5.out) (HFX.out _ HB5.out) HV5.out H64.out HT64.out HOK.out hm hm2; refine (rstack_calls (layV Ab nb cb bs Af nf cf fs W1 H1 gL cL (lookAt lz tbl bs)) w5.heap.size w5 HLO5.out (Nat.le_refl _) hnf0).mono ?_; rintro e w6 ⟨v6, rfl, ho6, hb6⟩; have e6 : (layV Ab nb cb bs Af nf cf fs W1 H1 gL cL (lookAt lz tbl bs)).steps = ns := steps_of HNF.out HNS.out; rw [e6] at ho6; obtain ⟨A6, c6, rfl⟩ := own_open ho6; have HV6 := Lib.hid ho6; have HO6 := Lib.hid (own_below HO5.out hb6); have HB6 := Lib.hid (below_then HB5.out hb6); have hs6 : ns.length ≤ nf := hs6_of HLO5.out hnf0 e6; clear hb6 ho6 e6) | (go_at_call 17; refine (eqStep_calls A1 A6 _ c1 c6 w6.heap.size w6.heap.size ns w6 rfl (Holds.of_own HO6.out) (Holds.of_own HV6.out) (by omega) (Nat.le_refl _) (Nat.le_refl _)).mono ?_; rintro e w7 ⟨rfl, hb7⟩; have HB7 := Lib.hid (below_then HB6.out hb7); clear hb7))
      go_ret
      exact ⟨rfl, HB7.out⟩
    · have HLK : Hid (∀ X, Below w.heap.size w X → Calls Tryd.prog 16 #[.slice Ab nb cb, .slice Al nl cl] X fun e w' => e = .returned (.tuple #[.slice none 0 0, .int .i64 3]) ∧ Below X.heap.size X w') := fun X hX => (HLK.out X hX).mono fun e w' hh => by
        rcases hh with ⟨⟨v, _, _, ho⟩ | ⟨he, _⟩, hb⟩
        · exact absurd ho hlo
        · exact ⟨he, hb⟩
      have HOR : Hid (∀ X, Below w.heap.size w X → Calls Tryd.prog 12 #[.slice Al nl cl, .agg #[.slice Ab nb cb, .slice Af nf cf, .int .i64 W1, .int .i64 H1]] X fun e w' => e = .returned (.tuple #[.slice none 0 0, .int .i64 3]) ∧ Below X.heap.size X w') := fun X hX => (HOR.out X hX).mono fun e w' hh => by
        rcases hh with ⟨⟨_, ho, _⟩ | ⟨_, he⟩, hb⟩
        · exact absurd ho hlo
        · exact ⟨he, hb⟩
      clear hok hlo
      go_enter Tryd.func4, Tryd.ntmps4
      go_wp2_with (first | (go_at_call 12; refine (HOR.out _ HBA.out).mono ?_; rintro e w1 ⟨rfl, hb1⟩; have HB1 := Lib.hid (below_then HBA.out hb1); have HL1 := Lib.hid (HLA.out.below hb1 HLA.out.lt); have l0 : w1.cell? ⟨w.heap.size, 0, none⟩ = some (.slice Ab nb cb) := HL1.out.cell 0; have l1 : w1.cell? ⟨w.heap.size, 1, none⟩ = some (.slice Af nf cf) := HL1.out.cell 1; have l2 : w1.cell? ⟨w.heap.size, 2, none⟩ = some (.int .i64 W1) := HL1.out.cell 2; have l3 : w1.cell? ⟨w.heap.size, 3, none⟩ = some (.int .i64 H1) := HL1.out.cell 3; clear hb1) | (go_at_call 13; refine (HRL.out _ HB1.out).mono ?_; rintro e w2 ⟨rfl, hb2⟩; have HB2 := Lib.hid (below_then HB1.out hb2); have HL2 := Lib.hid (HL1.out.below hb2 HL1.out.lt); have m0 : w2.cell? ⟨w.heap.size, 0, none⟩ = some (.slice Ab nb cb) := HL2.out.cell 0; have m1 : w2.cell? ⟨w.heap.size, 1, none⟩ = some (.slice Af nf cf) := HL2.out.cell 1; have m2 : w2.cell? ⟨w.heap.size, 2, none⟩ = some (.int .i64 W1) := HL2.out.cell 2; have m3 : w2.cell? ⟨w.heap.size, 3, none⟩ = some (.int .i64 H1) := HL2.out.cell 3; clear hb2) | (go_at_call 16; refine (HLK.out _ HB2.out).mono ?_; rintro e w3 ⟨rfl, hb3⟩; have HB3 := Lib.hid (below_then HB2.out hb3); have HL3 := Lib.hid (HL2.out.below hb3 HL2.out.lt); have n0 : w3.cell? ⟨w.heap.size, 0, none⟩ = some (.slice Ab nb cb) := HL3.out.cell 0; have n1 : w3.cell? ⟨w.heap.size, 1, none⟩ = some (.slice Af nf cf) := HL3.out.cell 1; have n2 : w3.cell? ⟨w.heap.size, 2, none⟩ = some (.int .i64 W1) := HL3.out.cell 2; have n3 : w3.cell? ⟨w.heap.size, 3, none⟩ = some (.int .i64 H1) := HL3.out.cell 3; clear hb3) | (go_at_call 15; refine (HCK.out _ HB3.out).mono ?_; rintro e w4 ⟨rfl, hb4⟩; have HB4 := Lib.hid (below_then HB3.out hb4); clear hb4) | (go_at_call 14; refine (stacked_calls _).mono ?_; rintro e w5 ⟨rfl, hb5⟩; have HB5 := Lib.hid (below_then HB4.out hb5); clear hb5))
      go_ret
      exact ⟨rfl, HB5.out⟩
  · have e3 := layE_no hok
    rw [e3] at HCK HRL
    have HRL : Hid (∀ X, Below w.heap.size w X → Calls Tryd.prog 13 #[.agg #[.slice Ab nb cb, .slice Af nf cf, .int .i64 W1, .int .i64 H1]] X fun e w' => e = .returned (.bool false) ∧ Below X.heap.size X w') := HRL
    have HOR : Hid (∀ X, Below w.heap.size w X → Calls Tryd.prog 12 #[.slice Al nl cl, .agg #[.slice Ab nb cb, .slice Af nf cf, .int .i64 W1, .int .i64 H1]] X fun e w' => e = .returned (.tuple #[.slice none 0 0, .int .i64 3]) ∧ Below X.heap.size X w') := fun X hX => (HOR.out X hX).mono fun e w' hh => by
      rcases hh with ⟨⟨ho, _⟩ | ⟨_, he⟩, hb⟩
      · exact absurd ho hok
      · exact ⟨he, hb⟩
    clear hok
    go_enter Tryd.func4, Tryd.ntmps4
    go_wp2_with (first | (go_at_call 12; refine (HOR.out _ HBA.out).mono ?_; rintro e w1 ⟨rfl, hb1⟩; have HB1 := Lib.hid (below_then HBA.out hb1); have HL1 := Lib.hid (HLA.out.below hb1 HLA.out.lt); have l0 : w1.cell? ⟨w.heap.size, 0, none⟩ = some (.slice Ab nb cb) := HL1.out.cell 0; have l1 : w1.cell? ⟨w.heap.size, 1, none⟩ = some (.slice Af nf cf) := HL1.out.cell 1; have l2 : w1.cell? ⟨w.heap.size, 2, none⟩ = some (.int .i64 W1) := HL1.out.cell 2; have l3 : w1.cell? ⟨w.heap.size, 3, none⟩ = some (.int .i64 H1) := HL1.out.cell 3; clear hb1) | (go_at_call 13; refine (HRL.out _ HB1.out).mono ?_; rintro e w2 ⟨rfl, hb2⟩; have HB2 := Lib.hid (below_then HB1.out hb2); have HL2 := Lib.hid (HL1.out.below hb2 HL1.out.lt); clear hb2) | (go_at_call 14; refine (stacked_calls _).mono ?_; rintro e w3 ⟨rfl, hb3⟩; have HB3 := Lib.hid (below_then HB2.out hb3); have HL3 := Lib.hid (HL2.out.below hb3 HL2.out.lt); have m0 : w3.cell? ⟨w.heap.size, 0, none⟩ = some (.slice Ab nb cb) := HL3.out.cell 0; have m1 : w3.cell? ⟨w.heap.size, 1, none⟩ = some (.slice Af nf cf) := HL3.out.cell 1; have m2 : w3.cell? ⟨w.heap.size, 2, none⟩ = some (.int .i64 W1) := HL3.out.cell 2; have m3 : w3.cell? ⟨w.heap.size, 3, none⟩ = some (.int .i64 H1) := HL3.out.cell 3; clear hb3) | (go_at_call 15; refine (HCK.out _ HB3.out).mono ?_; rintro e w4 ⟨rfl, hb4⟩; have HB4 := Lib.hid (below_then HB3.out hb4); clear hb4))
    go_ret
    exact ⟨rfl, HB4.out⟩
end Go.Proofs.YtpamfhplklhnpaaDoor
