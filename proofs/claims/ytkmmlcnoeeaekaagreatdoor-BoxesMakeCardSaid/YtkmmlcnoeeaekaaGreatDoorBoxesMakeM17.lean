/- Several texts in one: FitB, HitD, BxB. -/
import Derived.Test.YtkmmlcnoeeaekaaGreatDoorBoxesMakeM14
import Derived.Test.YtkmmlcnoeeaekaaGreatDoorBoxesMakeM16
import Derived.Test.YtkmmlcnoeeaekaaGreatDoorBoxesMakeM2
import Derived.Deep.MidRow
/- Contract of style.Fits. -/
namespace Go.Proofs.YtkmmlcnoeeaekaaGreatDoor
open Go.RowKit
set_option linter.unusedVariables false
set_option linter.unusedSimpArgs false

def fitV (zs : List Int) (p : Nat) : Int := if fitsP p (zs.getD (p * 2) 0) (zs.getD (p * 2 + 1) 0) = true then 0 else 3
def fitS (lz : List Int) (i : Nat) : Int := firstE (fitV (srow lz i)) 59
/-- What is wrong with styles of a document. -/
def sfitsE (ns : List NodeV) (nl : Nat) (lz : List Int) : Int :=
  if checkE ns ≠ 0 then checkE ns else if nl ≠ ns.length then 3 else firstE (fitS lz) nl
theorem range_blk {w : World} {g : Nat} {T : TypeId} {zs : List Int} (h : Blk w g T (sty zs)) : w.rangeAt g 0 (sty zs).toList := fun j u hu => by
  rw [Nat.zero_add, h.cell j]
  simpa using hu
set_option maxRecDepth 100000 in
set_option maxHeartbeats 16000000 in
theorem sfits_calls (A : Option Addr) (n c B : Nat) (q : Bool) (ns : List NodeV) (Al : Option Addr) (nl cl : Nat) (lz : List Int) (w : World) (hn : ns.length = n) (h : Nodes w B A ns) (hB : B ≤ w.heap.size) (hm : n ≤ 140737488355328) (hl : lz.length = nl * 118) (h2 : Holds w B Al (ints lz)) (hm2 : nl ≤ 140737488355328) :
    Calls Tryz.prog 27 #[.agg #[.slice A n c, .bool q], .slice Al nl cl] w fun e w' => e = .returned (.int .i64 (sfitsE ns nl lz)) ∧ Below w.heap.size w w' := by
  subst hn
  have HD := Lib.hid (Blk.new w 24 #[.slice A ns.length c, .bool q])
  have d0 : (w.alloc (.cells #[.slice A ns.length c, .bool q] 24)).cell? ⟨w.heap.size, 0, none⟩ = some (.slice A ns.length c) := HD.out.cell 0
  have HW := Lib.hid (below_alloc (Below.refl w.heap.size w) (.cells #[.slice A ns.length c, .bool q] 24))
  have HN := Lib.hid (h.below HW.out hB)
  have HS := Lib.hid (h2.below HW.out hB)
  have HN2 := Lib.hid (Nat.le_trans hB HW.out.size)
  have HL := Lib.hid hl
  have HDC := Lib.hid (dcheck_calls A ns.length c B q ns (w.alloc (.cells #[.slice A ns.length c, .bool q] 24)) rfl HN.out HN2.out hm)
  obtain ⟨r, hr⟩ : ∃ r, r = sfitsE ns nl lz := ⟨_, rfl⟩
  rw [← hr]
  unfold sfitsE at hr
  obtain ⟨ce, hce⟩ : ∃ ce, ce = checkE ns := ⟨_, rfl⟩
  rw [← hce] at HDC hr
  have HR := Lib.hid hr
  clear h hr hB h2 hl hce
  by_cases g1 : ce = 0
  · have q1 : (ce != 0) = false := by simp [g1]
    by_cases g2 : nl = ns.length
    · have HR1 : Hid (r = firstE (fitS lz) nl) := by show _ = _; rw [HR.out, if_neg (fun h => h g1), if_neg (fun h => h g2)]
      have q2 : ((nl : Int) != (ns.length : Int)) = false := by simp [g2]
      clear g1 HR
      go_enter Tryz.func27, Tryz.ntmps27
      go_upto_region 4 with (go_at_call 26; refine HDC.out.mono ?_; rintro e w1 ⟨rfl, hb1⟩; have HW1 := Lib.hid (below_then HW.out hb1); have HS1 := Lib.hid (HS.out.below hb1 HN2.out); have HB1 := Lib.hid (Nat.le_trans HN2.out hb1.size); have d0 : w1.cell? ⟨w.heap.size, 0, none⟩ = some (.slice A ns.length c) := (HD.out.below hb1 HD.out.lt).cell 0; clear hb1)
      go_wp2_with fail
      clear d0
      go_loopw [23] (fun i wr => ∃ k : Nat, k ≤ nl ∧ i = .int .i64 k ∧ Hid (Below w1.heap.size w1 wr) ∧ Hid (∀ j, j < k → fitS lz j = 0)) (fun i _ => nl - (intOf i).toNat)
      case atStart => exact ⟨0, Nat.zero_le _, rfl, Below.refl _ _, fun j hj => absurd hj (by omega)⟩
      case round =>
        obtain ⟨k, hk, rfl, HBE, HK⟩ := hrel
        by_cases hlt : k < nl
        · obtain ⟨bL, offL, hA, hbL, hrow⟩ := styles_row (HS1.out.below HBE.out HB1.out) HL.out hlt
          subst hA
          obtain ⟨zs, hzs⟩ : ∃ zs, zs = srow lz k := ⟨_, rfl⟩
          have hz : zs.length = 118 := by rw [hzs]; exact srow_len _ _
          rw [← hzs] at hrow
          have HZS := Lib.hid hzs
          have HROW := Lib.hid hrow
          have HLAID := Lib.hid (sty_laid zs hz)
          have HSZL : Hid ((Tryz.prog.info? 35).map (·.size) = some (sty zs).toList.length) := by show _ = _; rw [Array.length_toList, sty_size, hz]; kernel_rfl
          have HIX := Lib.hid (fun p (hp : p < 59) ww => idx_val zs hz p hp ww)
          have HKK := Lib.hid (show k ≤ nl ∧ k < nl from ⟨hk, hlt⟩)
          clear hzs hz hrow hbL
          go_upto_region 9 with (first | (refine wpList_load_mid rfl 35 _ rfl bL (offL + k * 118) rfl (sty zs).toList _ HROW.out Tryz.underlying35 rfl HSZL.out ?_) | (refine wpList_store_mid rfl _ _ _ rfl wr.heap.size 0 (sty zs) rfl rfl (HLAID.out wr).2.1 (HLAID.out wr).1 (sty_one _) ?_; obtain ⟨w2, hw2, bS, hb2, hsz2⟩ := (HLAID.out wr).2.2; rw [hw2]; clear hw2; have HSB := Lib.hid bS; have HBE2 := Lib.hid (below_then HBE.out hb2); clear bS hb2 hsz2))
          have HRG := Lib.hid (range_blk HSB.out)
          go_wp2_with (refine wpList_load_mid rfl 35 _ rfl wr.heap.size 0 rfl (sty zs).toList _ HRG.out Tryz.underlying35 rfl HSZL.out ?_)
          clear HRG
          go_loopw [28] (fun i wj => ∃ p : Nat, p ≤ 59 ∧ i = .int .i64 p ∧ Hid (Below w1.heap.size w1 wj) ∧ Hid (∀ t, t < p → fitV zs t = 0)) (fun i _ => 59 - (intOf i).toNat)
          case atStart => exact ⟨0, Nat.zero_le _, rfl, HBE2, fun t ht => absurd ht (by omega)⟩
          case round =>
            clear HBE HBE2 HSB
            obtain ⟨p, hp, rfl, HBE, HKP⟩ := hrel
            have HWE := Lib.hid (below_then HW1.out HBE.out)
            by_cases hpl : p < 59
            · have hix := HIX.out p hpl
              have HV : Hid (fitV zs p = if fitsP p (zs.getD (p * 2) 0) (zs.getD (p * 2 + 1) 0) = true then 0 else 3) := rfl
              have HPF := Lib.hid (fun ww => pfits_calls p hpl (zs.getD (p * 2) 0) (zs.getD (p * 2 + 1) 0) ww)
              generalize zs.getD (p * 2) 0 = va at hix HV HPF
              generalize zs.getD (p * 2 + 1) 0 = vb at hix HV HPF
              obtain ⟨fb, hfb⟩ : ∃ fb, fb = fitsP p va vb := ⟨_, rfl⟩
              rw [← hfb] at HV HPF
              clear hfb
              have hpl2 : (p : Int) < 59 := by omega
              have hba := below_alloc (Below.refl wr.heap.size wr) (.cells #[.int .i64 va, .int .i64 vb] 33)
              have HBE2 := Lib.hid (below_then HBE.out hba)
              have HWE2 := Lib.hid (below_then HWE.out hba)
              clear hba
              cases fb
              · have HE : Hid (r = 3) := by
                  have e1 : fitV zs p = 3 := by rw [HV.out]; rfl
                  have e2 : fitS lz k = 3 := by unfold fitS; rw [← HZS.out, firstE_at HKP.out (by rw [e1]; decide) hpl, e1]
                  show _ = _
                  rw [HR1.out, firstE_at HK.out (by rw [e2]; decide) HKK.out.2, e2]
                go_wp2_with (go_at_call 60; refine (HPF.out _).mono ?_; rintro e w3 ⟨rfl, hb3⟩)
                go_ret
                exact ⟨by rw [HE.out]; rfl, below_then HWE2.out hb3⟩
              · have HE : Hid (∀ t, t < p + 1 → fitV zs t = 0) := fun t ht => by
                  by_cases e : t = p
                  · subst e; rw [HV.out]; rfl
                  · exact HKP.out t (by omega)
                go_wp2_with (go_at_call 60; refine (HPF.out _).mono ?_; rintro e w3 ⟨rfl, hb3⟩)
                go_round
                case rel => exact ⟨p + 1, by omega, by go_num, below_then HBE2.out hb3, HE⟩
                case measure => simp [intOf]; omega
            · have e : p = 59 := by omega
              subst e
              have HE : Hid (∀ j, j < k + 1 → fitS lz j = 0) := fun j hj => by
                by_cases e : j = k
                · subst e; unfold fitS; rw [← HZS.out]; exact firstE_none HKP.out
                · exact HK.out j (by omega)
              go_wp2_with fail
              go_round
              case rel => exact ⟨k + 1, HKK.out.2, by go_num, HBE, HE⟩
              case measure => have := HKK.out.2; simp [intOf]; omega
        · have e : k = nl := by omega
          subst e
          have HE : Hid (r = 0) := by show _ = _; rw [HR1.out, firstE_none HK.out]
          have HWE := Lib.hid (below_then HW1.out HBE.out)
          go_wp2_with fail
          go_ret
          exact ⟨by rw [HE.out]; rfl, HWE.out⟩
    · have q2 : ((nl : Int) == (ns.length : Int)) = false := by simp; omega
      have q3 : (nl == ns.length) = false := by simp [g2]
      have HE : Hid (r = 3) := by show _ = _; rw [HR.out, if_neg (fun h => h g1), if_pos g2]
      clear g1 g2 HR
      go_enter Tryz.func27, Tryz.ntmps27
      go_upto_region 4 with (go_at_call 26; refine HDC.out.mono ?_; rintro e w1 ⟨rfl, hb1⟩; have HW1 := Lib.hid (below_then HW.out hb1); have d0 : w1.cell? ⟨w.heap.size, 0, none⟩ = some (.slice A ns.length c) := (HD.out.below hb1 HD.out.lt).cell 0; clear hb1)
      go_wp2_with fail
      go_ret
      exact ⟨by rw [HE.out]; rfl, HW1.out⟩
  · have q1 : (ce != 0) = true := by simp [g1]
    have HE : Hid (r = ce) := by show _ = _; rw [HR.out, if_pos g1]
    clear g1 HR
    go_enter Tryz.func27, Tryz.ntmps27
    go_wp2_with (go_at_call 26; refine HDC.out.mono ?_; rintro e w1 ⟨rfl, hb1⟩; have HW1 := Lib.hid (below_then HW.out hb1); clear hb1)
    go_ret
    exact ⟨by rw [HE.out]; rfl, HW1.out⟩
end Go.Proofs.YtkmmlcnoeeaekaaGreatDoor
/- Contracts: wrong, hit.node. -/
namespace Go.Proofs.YtkmmlcnoeeaekaaGreatDoor
open Go.RowKit
set_option linter.unusedVariables false
set_option linter.unusedSimpArgs false

theorem sfits_of {ns : List NodeV} {nl : Nat} {lz : List Int} (h : checkE ns ≠ 0) : sfitsE ns nl lz = checkE ns := by unfold sfitsE; rw [if_pos h]
set_option maxRecDepth 100000 in
theorem wrong_calls (A : Option Addr) (n c B : Nat) (q : Bool) (ns : List NodeV) (Al : Option Addr) (nl cl : Nat) (lz : List Int) (w : World) (hn : ns.length = n) (h : Nodes w B A ns) (hB : B ≤ w.heap.size) (hm : n ≤ 140737488355328) (hl : lz.length = nl * 118) (h2 : Holds w B Al (ints lz)) (hm2 : nl ≤ 140737488355328) :
    Calls Tryz.prog 7 #[.agg #[.slice A n c, .bool q], .slice Al nl cl] w fun e w' => e = .returned (.int .i64 (sfitsE ns nl lz)) ∧ Below w.heap.size w w' := by
  have HD := Lib.hid (Blk.new w 24 #[.slice A n c, .bool q])
  have HW := Lib.hid (below_alloc (Below.refl w.heap.size w) (.cells #[.slice A n c, .bool q] 24))
  have HN := Lib.hid (h.below HW.out hB)
  have HS := Lib.hid (h2.below HW.out hB)
  have HN2 := Lib.hid (Nat.le_trans hB HW.out.size)
  have HDC := Lib.hid (dcheck_calls A n c B q ns (w.alloc (.cells #[.slice A n c, .bool q] 24)) hn HN.out HN2.out hm)
  have HFI := Lib.hid (fun (ww : World) (hb : Below (w.alloc (.cells #[.slice A n c, .bool q] 24)).heap.size (w.alloc (.cells #[.slice A n c, .bool q] 24)) ww) => sfits_calls A n c B q ns Al nl cl lz ww hn (HN.out.below hb HN2.out) (Nat.le_trans HN2.out hb.size) hm hl (HS.out.below hb HN2.out) hm2)
  have HSO := Lib.hid (fun h => sfits_of (ns := ns) (nl := nl) (lz := lz) h)
  obtain ⟨ce, hce⟩ : ∃ ce, ce = checkE ns := ⟨_, rfl⟩
  rw [← hce] at HDC HSO
  obtain ⟨r, hr⟩ : ∃ r, r = sfitsE ns nl lz := ⟨_, rfl⟩
  rw [← hr] at HFI HSO ⊢
  clear h h2 hce hr hn hl
  by_cases g1 : ce = 0
  · have q1 : (ce != 0) = false := by simp [g1]
    clear g1 HSO
    go_enter Tryz.func7, Tryz.ntmps7
    go_wp2_with (first | (go_at_call 26; refine HDC.out.mono ?_; rintro e w1 ⟨rfl, hb1⟩; have HB1 := Lib.hid hb1; have d0 : w1.cell? ⟨w.heap.size, 0, none⟩ = some (.slice A n c) := (HD.out.below hb1 HD.out.lt).cell 0; have d1 : w1.cell? ⟨w.heap.size, 1, none⟩ = some (.bool q) := (HD.out.below hb1 HD.out.lt).cell 1; clear hb1) | (go_at_call 27; refine (HFI.out _ HB1.out).mono ?_; rintro e w2 ⟨rfl, hb2⟩))
    go_ret
    exact ⟨rfl, below_then (below_then HW.out HB1.out) hb2⟩
  · have q1 : (ce != 0) = true := by simp [g1]
    have HE : Hid (r = ce) := HSO.out g1
    clear g1 HSO HFI
    go_enter Tryz.func7, Tryz.ntmps7
    go_wp2_with (go_at_call 26; refine HDC.out.mono ?_; rintro e w1 ⟨rfl, hb1⟩)
    go_ret
    exact ⟨by rw [HE.out]; rfl, below_then HW.out hb1⟩
end Go.Proofs.YtkmmlcnoeeaekaaGreatDoor
/- Contracts: what an element is (the program's, the reference's); the reference's Has. -/
namespace Go.Proofs.YtkmmlcnoeeaekaaGreatDoor
open Go.RowKit
set_option linter.unusedVariables false
set_option linter.unusedSimpArgs false

/-- A document and its styles, as they came in. -/
structure BxV where
  A : Option Addr
  n : Nat
  c : Nat
  ns : List NodeV
  Al : Option Addr
  nl : Nat
  cl : Nat
  lz : List Int
structure BxV.ok (I : BxV) (w : World) (B : Nat) : Prop where
  hn : I.ns.length = I.n
  nodes : Nodes w B I.A I.ns
  hl : I.lz.length = I.nl * 118
  looks : Holds w B I.Al (ints I.lz)
  same : I.nl = I.n
  n0 : I.n ≤ 200
theorem BxV.ok.below {I : BxV} {w w' : World} {B B' : Nat} (h : I.ok w B) (hb : Below B' w w') (hB : B ≤ B') : I.ok w' B :=
  { h with nodes := h.nodes.below hb hB, looks := h.looks.below hb hB }
theorem BxV.ok.more {I : BxV} {w : World} {B B' : Nat} (h : I.ok w B) (hB : B ≤ B') : I.ok w B' :=
  { h with nodes := h.nodes.more hB, looks := h.looks.more hB }
/-- A node's style. -/
def BxV.sty (I : BxV) (k : Nat) : List Int := (I.lz.drop (k * 118)).take 118
theorem BxV.sty_len {I : BxV} {k : Nat} (hl : I.lz.length = I.nl * 118) (hk : k < I.nl) : (I.sty k).length = 118 := by
  unfold BxV.sty
  rw [List.length_take, List.length_drop]
  omega
theorem BxV.ok.row {I : BxV} {w : World} {B k : Nat} (h : I.ok w B) (hk : k < I.n) : ∃ b off, I.Al = some ⟨b, off, none⟩ ∧ b < B ∧ w.rangeAt b (off + k * 118) (Go.Proofs.YtkmmlcnoeeaekaaGreatDoor.sty (I.sty k)).toList := by
  have hl := h.hl
  have hk2 : k < I.nl := by rw [h.same]; exact hk
  have hi : (ints I.lz).length = I.lz.length := by simp [ints]
  obtain ⟨b, off, e, hb, hc⟩ := h.looks (by rw [hi]; omega)
  refine ⟨b, off, e, hb, fun j u hu => ?_⟩
  have hj : j < 118 := by
    have hs : (Go.Proofs.YtkmmlcnoeeaekaaGreatDoor.sty (I.sty k)).toList.length = 118 := by rw [Array.length_toList, sty_size]; exact BxV.sty_len hl hk2
    rcases Nat.lt_or_ge j 118 with h1 | h1
    · exact h1
    · rw [List.getElem?_eq_none (by omega)] at hu; cases hu
  have hq : k * 118 + j < I.lz.length := by omega
  have h1 := hc (k * 118 + j) (by rw [hi]; exact hq)
  rw [Nat.add_assoc, h1]
  have hu2 : (Go.Proofs.YtkmmlcnoeeaekaaGreatDoor.sty (I.sty k)).toList[j]? = some (.int .i64 (I.lz.getD (k * 118 + j) 0)) := by
    rw [Array.getElem?_toList, sty_at _ _ (by rw [BxV.sty_len hl hk2]; exact hj)]
    unfold BxV.sty
    rw [List.getD_eq_getElem?_getD, List.getElem?_take_of_lt hj, List.getElem?_drop, List.getD_eq_getElem?_getD]
  rw [hu2] at hu
  rw [← hu]
  simp [ints, List.getD, hq]
def isV (d o : Int) : Int := if 0 < o ∧ (d = 1 ∨ d = 3 ∨ d = 6 ∨ d = 7) then 2 else d
/-- What an element is. -/
def isS (zs : List Int) : Int := isV (stN zs 0) (outS zs)
def mkA (I : BxV) : Value := .agg #[.slice I.A I.n I.c, .slice I.Al I.nl I.cl]
set_option maxRecDepth 100000 in
set_option maxHeartbeats 4000000 in
theorem is_calls (I : BxV) (k : Nat) (w : World) (h : I.ok w w.heap.size) (hk : k < I.n) :
    Calls Tryz.prog 66 #[mkA I, .int .i64 (k : Nat)] w fun e w' => e = .returned (.int .i64 (isS (I.sty k))) ∧ Below w.heap.size w w' := by
  obtain ⟨b, off, hA, hb, hr⟩ := h.row hk
  have hl := h.hl
  have hz : (I.sty k).length = 118 := BxV.sty_len hl (by rw [h.same]; exact hk)
  have hkl : k < I.nl := by rw [h.same]; exact hk
  have hklb : k ≤ 200 := by have := h.n0; omega
  obtain ⟨zs, hzs⟩ : ∃ zs, zs = I.sty k := ⟨_, rfl⟩
  rw [← hzs] at hr hz ⊢
  have HR := Lib.hid hr
  have hba := below_alloc (Below.refl w.heap.size w) (.cells #[.slice I.A I.n I.c, .slice I.Al I.nl I.cl] 69)
  have HW := Lib.hid hba
  have HM := Lib.hid (Blk.new w 69 #[.slice I.A I.n I.c, .slice I.Al I.nl I.cl])
  have HSZ : Hid ((Tryz.prog.info? 35).map (·.size) = some (sty zs).toList.length) := by show _ = _; rw [Array.length_toList, sty_size, hz]; kernel_rfl
  have HLA := Lib.hid (sty_laid zs hz)
  have HZ := Lib.hid hz
  have HB := Lib.hid hb
  clear h hr hba hzs hz hb hl
  unfold mkA
  rw [hA] at HM HW ⊢
  clear hA
  go_enter Tryz.func66, Tryz.ntmps66
  go_upto_region 1 with fail
  generalize World.alloc w _ = w1 at HW HM ⊢
  have m1 : w1.cell? ⟨w.heap.size, 1, none⟩ = some (.slice (some ⟨b, off, none⟩) I.nl I.cl) := HM.out.cell 1
  have HR1 : Hid (w1.rangeAt b (off + k * 118) (sty zs).toList) := fun j v hv => (HW.out.cell (p := ⟨b, off + k * 118 + j, none⟩) HB.out).trans (HR.out j v hv)
  go_upto_region 2 with (first | (refine wpList_load_mid rfl 35 _ rfl b (off + k * 118) rfl (sty zs).toList _ HR1.out Tryz.underlying35 rfl HSZ.out ?_) | (refine wpList_store_mid rfl _ _ _ rfl w1.heap.size 0 (sty zs) rfl rfl (HLA.out w1).2.1 (HLA.out w1).1 (sty_one _) ?_; obtain ⟨w2, hw2, bS2, hb2, hsz2⟩ := (HLA.out w1).2.2; rw [hw2]; clear hw2; have HGZ := Lib.hid bS2; have HB2 := Lib.hid (below_then HW.out hb2); clear bS2 hb2 hsz2))
  generalize w1.heap.size = gz at HGZ ⊢
  clear m1 HR1 HR HM HLA HB
  have z1 : w2.cell? ⟨gz, 1, none⟩ = some (.int .i64 (stN zs 0)) := (HGZ.out.cell 1).trans (sty_at zs 1 (by have := HZ.out; omega))
  have HRZ := Lib.hid (range_blk HGZ.out)
  have HO := Lib.hid (bout_calls zs w2 HZ.out)
  have HIS : Hid (isS zs = isV (stN zs 0) (outS zs)) := rfl
  generalize stN zs 0 = d at z1 HIS
  generalize outS zs = o at HO HIS
  by_cases ho : 0 < o
  · have q0 : decide (0 < o) = true := decide_eq_true ho
    by_cases h0 : d = 1
    · have p0 : (d == 1) = true := by simp [h0]
      have HE : Hid (isS zs = 2) := by show _ = _; rw [HIS.out]; unfold isV; simp [ho, h0]
      clear ho h0
      go_wp2_with (first | (refine wpList_load_mid rfl 35 _ rfl gz 0 rfl (sty zs).toList _ HRZ.out Tryz.underlying35 rfl HSZ.out ?_) | (go_at_call 9; refine HO.out.mono ?_; rintro e w3 ⟨rfl, hb3⟩; have HB3 := Lib.hid (below_then HB2.out hb3); clear hb3))
      go_ret
      exact ⟨by rw [HE.out]; rfl, HB3.out⟩
    · have p0 : (d == 1) = false := by simp [h0]
      by_cases h1 : d = 3
      · have p1 : (d == 3) = true := by simp [h1]
        have HE : Hid (isS zs = 2) := by show _ = _; rw [HIS.out]; unfold isV; simp [ho, h0, h1]
        clear ho h0 h1
        go_wp2_with (first | (refine wpList_load_mid rfl 35 _ rfl gz 0 rfl (sty zs).toList _ HRZ.out Tryz.underlying35 rfl HSZ.out ?_) | (go_at_call 9; refine HO.out.mono ?_; rintro e w3 ⟨rfl, hb3⟩; have HB3 := Lib.hid (below_then HB2.out hb3); clear hb3))
        go_ret
        exact ⟨by rw [HE.out]; rfl, HB3.out⟩
      · have p1 : (d == 3) = false := by simp [h1]
        by_cases h2 : d = 6
        · have p2 : (d == 6) = true := by simp [h2]
          have HE : Hid (isS zs = 2) := by show _ = _; rw [HIS.out]; unfold isV; simp [ho, h0, h1, h2]
          clear ho h0 h1 h2
          go_wp2_with (first | (refine wpList_load_mid rfl 35 _ rfl gz 0 rfl (sty zs).toList _ HRZ.out Tryz.underlying35 rfl HSZ.out ?_) | (go_at_call 9; refine HO.out.mono ?_; rintro e w3 ⟨rfl, hb3⟩; have HB3 := Lib.hid (below_then HB2.out hb3); clear hb3))
          go_ret
          exact ⟨by rw [HE.out]; rfl, HB3.out⟩
        · have p2 : (d == 6) = false := by simp [h2]
          by_cases h3 : d = 7
          · have p3 : (d == 7) = true := by simp [h3]
            have HE : Hid (isS zs = 2) := by show _ = _; rw [HIS.out]; unfold isV; simp [ho, h0, h1, h2, h3]
            clear ho h0 h1 h2 h3
            go_wp2_with (first | (refine wpList_load_mid rfl 35 _ rfl gz 0 rfl (sty zs).toList _ HRZ.out Tryz.underlying35 rfl HSZ.out ?_) | (go_at_call 9; refine HO.out.mono ?_; rintro e w3 ⟨rfl, hb3⟩; have HB3 := Lib.hid (below_then HB2.out hb3); clear hb3))
            go_ret
            exact ⟨by rw [HE.out]; rfl, HB3.out⟩
          · have p3 : (d == 7) = false := by simp [h3]
            have HE : Hid (isS zs = d) := by show _ = _; rw [HIS.out]; unfold isV; simp [h0, h1, h2, h3]
            clear h0 h1 h2 h3 ho
            go_wp2_with (first | (refine wpList_load_mid rfl 35 _ rfl gz 0 rfl (sty zs).toList _ HRZ.out Tryz.underlying35 rfl HSZ.out ?_) | (go_at_call 9; refine HO.out.mono ?_; rintro e w3 ⟨rfl, hb3⟩; have HB3 := Lib.hid (below_then HB2.out hb3); clear hb3))
            go_ret
            exact ⟨by rw [HE.out]; rfl, HB3.out⟩
  · have q0 : decide (0 < o) = false := decide_eq_false ho
    have HE : Hid (isS zs = d) := by show _ = _; rw [HIS.out]; unfold isV; rw [if_neg (fun h => ho h.1)]
    clear ho
    go_wp2_with (first | (refine wpList_load_mid rfl 35 _ rfl gz 0 rfl (sty zs).toList _ HRZ.out Tryz.underlying35 rfl HSZ.out ?_) | (go_at_call 9; refine HO.out.mono ?_; rintro e w3 ⟨rfl, hb3⟩; have HB3 := Lib.hid (below_then HB2.out hb3); clear hb3))
    go_ret
    exact ⟨by rw [HE.out]; rfl, HB3.out⟩
end Go.Proofs.YtkmmlcnoeeaekaaGreatDoor
