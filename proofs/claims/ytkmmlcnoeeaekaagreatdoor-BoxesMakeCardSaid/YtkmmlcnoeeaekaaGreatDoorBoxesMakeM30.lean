/- Several texts in one: BxR. -/
import Derived.Test.YtkmmlcnoeeaekaaGreatDoorBoxesMakeM29
/- Contracts: IndexFunc of numbers, split of numbers. -/
namespace Go.Proofs.YtkmmlcnoeeaekaaGreatDoor
open Go.RowKit
set_option linter.unusedVariables false
set_option linter.unusedSimpArgs false

/-- A closure says p of numbers. -/
def SaysN (gm gi : Nat) (p : Nat → Bool) (l : List Nat) (w : World) : Prop := ∀ k ∈ l, ∀ (w' : World), Below w.heap.size w w' →
  Calls Tryz.prog 182 #[.int .i64 (k : Nat), .pointer (some ⟨gm, 0, none⟩), .pointer (some ⟨gi, 0, none⟩)] w' fun e w2 => e = .returned (.bool (p k)) ∧ Below w'.heap.size w' w2
theorem SaysN.sub {gm gi : Nat} {p : Nat → Bool} {l us : List Nat} {w w' : World} (h : SaysN gm gi p l w) (hs : ∀ t ∈ us, t ∈ l) (hb : Below w.heap.size w w') : SaysN gm gi p us w' :=
  fun t ht w2 hb2 => h t (hs t ht) w2 (below_then hb hb2)
theorem Holds.num {w : World} {B : Nat} {A : Option Addr} {l : List Nat} (h : Holds w B A (nums l)) {k : Nat} (hk : k < l.length) : ∃ b off, A = some ⟨b, off, none⟩ ∧ b < B ∧ w.cell? ⟨b, off + k, none⟩ = some (.int .i64 (l.getD k 0 : Nat)) := by
  obtain ⟨b, off, hA, hb, hc⟩ := h (by rw [nums_len]; omega)
  refine ⟨b, off, hA, hb, ?_⟩
  rw [hc k (by rw [nums_len]; exact hk), List.getD_eq_getElem?_getD, nums_at l hk]
  rfl
theorem Holds.rest {w : World} {B b off k c : Nat} {l : List Nat} (h : Holds w B (some ⟨b, off, none⟩) (nums l)) (hl : l.length ≤ c) : Holds w B (if c = k then some ⟨b, off, none⟩ else some ⟨b, off + k, none⟩) (nums (l.drop k)) := fun hn => by
  rw [nums_len, List.length_drop] at hn
  obtain ⟨b', off', e, hb, hc⟩ := h (by rw [nums_len]; omega)
  injection e with e
  injection e with e1 e2
  subst e1; subst e2
  rw [if_neg (by omega)]
  refine ⟨b, off + k, rfl, hb, fun j hj => ?_⟩
  rw [nums_len, List.length_drop] at hj
  have h1 := hc (k + j) (by rw [nums_len]; omega)
  rw [Nat.add_assoc, h1]
  unfold nums
  rw [List.getD_eq_getElem?_getD, List.getD_eq_getElem?_getD, List.getElem?_map, List.getElem?_map, List.getElem?_drop]
theorem Holds.kept {w w' : World} {B : Nat} {A : Option Addr} {xs : List Value} (h : Holds w B A xs) (hk : ∀ i, i < B → w'.heap[i]? = w.heap[i]?) : Holds w' B A xs := fun hn => by
  obtain ⟨b, off, e, hlt, hc⟩ := h hn
  exact ⟨b, off, e, hlt, fun j hj => (cell_same (hk b hlt)).trans (hc j hj)⟩
theorem Holds.numsTake {w : World} {B : Nat} {A : Option Addr} {l : List Nat} (h : Holds w B A (nums l)) (k : Nat) : Holds w B A (nums (l.take k)) := by
  have := h.take k
  unfold nums at this ⊢
  rwa [← List.map_take] at this
set_option maxRecDepth 100000 in
set_option maxHeartbeats 4000000 in
theorem indexN_calls (gm gi : Nat) (p : Nat → Bool) (l : List Nat) (A : Option Addr) (n c : Nat) (w : World) (hm : n ≤ 1000) (hl : l.length = n) (hL : Holds w w.heap.size A (nums l)) (HP : SaysN gm gi p l w) :
    Calls Tryz.prog 181 #[.slice A n c, .func (.func 182) #[] #[.pointer (some ⟨gm, 0, none⟩), .pointer (some ⟨gi, 0, none⟩)]] w fun e w' => e = .returned (.int .i64 (idxR p l 0)) ∧ Below w.heap.size w w' := by
  have hn := Lib.hid hl
  have H := Lib.hid hL
  have HS := Lib.hid HP
  obtain ⟨r, hr⟩ : ∃ r, r = idxR p l 0 := ⟨_, rfl⟩
  rw [← hr]
  have HR := Lib.hid hr
  clear hl hL hr HP
  go_enter Tryz.func181, Tryz.ntmps181
  go_wp2_with fail
  go_loopw [8] (fun i wr => ∃ k : Nat, k ≤ n ∧ i = .int .i64 k ∧ Hid (r = idxR p (l.drop k) k) ∧ Hid (Below w.heap.size w wr)) (fun i _ => n - (intOf i).toNat)
  case atStart => exact ⟨0, Nat.zero_le _, rfl, HR.out, Below.refl _ _⟩
  case round =>
    obtain ⟨k, hk, rfl, HK, HB⟩ := hrel
    by_cases hlt : k < n
    · have hkl : k < l.length := by rw [hn.out]; exact hlt
      obtain ⟨b, off, hA, hb, c0⟩ := (H.out.below HB.out (Nat.le_refl _)).num hkl
      subst hA
      obtain ⟨t, ht⟩ : ∃ t, t = l.getD k 0 := ⟨_, rfl⟩
      rw [← ht] at c0
      have htk : l[k] = t := by rw [ht, List.getD_eq_getElem?_getD, List.getElem?_eq_getElem hkl]; rfl
      have HD : Hid (l.drop k = t :: l.drop (k + 1)) := by show _ = _; rw [List.drop_eq_getElem_cons hkl, htk]
      have hmem : t ∈ l := by rw [← htk]; exact List.getElem_mem hkl
      have HC := Lib.hid (HS.out t hmem wr HB.out)
      clear ht hkl htk hmem hb
      obtain ⟨pt, hpt⟩ : ∃ pt, pt = p t := ⟨_, rfl⟩
      rw [← hpt] at HC
      have HPT := Lib.hid hpt
      clear hpt
      cases pt with
      | true =>
        have HN : Hid (r = (k : Int)) := by show _ = _; rw [HK.out, HD.out, idxR, if_pos HPT.out.symm]
        clear HS HPT HK HD
        go_wp2_with (go_at_call 182; refine HC.out.mono ?_; rintro e w1 ⟨rfl, hb1⟩)
        go_ret
        exact ⟨by rw [HN.out]; rfl, below_then HB.out hb1⟩
      | false =>
        have HN : Hid (r = idxR p (l.drop (k + 1)) (k + 1)) := by show _ = _; rw [HK.out, HD.out, idxR, if_neg (by rw [← HPT.out]; simp)]
        clear HPT HK HD HS
        go_wp2_with (go_at_call 182; refine HC.out.mono ?_; rintro e w1 ⟨rfl, hb1⟩)
        go_round
        case rel => exact ⟨k + 1, by omega, by go_num, HN.out, below_then HB.out hb1⟩
        case measure => simp [intOf]; omega
    · obtain rfl : k = n := by omega
      have HN : Hid (r = -1) := by show _ = _; rw [HK.out, ← hn.out, List.drop_length]; rfl
      go_wp2_with fail
      go_ret
      exact ⟨by rw [HN.out]; rfl, HB.out⟩
/-- What the closure of a run says. -/
def RunSays (f2 g : Nat) (run : List Nat → TreeV) (told : List Nat → Bool) (l : List Nat) (w : World) : Prop := ∀ (us : List Nat) (A' : Option Addr) (m c' : Nat) (w' : World), (∀ k ∈ us, k ∈ l) → us.length = m → m ≤ l.length → Below w.heap.size w w' → Holds w' w'.heap.size A' (nums us) →
  Calls Tryz.prog f2 #[.slice A' m c', .pointer (some ⟨g, 0, none⟩)] w' (MadeB w' (run us) (told us))
set_option maxRecDepth 100000 in
set_option maxHeartbeats 8000000 in
theorem splitN_calls (f1 f2 gm gi g : Nat) (p : Nat → Bool) (one : Nat → TreeV) (run : List Nat → TreeV) (told : List Nat → Bool) (h0 : told [] = false) (hf : (f1 = 183 ∧ f2 = 184) ∨ (f1 = 158 ∧ f2 = 160)) (l : List Nat) (A : Option Addr) (n c : Nat) (w : World) (hm : n ≤ 1000) (hcap : n ≤ c) (hl : l.length = n) (hL : Holds w w.heap.size A (nums l))
    (HP : SaysN gm gi p l w) (HON0 : ∀ k ∈ l, ∀ w' : World, Below w.heap.size w w' → Calls Tryz.prog f1 #[.int .i64 (k : Nat), .pointer (some ⟨g, 0, none⟩)] w' (MadeT w' (one k))) (HRU0 : RunSays f2 g run told l w) :
    Calls Tryz.prog 156 #[.slice A n c, .func (.func 182) #[] #[.pointer (some ⟨gm, 0, none⟩), .pointer (some ⟨gi, 0, none⟩)], .func (.func f1) #[] #[.pointer (some ⟨g, 0, none⟩)], .func (.func f2) #[] #[.pointer (some ⟨g, 0, none⟩)]] w fun e w' => ∃ A9 n9 c9, e = .returned (.slice A9 n9 c9) ∧ n9 ≤ n ∧ KidsAt w' (MadeQ w w') (pieces p one run told [] l) A9 n9 ∧ Below w.heap.size w w' := by
  obtain ⟨iT, hiT, hzT0, hzT1, hzT2⟩ := info_partsK info_treeL
  obtain ⟨PC, hPC⟩ : ∃ PC : List Nat → List TreeV, PC = fun l => pieces p one run told [] l := ⟨_, rfl⟩
  obtain ⟨TOT, hTOT⟩ : ∃ TOT, TOT = pieces p one run told [] l := ⟨_, rfl⟩
  have hTP : TOT = PC l := by rw [hTOT, hPC]
  rw [← hTOT]
  have HP0 : Hid (PC [] = []) := by show _ = _; rw [hPC]; show pieces _ _ _ _ _ _ = _; rw [pieces, h0]; rfl
  have HP1 : Hid (∀ x l, p x = true → PC (x :: l) = one x :: PC l) := fun x l hx => by rw [hPC]; exact pieces_one (run := run) (one := one) h0 hx
  have HP2 : Hid (∀ x l, p x = false → PC (x :: l) = (if told ((x :: l).takeWhile fun y => !p y) = true then [run ((x :: l).takeWhile fun y => !p y)] else []) ++ PC ((x :: l).dropWhile fun y => !p y)) := fun x l hx => by rw [hPC]; exact pieces_more (run := run) (one := one) h0 hx
  have HT := Lib.hid hTP
  have HL := Lib.hid hL
  have HLN := Lib.hid hl
  have HS := Lib.hid HP
  have HON := Lib.hid HON0
  have HRU := Lib.hid HRU0
  have HC := Lib.hid hcap
  have HMM := Lib.hid hm
  clear hTOT hTP hPC h0 hL hl HP HON0 HRU0 hcap hm
  unfold MadeT at HON
  unfold RunSays at HRU
  unfold MadeB at HRU
  go_enter Tryz.func156, Tryz.ntmps156
  go_upto_region 2 with fail
  go_loopw [0, 9] (fun vl vo wr => ∃ (rest : List Nat) (A' : Option Addr) (m c' j : Nat) (A2 : Option Addr) (c2 : Nat) (rs : List RowT), vl = .slice A' m c' ∧ vo = .slice A2 j c2 ∧ Hid (rest.length = m) ∧ Hid (Holds wr w.heap.size A' (nums rest)) ∧ Hid (m ≤ c') ∧ Hid (∀ t ∈ rest, t ∈ l) ∧ Hid (OwnF wr w.heap.size (.slice A2 j c2) j rs) ∧ Hid (Below w.heap.size w wr) ∧ Hid (TOT = rs.map (·.1) ++ PC rest) ∧ Hid (j + m ≤ n)) (fun vl _ _ => lenVT vl)
  case atStart => exact ⟨l, A, n, c, 0, none, 0, [], rfl, rfl, HLN.out, HL.out, HC.out, fun t ht => ht, ownF_nil _ _, Below.refl _ _, by show _ = _; rw [HT.out]; rfl, by show _ ≤ _; omega⟩
  case round =>
    obtain ⟨rest, A', m, c', j, A2, c2, rs, rfl, rfl, HRLEN, HHO, HCR, HSR, HO, HB, HTR, HJ⟩ := hrel
    cases rest with
    | nil =>
      have hm0 : m = 0 := by have := HRLEN.out; simpa using this.symm
      subst hm0
      have HE : Hid (rs.map (·.1) = TOT) := by show _ = _; rw [HTR.out, HP0.out, List.append_nil]
      go_wp2_with fail
      go_ret
      refine ⟨A2, j, c2, rfl, by have := HJ.out; omega, ?_, HB.out⟩
      rw [← HE.out]
      exact OwnF.slice HO.out
    | cons x r =>
      have hm1 : r.length + 1 = m := HRLEN.out
      have hm0 : 0 < m := by omega
      have hmc : m ≤ c' := HCR.out
      obtain ⟨b, off, hA, hbl, c0⟩ := HHO.out.num (k := 0) (by simp)
      subst hA
      have c0 : wr.cell? ⟨b, off, none⟩ = some (.int .i64 (x : Nat)) := c0
      have hbw : b < wr.heap.size := Nat.lt_of_lt_of_le hbl HB.out.size
      have HBL := Lib.hid hbw
      have HC0 := Lib.hid c0
      have HHR : Hid (∀ w', (∀ i, i < w.heap.size → w'.heap[i]? = wr.heap[i]?) → Holds w' w.heap.size (some ⟨b, off, none⟩) (nums (x :: r))) := fun w' hb => HHO.out.kept hb
      have HSM : Hid (∀ w', Below w.heap.size w w' → ∀ i, i < w.heap.size → w'.heap[i]? = wr.heap[i]?) := fun w' hb i hi => (hb.block i hi).trans (HB.out.block i hi).symm
      have hxt : x ∈ l := HSR.out x (by simp)
      have HCA := Lib.hid (HS.out x hxt wr HB.out)
      have HON := Lib.hid (HON.out x hxt)
      clear hbw hbl hxt
      cases hpx : p x with
      | true =>
        rw [hpx] at HCA
        have HN1 : Hid (TOT = rs.map (·.1) ++ (one x :: PC r)) := by
          show _ = _
          rw [HTR.out, HP1.out _ _ hpx]
        clear hpx
        obtain ⟨ot, hot⟩ : ∃ ot, ot = one x := ⟨_, rfl⟩
        rw [← hot] at HON HN1
        clear hot
        obtain ⟨ck, cn, ctx, cks⟩ := ot
        rcases hf with ⟨rfl, rfl⟩ | ⟨rfl, rfl⟩
        all_goals
          go_wp2_with (first | (go_at_call 182; refine HCA.out.mono ?_; rintro e w1 ⟨rfl, hb1⟩; have HB1 := Lib.hid (below_then HB.out hb1); have HBI := Lib.hid hb1; have c1 : w1.cell? ⟨b, off, none⟩ = some (.int .i64 (x : Nat)) := (hb1.cell (p := ⟨b, off, none⟩) HBL.out).trans HC0.out; clear hb1) | ((first | go_at_call 183 | go_at_call 158); refine (HON.out w1 HB1.out).mono ?_; rintro e w2 ⟨A7, m7, c7, he, hk7, hb7⟩; obtain rfl : e = .returned (.agg #[.int .i64 ck, .int .i64 cn, .int .i64 0, .slice none 0 0, .string ctx, .slice A7 m7 c7]) := he; have HBX := Lib.hid (below_then HBI.out (below_then hb7 (below_alloc (Below.refl w2.heap.size w2) (.cells #[.int .i64 ck, .int .i64 cn, .int .i64 0, .slice none 0 0, .string ctx, .slice A7 m7 c7] 75)))); have HBA := Lib.hid (below_then HB.out HBX.out); have HOA := Lib.hid (OwnF.below HO.out HBX.out); have HNB := Lib.hid (Blk.new w2 75 #[.int .i64 ck, .int .i64 cn, .int .i64 0, .slice none 0 0, .string ctx, .slice A7 m7 c7]); have HLO := Lib.hid (HB.out.size); have HK7 := Lib.hid (show KidsAt (w2.alloc (.cells #[.int .i64 ck, .int .i64 cn, .int .i64 0, .slice none 0 0, .string ctx, .slice A7 m7 c7] 75)) (MadeQ wr (w2.alloc (.cells #[.int .i64 ck, .int .i64 cn, .int .i64 0, .slice none 0 0, .string ctx, .slice A7 m7 c7] 75))) cks A7 m7 from hk7.mono fun b hq => ⟨⟨Nat.le_trans HBI.out.size hq.1, by have := hq.2; simp; omega⟩, (below_alloc (Below.refl w2.heap.size w2) _).block b hq.2⟩); clear hk7 hb7) | (at_builtin; refine wpList_append_any rfl _ _ 73 rfl w.heap.size 75 iT (.agg (treeC (.mk 0 0 noS []) none 0 0).toArray) 6 88 Tryz.underlying73 hiT hzT0 hzT1 hzT2 rfl (by decide) (.slice A2 j c2) j (rs.flatMap rowC) rfl (OwnT.own HOA.out) (some ⟨w2.heap.size, 0, none⟩) 1 1 (rowC (TreeV.mk ck cn ctx cks, A7, m7, c7)) rfl rfl (.inl ⟨w2.heap.size, 0, rfl, fun j u hj => by rw [Nat.zero_add, HNB.out.cell j]; simpa [rowC, treeC, TreeV.kind, TreeV.node, TreeV.text] using hj⟩) (treeC_one _ _ _ _) (by have := HJ.out; have := HMM.out; unfold maxLen; omega) (by have := HJ.out; have := HMM.out; omega) HBA.out.size ?_; intro A9 c9 w9 ho9 hg9 hat9; have HO9 := Lib.hid (OwnF.app (ls := [(TreeV.mk ck cn ctx cks, A7, m7, c7)]) HO.out HBX.out (HLO.out) rfl (fun r hr => by simp at hr; subst hr; exact HK7.out) (by simpa using ho9) hg9 hat9); have HB9 := Lib.hid (HBA.out.grown hg9 HBA.out.size (fun q hq => ((OwnT.own HOA.out).lt q hq).1)); clear ho9 hg9 hat9))
          go_round
          case rel =>
            refine ⟨r, _, _, _, j + 1, A9, c9, _, rfl, rfl, ?_, ?_, ?_, fun t ht => HSR.out t (by simp [ht]), HO9.out, HB9.out, ?_, ?_⟩
            · show _ = _; omega
            · have h1 := (HHR.out w9 (HSM.out w9 HB9.out)).rest (k := 1) (c := c') (by rw [List.length_cons]; omega)
              show Holds _ _ _ _
              simpa using h1
            · show _ ≤ _; omega
            · show _ = _
              rw [HN1.out, List.map_append, List.append_assoc]; rfl
            · have := HJ.out; show _ ≤ _; omega
          case measure => simp only [lenVT]; omega
      | false =>
        rw [hpx] at HCA
        obtain ⟨K, hK⟩ : ∃ K, K = ((x :: r).takeWhile fun y => !p y).length := ⟨_, rfl⟩
        obtain ⟨htk, htd, htl⟩ := take_while_len (fun y => !p y) (x :: r)
        rw [← hK] at htk htd htl
        have hKm : K ≤ m := by rw [← hm1]; simpa using htl
        have hK0 : 0 < K := by rw [hK, List.takeWhile_cons]; simp [hpx]
        have hKc : K ≤ c' := Nat.le_trans hKm hmc
        have hc0 : ¬ c' = 0 := by omega
        have hK1k : K ≤ 1000 := by have := HJ.out; have := HMM.out; omega
        have hIX := idxR_at p (x :: r) 0
        rw [← hK, Nat.zero_add] at hIX
        have hP2 := HP2.out _ r hpx
        rw [← htk, ← htd] at hP2
        have HSF : Hid (∀ t ∈ (x :: r).take K, t ∈ l) := fun t ht => HSR.out t (List.mem_of_mem_take ht)
        have HIR := Lib.hid (fun w' (hb : Below w.heap.size w w') => indexN_calls gm gi p (x :: r) (some ⟨b, off, none⟩) m c' w' (by have := HJ.out; have := HMM.out; omega) HRLEN.out ((HHR.out w' (HSM.out w' hb)).more hb.size) (SaysN.sub HS.out HSR.out hb))
        have hall : (x :: r).any p = false → K = m := fun ha => by
          have h1 := take_all p _ ha
          rw [hK, h1, List.length_cons, hm1]
        generalize idxR p (x :: r) 0 = ix at hIX HIR
        generalize (x :: r).any p = an at hIX hall
        obtain ⟨REST, hREST⟩ : ∃ REST, REST = (x :: r).drop K := ⟨_, rfl⟩
        rw [← hREST] at hP2
        have HREST := Lib.hid hREST
        have HRL : Hid (REST.length = m - K) := by show _ = _; rw [hREST, List.length_drop, List.length_cons, hm1]
        obtain ⟨US, hUS⟩ : ∃ US, US = (x :: r).take K := ⟨_, rfl⟩
        have hUL : US.length = K := by rw [hUS, List.length_take, List.length_cons]; omega
        have HRUK := Lib.hid (fun w' (hb : Below w.heap.size w w') => HRU.out US (some ⟨b, off, none⟩) K c' w' (by rw [hUS]; exact HSF.out) hUL (by have := HLN.out; have := HJ.out; omega) hb (by rw [hUS]; exact ((HHR.out w' (HSM.out w' hb)).more hb.size).numsTake K))
        rw [← hUS] at hP2
        obtain ⟨tld, htld⟩ : ∃ tld, tld = told US := ⟨_, rfl⟩
        obtain ⟨rt, hrt⟩ : ∃ rt, rt = run US := ⟨_, rfl⟩
        rw [← htld, ← hrt] at hP2 HRUK
        clear HRU
        have HRU := HRUK
        have HP2' := Lib.hid hP2
        have HRS : Hid (∀ t ∈ REST, t ∈ l) := by rw [hREST]; exact fun t ht => HSR.out t (List.mem_of_mem_drop ht)
        clear hpx htk htd htl hK hP2 hREST HRUK hUS hUL htld hrt
        obtain ⟨ck, cn, ctx, cks⟩ := rt
        have hcase : (an = false ∧ ix = -1 ∧ K = m) ∨ (an = true ∧ ix = (K : Int)) := by
          cases an with
          | false => exact .inl ⟨rfl, hIX, hall rfl⟩
          | true => exact .inr ⟨rfl, hIX⟩
        clear hIX hall
        rcases hcase with ⟨rfl, rfl, hKe⟩ | ⟨rfl, rfl⟩
        · have hix : ((-1 : Int) < 0) := by omega
          obtain rfl : m = K := hKe.symm
          cases tld with
          | true =>
            rcases hf with ⟨rfl, rfl⟩ | ⟨rfl, rfl⟩
            all_goals
              go_wp2_with (first | (go_at_call 182; refine HCA.out.mono ?_; rintro e w1 ⟨rfl, hb1⟩; have HB1 := Lib.hid (below_then HB.out hb1); have HO1 := Lib.hid (OwnF.below HO.out hb1); clear hb1) | (go_at_call 181; refine (HIR.out w1 HB1.out).mono ?_; rintro e w2 ⟨rfl, hb2⟩; have HB2 := Lib.hid (below_then HB1.out hb2); have HO2 := Lib.hid (OwnF.below HO1.out hb2); clear hb2) | ((first | go_at_call 184 | go_at_call 160); refine (HRU.out w2 HB2.out).mono ?_; rintro e w3 ⟨A7, m7, c7, he, hk7, hb7⟩; obtain rfl : e = .returned (.tuple #[.agg #[.int .i64 ck, .int .i64 cn, .int .i64 0, .slice none 0 0, .string ctx, .slice A7 m7 c7], .bool true]) := he; have HBX := Lib.hid (below_then hb7 (below_alloc (below_alloc (Below.refl w3.heap.size w3) (.cells #[.int .i64 ck, .int .i64 cn, .int .i64 0, .slice none 0 0, .string ctx, .slice A7 m7 c7] 75)) (.cells #[.int .i64 ck, .int .i64 cn, .int .i64 0, .slice none 0 0, .string ctx, .slice A7 m7 c7] 75))); have HBA := Lib.hid (below_then HB2.out HBX.out); have HOA := Lib.hid (OwnF.below HO2.out HBX.out); have HLO := Lib.hid (HB2.out.size); have hnb := Blk.new (w3.alloc (.cells #[.int .i64 ck, .int .i64 cn, .int .i64 0, .slice none 0 0, .string ctx, .slice A7 m7 c7] 75)) 75 #[.int .i64 ck, .int .i64 cn, .int .i64 0, .slice none 0 0, .string ctx, .slice A7 m7 c7]; rw [alloc_size] at hnb; have HNB := Lib.hid hnb; have HK7 := Lib.hid (show KidsAt ((w3.alloc (.cells #[.int .i64 ck, .int .i64 cn, .int .i64 0, .slice none 0 0, .string ctx, .slice A7 m7 c7] 75)).alloc (.cells #[.int .i64 ck, .int .i64 cn, .int .i64 0, .slice none 0 0, .string ctx, .slice A7 m7 c7] 75)) (MadeQ w2 ((w3.alloc (.cells #[.int .i64 ck, .int .i64 cn, .int .i64 0, .slice none 0 0, .string ctx, .slice A7 m7 c7] 75)).alloc (.cells #[.int .i64 ck, .int .i64 cn, .int .i64 0, .slice none 0 0, .string ctx, .slice A7 m7 c7] 75))) cks A7 m7 from hk7.mono fun b hq => ⟨⟨hq.1, by have := hq.2; simp; omega⟩, (below_alloc (below_alloc (Below.refl w3.heap.size w3) _) _).block b hq.2⟩); clear hk7 hb7 hnb) | (at_builtin; refine wpList_append_any rfl _ _ 73 rfl w.heap.size 75 iT (.agg (treeC (.mk 0 0 noS []) none 0 0).toArray) 6 88 Tryz.underlying73 hiT hzT0 hzT1 hzT2 rfl (by decide) (.slice A2 j c2) j (rs.flatMap rowC) rfl (OwnT.own HOA.out) (some ⟨w3.heap.size + 1, 0, none⟩) 1 1 (rowC (TreeV.mk ck cn ctx cks, A7, m7, c7)) rfl rfl (.inl ⟨w3.heap.size + 1, 0, rfl, fun j u hj => by rw [Nat.zero_add, HNB.out.cell j]; simpa [rowC, treeC, TreeV.kind, TreeV.node, TreeV.text] using hj⟩) (treeC_one _ _ _ _) (by have := HJ.out; have := HMM.out; unfold maxLen; omega) (by have := HJ.out; have := HMM.out; omega) HBA.out.size ?_; intro A9 c9 w9 ho9 hg9 hat9; have HO9 := Lib.hid (OwnF.app (ls := [(TreeV.mk ck cn ctx cks, A7, m7, c7)]) HO2.out HBX.out (HLO.out) rfl (fun r hr => by simp at hr; subst hr; exact HK7.out) (by simpa using ho9) hg9 hat9); have HB9 := Lib.hid (HBA.out.grown hg9 HBA.out.size (fun q hq => ((OwnT.own HOA.out).lt q hq).1)); clear ho9 hg9 hat9))
              go_round
              case rel =>
                refine ⟨REST, _, _, _, j + 1, A9, c9, _, rfl, rfl, (by show _ = _; have := HRL.out; omega), ?_, ?_, HRS.out, HO9.out, HB9.out, ?_, ?_⟩
                · have h1 := (HHR.out w9 (HSM.out w9 HB9.out)).rest (k := m) (c := c') (by rw [List.length_cons]; omega)
                  rw [← HREST.out] at h1
                  show Holds _ _ _ _
                  simpa using h1
                · show _ ≤ _; omega
                · show _ = _
                  rw [HTR.out, HP2'.out, List.map_append, List.append_assoc]; rfl
                · have := HJ.out; show _ ≤ _; omega
              case measure => simp only [lenVT]; omega
          | false =>
            rcases hf with ⟨rfl, rfl⟩ | ⟨rfl, rfl⟩
            all_goals
              go_wp2_with (first | (go_at_call 182; refine HCA.out.mono ?_; rintro e w1 ⟨rfl, hb1⟩; have HB1 := Lib.hid (below_then HB.out hb1); have HO1 := Lib.hid (OwnF.below HO.out hb1); clear hb1) | (go_at_call 181; refine (HIR.out w1 HB1.out).mono ?_; rintro e w2 ⟨rfl, hb2⟩; have HB2 := Lib.hid (below_then HB1.out hb2); have HO2 := Lib.hid (OwnF.below HO1.out hb2); clear hb2) | ((first | go_at_call 184 | go_at_call 160); refine (HRU.out w2 HB2.out).mono ?_; rintro e w3 ⟨A7, m7, c7, he, hk7, hb7⟩; obtain rfl : e = .returned (.tuple #[.agg #[.int .i64 ck, .int .i64 cn, .int .i64 0, .slice none 0 0, .string ctx, .slice A7 m7 c7], .bool false]) := he; have HBX := Lib.hid (below_then hb7 (below_alloc (Below.refl w3.heap.size w3) (.cells #[.int .i64 ck, .int .i64 cn, .int .i64 0, .slice none 0 0, .string ctx, .slice A7 m7 c7] 75))); clear hk7 hb7))
              go_round
              case rel =>
                refine ⟨REST, _, _, _, j, A2, c2, rs, rfl, rfl, (by show _ = _; have := HRL.out; omega), ?_, ?_, HRS.out, OwnF.below HO2.out HBX.out, below_then HB2.out HBX.out, ?_, ?_⟩
                · have h1 := (HHR.out _ (HSM.out _ (below_then HB2.out HBX.out))).rest (k := m) (c := c') (by rw [List.length_cons]; omega)
                  rw [← HREST.out] at h1
                  show Holds _ _ _ _
                  simpa using h1
                · show _ ≤ _; omega
                · show _ = _
                  rw [HTR.out, HP2'.out]; rfl
                · have := HJ.out; show _ ≤ _; omega
              case measure => simp only [lenVT]; omega
        · have hix : ¬ ((K : Int) < 0) := by omega
          cases tld with
          | true =>
            rcases hf with ⟨rfl, rfl⟩ | ⟨rfl, rfl⟩
            all_goals
              go_wp2_with (first | (go_at_call 182; refine HCA.out.mono ?_; rintro e w1 ⟨rfl, hb1⟩; have HB1 := Lib.hid (below_then HB.out hb1); have HO1 := Lib.hid (OwnF.below HO.out hb1); clear hb1) | (go_at_call 181; refine (HIR.out w1 HB1.out).mono ?_; rintro e w2 ⟨rfl, hb2⟩; have HB2 := Lib.hid (below_then HB1.out hb2); have HO2 := Lib.hid (OwnF.below HO1.out hb2); clear hb2) | ((first | go_at_call 184 | go_at_call 160); refine (HRU.out w2 HB2.out).mono ?_; rintro e w3 ⟨A7, m7, c7, he, hk7, hb7⟩; obtain rfl : e = .returned (.tuple #[.agg #[.int .i64 ck, .int .i64 cn, .int .i64 0, .slice none 0 0, .string ctx, .slice A7 m7 c7], .bool true]) := he; have HBX := Lib.hid (below_then hb7 (below_alloc (below_alloc (Below.refl w3.heap.size w3) (.cells #[.int .i64 ck, .int .i64 cn, .int .i64 0, .slice none 0 0, .string ctx, .slice A7 m7 c7] 75)) (.cells #[.int .i64 ck, .int .i64 cn, .int .i64 0, .slice none 0 0, .string ctx, .slice A7 m7 c7] 75))); have HBA := Lib.hid (below_then HB2.out HBX.out); have HOA := Lib.hid (OwnF.below HO2.out HBX.out); have HLO := Lib.hid (HB2.out.size); have hnb := Blk.new (w3.alloc (.cells #[.int .i64 ck, .int .i64 cn, .int .i64 0, .slice none 0 0, .string ctx, .slice A7 m7 c7] 75)) 75 #[.int .i64 ck, .int .i64 cn, .int .i64 0, .slice none 0 0, .string ctx, .slice A7 m7 c7]; rw [alloc_size] at hnb; have HNB := Lib.hid hnb; have HK7 := Lib.hid (show KidsAt ((w3.alloc (.cells #[.int .i64 ck, .int .i64 cn, .int .i64 0, .slice none 0 0, .string ctx, .slice A7 m7 c7] 75)).alloc (.cells #[.int .i64 ck, .int .i64 cn, .int .i64 0, .slice none 0 0, .string ctx, .slice A7 m7 c7] 75)) (MadeQ w2 ((w3.alloc (.cells #[.int .i64 ck, .int .i64 cn, .int .i64 0, .slice none 0 0, .string ctx, .slice A7 m7 c7] 75)).alloc (.cells #[.int .i64 ck, .int .i64 cn, .int .i64 0, .slice none 0 0, .string ctx, .slice A7 m7 c7] 75))) cks A7 m7 from hk7.mono fun b hq => ⟨⟨hq.1, by have := hq.2; simp; omega⟩, (below_alloc (below_alloc (Below.refl w3.heap.size w3) _) _).block b hq.2⟩); clear hk7 hb7 hnb) | (at_builtin; refine wpList_append_any rfl _ _ 73 rfl w.heap.size 75 iT (.agg (treeC (.mk 0 0 noS []) none 0 0).toArray) 6 88 Tryz.underlying73 hiT hzT0 hzT1 hzT2 rfl (by decide) (.slice A2 j c2) j (rs.flatMap rowC) rfl (OwnT.own HOA.out) (some ⟨w3.heap.size + 1, 0, none⟩) 1 1 (rowC (TreeV.mk ck cn ctx cks, A7, m7, c7)) rfl rfl (.inl ⟨w3.heap.size + 1, 0, rfl, fun j u hj => by rw [Nat.zero_add, HNB.out.cell j]; simpa [rowC, treeC, TreeV.kind, TreeV.node, TreeV.text] using hj⟩) (treeC_one _ _ _ _) (by have := HJ.out; have := HMM.out; unfold maxLen; omega) (by have := HJ.out; have := HMM.out; omega) HBA.out.size ?_; intro A9 c9 w9 ho9 hg9 hat9; have HO9 := Lib.hid (OwnF.app (ls := [(TreeV.mk ck cn ctx cks, A7, m7, c7)]) HO2.out HBX.out (HLO.out) rfl (fun r hr => by simp at hr; subst hr; exact HK7.out) (by simpa using ho9) hg9 hat9); have HB9 := Lib.hid (HBA.out.grown hg9 HBA.out.size (fun q hq => ((OwnT.own HOA.out).lt q hq).1)); clear ho9 hg9 hat9))
              go_round
              case rel =>
                refine ⟨REST, _, _, _, j + 1, A9, c9, _, rfl, rfl, (by show _ = _; have := HRL.out; omega), ?_, ?_, HRS.out, HO9.out, HB9.out, ?_, ?_⟩
                · have h1 := (HHR.out w9 (HSM.out w9 HB9.out)).rest (k := K) (c := c') (by rw [List.length_cons]; omega)
                  rw [← HREST.out] at h1
                  show Holds _ _ _ _
                  simpa using h1
                · show _ ≤ _; omega
                · show _ = _
                  rw [HTR.out, HP2'.out, List.map_append, List.append_assoc]; rfl
                · have := HJ.out; show _ ≤ _; omega
              case measure => simp only [lenVT]; omega
          | false =>
            rcases hf with ⟨rfl, rfl⟩ | ⟨rfl, rfl⟩
            all_goals
              go_wp2_with (first | (go_at_call 182; refine HCA.out.mono ?_; rintro e w1 ⟨rfl, hb1⟩; have HB1 := Lib.hid (below_then HB.out hb1); have HO1 := Lib.hid (OwnF.below HO.out hb1); clear hb1) | (go_at_call 181; refine (HIR.out w1 HB1.out).mono ?_; rintro e w2 ⟨rfl, hb2⟩; have HB2 := Lib.hid (below_then HB1.out hb2); have HO2 := Lib.hid (OwnF.below HO1.out hb2); clear hb2) | ((first | go_at_call 184 | go_at_call 160); refine (HRU.out w2 HB2.out).mono ?_; rintro e w3 ⟨A7, m7, c7, he, hk7, hb7⟩; obtain rfl : e = .returned (.tuple #[.agg #[.int .i64 ck, .int .i64 cn, .int .i64 0, .slice none 0 0, .string ctx, .slice A7 m7 c7], .bool false]) := he; have HBX := Lib.hid (below_then hb7 (below_alloc (Below.refl w3.heap.size w3) (.cells #[.int .i64 ck, .int .i64 cn, .int .i64 0, .slice none 0 0, .string ctx, .slice A7 m7 c7] 75))); clear hk7 hb7))
              go_round
              case rel =>
                refine ⟨REST, _, _, _, j, A2, c2, rs, rfl, rfl, (by show _ = _; have := HRL.out; omega), ?_, ?_, HRS.out, OwnF.below HO2.out HBX.out, below_then HB2.out HBX.out, ?_, ?_⟩
                · have h1 := (HHR.out _ (HSM.out _ (below_then HB2.out HBX.out))).rest (k := K) (c := c') (by rw [List.length_cons]; omega)
                  rw [← HREST.out] at h1
                  show Holds _ _ _ _
                  simpa using h1
                · show _ ≤ _; omega
                · show _ = _
                  rw [HTR.out, HP2'.out]; rfl
                · have := HJ.out; show _ ≤ _; omega
              case measure => simp only [lenVT]; omega
end Go.Proofs.YtkmmlcnoeeaekaaGreatDoor
