/- Several texts in one: BxL. -/
import Derived.Test.YtkmmlcnoeeaekaaGreatDoorBoxesMakeM26
/- Contract of split, of trees. -/
namespace Go.Proofs.YtkmmlcnoeeaekaaGreatDoor
open Go.RowKit
set_option linter.unusedVariables false
set_option linter.unusedSimpArgs false

theorem row1_calls (kd nd : Int) (tx : ByteArray) (A : Option Addr) (m c : Nat) (w : World) :
    Calls Tryz.prog 107 #[.agg #[.int .i64 kd, .int .i64 nd, .int .i64 0, .slice none 0 0, .string tx, .slice A m c]] w fun e w' => e = .returned (.agg #[.int .i64 kd, .int .i64 nd, .int .i64 0, .slice none 0 0, .string tx, .slice A m c]) ∧ Below w.heap.size w w' := by
  have HB := Lib.hid (below_alloc (below_alloc (Below.refl w.heap.size w) (.cells #[.int .i64 kd, .int .i64 nd, .int .i64 0, .slice none 0 0, .string tx, .slice A m c] 75)) (.cells #[.int .i64 kd, .int .i64 nd, .int .i64 0, .slice none 0 0, .string tx, .slice A m c] 75))
  have hr := Blk.new (w.alloc (.cells #[.int .i64 kd, .int .i64 nd, .int .i64 0, .slice none 0 0, .string tx, .slice A m c] 75)) 75 #[.int .i64 kd, .int .i64 nd, .int .i64 0, .slice none 0 0, .string tx, .slice A m c]
  rw [alloc_size] at hr
  have HR := Lib.hid hr
  clear hr
  go_enter Tryz.func107, Tryz.ntmps107
  go_wp2_with fail
  exact bodyPost_ret (ret_tree Tryz.results107 _ _ (w.heap.size + 1) _ rfl HR.out rfl) rfl ⟨rfl, HB.out⟩
theorem own_baseT {w : World} {base n size : Nat} {e : TypeId} {v : Value} {xs : List Value} (h : w.ownsRow base e size v n xs) (b : Nat) (hb : v.ownBlock = some b) : base ≤ b := (h.lt b hb).1
theorem SaysT.sub {f g : Nat} {p : TreeV → Bool} {ts us : List TreeV} {w w' : World} (h : SaysT f g p ts w) (hs : ∀ t ∈ us, t ∈ ts) (hb : Below w.heap.size w w') : SaysT f g p us w' :=
  fun t ht A m c w2 hb2 => h t (hs t ht) A m c w2 (below_then hb hb2)
def lenVT : Value → Nat
  | .slice _ n _ => n
  | _ => 0
section
variable {α β : Type} {alone : α → Bool} {one : α → β} {run : List α → β} {told : List α → Bool}
theorem pieces_one (h0 : told [] = false) {x : α} {l : List α} (h : alone x = true) : pieces alone one run told [] (x :: l) = one x :: pieces alone one run told [] l := by
  rw [pieces, if_pos h, h0]; rfl
theorem pieces_more (h0 : told [] = false) {x : α} {l : List α} (h : alone x = false) : pieces alone one run told [] (x :: l) = (if told ((x :: l).takeWhile fun y => !alone y) then [run ((x :: l).takeWhile fun y => !alone y)] else []) ++ pieces alone one run told [] ((x :: l).dropWhile fun y => !alone y) := by
  rw [← split_pieces h0 (l.length + 1) (x :: l) (by simp), splitN, if_neg (by simp [h])]
  have hd : (l.dropWhile (fun y => !alone y)).length ≤ l.length := (List.dropWhile_suffix _).length_le
  rw [split_pieces h0 l.length _ hd, List.takeWhile_cons, List.dropWhile_cons]
  simp [h]
end
theorem take_while_len {α : Type} (p : α → Bool) : ∀ (l : List α), l.take (l.takeWhile p).length = l.takeWhile p ∧ l.drop (l.takeWhile p).length = l.dropWhile p ∧ (l.takeWhile p).length ≤ l.length
  | [] => ⟨rfl, rfl, Nat.le_refl _⟩
  | x :: l => by
    obtain ⟨h1, h2, h3⟩ := take_while_len p l
    rw [List.takeWhile_cons, List.dropWhile_cons]
    cases hx : p x with
    | true => simp only [if_true, List.length_cons, List.take_succ_cons, List.drop_succ_cons]; exact ⟨by rw [h1], h2, by omega⟩
    | false => simp
theorem take_all {α : Type} (p : α → Bool) : ∀ (l : List α), l.any p = false → l.takeWhile (fun y => !p y) = l
  | [], _ => rfl
  | x :: l, h => by
    rw [List.any_cons] at h
    have h1 : p x = false := by cases hx : p x <;> simp_all
    have h2 : l.any p = false := by cases hx : l.any p <;> simp_all
    rw [List.takeWhile_cons]
    simp only [h1, Bool.not_false, if_true, take_all p l h2]
/-- A slice's front. -/
theorem KidsAt.front {w : World} {Q : Nat → Prop} {ts : List TreeV} {A : Option Addr} {n : Nat} (h : KidsAt w Q ts A n) {k : Nat} (hk : k ≤ n) : KidsAt w Q (ts.take k) A k := by
  refine ⟨by rw [List.length_take, h.1]; omega, ?_⟩
  rcases h.2 with h0 | ⟨b, off, e, hq, hts⟩
  · exact .inl (by omega)
  · exact .inr ⟨b, off, e, hq, hts.take k⟩
/-- A slice's rest. -/
theorem KidsAt.rest {w : World} {Q : Nat → Prop} {ts : List TreeV} {b off n c : Nat} (h : KidsAt w Q ts (some ⟨b, off, none⟩) n) {k : Nat} (hk : k ≤ n) (hc : n ≤ c) : KidsAt w Q (ts.drop k) (if c = k then some ⟨b, off, none⟩ else some ⟨b, off + k * 6, none⟩) (n - k) := by
  refine ⟨by rw [List.length_drop, h.1], ?_⟩
  by_cases hck : c = k
  · exact .inl (by omega)
  · rcases h.2 with h0 | ⟨b', off', e, hq, hts⟩
    · exact .inl (by omega)
    · injection e with e
      injection e with e1 e2
      subst e1; subst e2
      rw [if_neg hck]
      refine .inr ⟨b, off + k * 6, rfl, hq, ?_⟩
      have := hts.drop k
      rw [Nat.mul_comm 6 k] at this
      exact this
theorem info_treeL : (Tryz.prog.info? 75).map (fun i => (i.zero, i.size, i.bytes)) = some (some (.agg (treeC (.mk 0 0 noS []) none 0 0).toArray), 6, 88) := info_treeB
set_option maxRecDepth 100000 in
set_option maxHeartbeats 8000000 in
theorem splitT_calls (I : BxV) (hc : DocOk I.ns) (f g : Nat) (p : TreeV → Bool) (hf : f = 61 ∨ f = 111) (ts : List TreeV) (A : Option Addr) (n c : Nat) (Q : Nat → Prop) (w : World) (hm : n ≤ 1000) (hcap : n ≤ c) (h : I.ok w w.heap.size)
    (hK : KidsAt w Q ts A n) (hQ : ∀ b, Q b → b < w.heap.size) (hn : ∀ t ∈ ts, TreeOk I t) (HP : SaysT f g p ts w) :
    Calls Tryz.prog 106 #[.slice A n c, .func (.func f) #[] #[.pointer (some ⟨g, 0, none⟩)], .func (.func 107) #[] #[], .func (.func 108) #[mkA I] #[]] w fun e w' => ∃ A9 n9 c9, e = .returned (.slice A9 n9 c9) ∧ n9 ≤ n ∧ KidsAt w' (fun b => Q b ∨ MadeQ w w' b) ((docB I hc).rowT p ts) A9 n9 ∧ Below w.heap.size w w' := by
  obtain ⟨iT, hiT, hzT0, hzT1, hzT2⟩ := info_partsK info_treeL
  have h0 : (fun r => !(docB I hc).idleT r) [] = false := rfl
  obtain ⟨PC, hPC⟩ : ∃ PC : List TreeV → List TreeV, PC = fun l => pieces p id DocB.linesT (fun r => !(docB I hc).idleT r) [] l := ⟨_, rfl⟩
  obtain ⟨TOT, hTOT⟩ : ∃ TOT, TOT = (docB I hc).rowT p ts := ⟨_, rfl⟩
  have hTP : TOT = PC ts := by rw [hTOT, hPC]; rfl
  rw [← hTOT]
  have HP0 : Hid (PC [] = []) := by show _ = _; rw [hPC]; show pieces _ _ _ _ _ _ = _; rw [pieces]; rfl
  have HP1 : Hid (∀ x l, p x = true → PC (x :: l) = x :: PC l) := fun x l hx => by rw [hPC]; exact pieces_one (run := DocB.linesT) (one := id) h0 hx
  have HP2 : Hid (∀ x l, p x = false → PC (x :: l) = (if (!(docB I hc).idleT ((x :: l).takeWhile fun y => !p y)) = true then [DocB.linesT ((x :: l).takeWhile fun y => !p y)] else []) ++ PC ((x :: l).dropWhile fun y => !p y)) := fun x l hx => by rw [hPC]; exact pieces_more (run := DocB.linesT) (one := id) h0 hx
  have HT := Lib.hid hTP
  have HK := Lib.hid hK
  have HQ := Lib.hid hQ
  have HN := Lib.hid hn
  have HS := Lib.hid HP
  have HOK := Lib.hid h
  have HC := Lib.hid hcap
  have HI : Hid (∀ (us : List TreeV) (A' : Option Addr) (m c' : Nat) (w' : World), m ≤ 1000 → Below w.heap.size w w' → KidsAt w' Q us A' m → (∀ t ∈ us, t ∈ ts) →
      Calls Tryz.prog 105 #[.slice A' m c', .func (.func f) #[] #[.pointer (some ⟨g, 0, none⟩)]] w' fun e w2 => e = .returned (.int .i64 (idxR p us 0)) ∧ Below w'.heap.size w' w2) :=
    fun us A' m c' w' hm' hb hk hs => indexT_calls f g p us A' m c' Q w' hm' (hf.elim .inl fun h => .inr (.inr (.inl h))) hk (fun b hq => Nat.lt_of_lt_of_le (hQ b hq) hb.size) (HP.sub hs hb)
  have HLN : Hid (∀ (us : List TreeV) (A' : Option Addr) (m c' : Nat) (w' : World), m ≤ 1000 → Below w.heap.size w w' → KidsAt w' Q us A' m → (∀ t ∈ us, t ∈ ts) →
      Calls Tryz.prog 108 #[.agg #[.slice I.A I.n I.c, .slice I.Al I.nl I.cl], .slice A' m c'] w' fun e w2 => e = .returned (.tuple #[.agg #[.int .i64 2, .int .i64 (-1), .int .i64 0, .slice none 0 0, .string ⟨#[]⟩, .slice A' m c'], .bool (!(docB I hc).idleT us)]) ∧ Below w'.heap.size w' w2) :=
    fun us A' m c' w' hm' hb hk hs => lines_calls I hc us A' m c' Q w' hm' ((h.below hb (Nat.le_refl _)).more hb.size) hk (fun b hq => Nat.lt_of_lt_of_le (hQ b hq) hb.size) (fun t ht => hn t (hs t ht))
  have HMM := Lib.hid hm
  obtain ⟨IDL, hIDL⟩ : ∃ IDL : List TreeV → Bool, IDL = (docB I hc).idleT := ⟨_, rfl⟩
  rw [← hIDL] at HP2 HLN
  clear hTOT hTP hPC h0 hK hQ hn HP h hcap hIDL hm
  unfold mkA
  go_enter Tryz.func106, Tryz.ntmps106
  go_upto_region 2 with fail
  go_loopw [0, 9] (fun vl vo wr => ∃ (rest : List TreeV) (A' : Option Addr) (m c' j : Nat) (A2 : Option Addr) (c2 : Nat) (rs : List RowT), vl = .slice A' m c' ∧ vo = .slice A2 j c2 ∧ Hid (KidsAt wr Q rest A' m) ∧ Hid (m ≤ c') ∧ Hid (∀ t ∈ rest, t ∈ ts) ∧ Hid (OwnT wr w.heap.size Q (.slice A2 j c2) j rs) ∧ Hid (Below w.heap.size w wr) ∧ Hid (TOT = rs.map (·.1) ++ PC rest) ∧ Hid (j + m ≤ n)) (fun vl _ _ => lenVT vl)
  case atStart => exact ⟨ts, A, n, c, 0, none, 0, [], rfl, rfl, HK.out, HC.out, fun t ht => ht, (ownT_nil w w.heap.size).weaken (fun _ h => h.elim) HQ.out (fun b _ => by simp [Value.ownBlock]), Below.refl _ _, by show _ = _; rw [HT.out]; rfl, by show _ ≤ _; omega⟩
  case round =>
    obtain ⟨rest, A', m, c', j, A2, c2, rs, rfl, rfl, HKR, HCR, HSR, HO, HB, HTR, HJ⟩ := hrel
    cases rest with
    | nil =>
      have hm0 : m = 0 := by have := HKR.out.1; simpa using this.symm
      subst hm0
      have HE : Hid (rs.map (·.1) = TOT) := by show _ = _; rw [HTR.out, HP0.out, List.append_nil]
      go_wp2_with fail
      go_ret
      refine ⟨A2, j, c2, rfl, by have := HJ.out; omega, ?_, HB.out⟩
      rw [← HE.out]
      refine (OwnT.slice HO.out).mono fun b hq => ⟨?_, rfl⟩
      rcases hq with hq | hq
      · exact .inl hq
      · exact .inr ((OwnT.own HO.out).lt b hq)
    | cons x r =>
      have hm1 : r.length + 1 = m := HKR.out.1
      have hm0 : 0 < m := by omega
      have hmc : m ≤ c' := HCR.out
      obtain ⟨b, off, hA, hqb, A7, m7, c7, hcl, hkx⟩ := HKR.out.at_ hm0
      subst hA
      have hbw : b < wr.heap.size := Nat.lt_of_lt_of_le (HQ.out b hqb) HB.out.size
      have hxe : (x :: r).getD 0 (.mk 0 0 noS []) = x := rfl
      rw [hxe] at hcl hkx
      have hxt : x ∈ ts := HSR.out x (by simp)
      have HCA0 := HS.out x hxt A7 m7 c7 wr HB.out
      have HXT := Lib.hid hxt
      obtain ⟨kd, nd, tx, ks⟩ := x
      have HCA : Hid (Calls Tryz.prog f #[.agg #[.int .i64 kd, .int .i64 nd, .int .i64 0, .slice none 0 0, .string tx, .slice A7 m7 c7], .pointer (some ⟨g, 0, none⟩)] wr fun e w2 => e = .returned (.bool (p (.mk kd nd tx ks))) ∧ Below wr.heap.size wr w2) := HCA0
      have HCell : Hid (∀ w', Below wr.heap.size wr w' → w'.cell? ⟨b, off, none⟩ = some (.int .i64 kd) ∧ w'.cell? ⟨b, off + 1, none⟩ = some (.int .i64 nd) ∧ w'.cell? ⟨b, off + 2, none⟩ = some (.int .i64 0) ∧ w'.cell? ⟨b, off + 3, none⟩ = some (.slice none 0 0) ∧ w'.cell? ⟨b, off + 4, none⟩ = some (.string tx) ∧ w'.cell? ⟨b, off + 5, none⟩ = some (.slice A7 m7 c7)) := by
        intro w' hb
        have hh : ∀ j u, (treeC (.mk kd nd tx ks) A7 m7 c7)[j]? = some u → w'.cell? ⟨b, off + j, none⟩ = some u := fun j u hu => by
          have h1 := hcl j u hu
          rw [Nat.zero_mul, Nat.add_zero] at h1
          exact (hb.cell (p := ⟨b, off + j, none⟩) hbw).trans h1
        exact ⟨hh 0 _ rfl, hh 1 _ rfl, hh 2 _ rfl, hh 3 _ rfl, hh 4 _ rfl, hh 5 _ rfl⟩
      have HKX := Lib.hid hkx
      obtain ⟨c0, c1, c2', c3, c4, c5⟩ := HCell.out wr (Below.refl _ _)
      clear HCA0 hcl hkx hxe hbw hqb hxt
      cases hpx : p (.mk kd nd tx ks) with
      | true =>
        rw [hpx] at HCA
        have HN1 : Hid (TOT = (rs ++ [((TreeV.mk kd nd tx ks), A7, m7, c7)]).map (·.1) ++ PC r) := by
          show _ = _
          rw [HTR.out, HP1.out _ _ hpx, List.map_append, List.append_assoc]; rfl
        clear hpx
        rcases hf with rfl | rfl
        all_goals
          go_wp2_with (first | (refine HCA.out.mono ?_; rintro e w1 ⟨rfl, hb1⟩; have HB1 := Lib.hid hb1; obtain ⟨d0, d1, d2, d3, d4, d5⟩ := HCell.out w1 hb1; clear hb1) | (go_at_call 107; refine (row1_calls kd nd tx A7 m7 c7 _).mono ?_; rintro e w2 ⟨rfl, hb2⟩; have HB2 := Lib.hid (below_then HB1.out hb2); clear hb2; have HBA := Lib.hid (below_then HB2.out (below_alloc (Below.refl w2.heap.size w2) (.cells #[.int .i64 kd, .int .i64 nd, .int .i64 0, .slice none 0 0, .string tx, .slice A7 m7 c7] 75))); have HOA := Lib.hid (OwnT.below HO.out HBA.out); have HNB := Lib.hid (Blk.new w2 75 #[.int .i64 kd, .int .i64 nd, .int .i64 0, .slice none 0 0, .string tx, .slice A7 m7 c7])) | (at_builtin; refine wpList_append_any rfl _ _ 73 rfl w.heap.size 75 iT (.agg (treeC (.mk 0 0 noS []) none 0 0).toArray) 6 88 Tryz.underlying73 hiT hzT0 hzT1 hzT2 rfl (by decide) (.slice A2 j c2) j (rs.flatMap rowC) rfl HOA.out.own (some ⟨w2.heap.size, 0, none⟩) 1 1 (rowC ((TreeV.mk kd nd tx ks), A7, m7, c7)) rfl rfl (.inl ⟨w2.heap.size, 0, rfl, fun j u hj => by rw [Nat.zero_add, HNB.out.cell j]; simpa [rowC, treeC, TreeV.kind, TreeV.node, TreeV.text] using hj⟩) (treeC_one _ _ _ _) (by have := HJ.out; have := HMM.out; unfold maxLen; omega) (by have := HJ.out; have := HMM.out; omega) (below_then HB.out HBA.out).size ?_; intro A9 c9 w9 ho9 hg9 hat9; have HO9 := Lib.hid (OwnT.app (ls := [((TreeV.mk kd nd tx ks), A7, m7, c7)]) HOA.out rfl (fun r hr => by simp at hr; subst hr; exact HKX.out.below HBA.out (fun b hq => Nat.lt_of_lt_of_le (HQ.out b hq) HB.out.size)) (by simpa using ho9) hg9 hat9); have HB9 := Lib.hid ((below_then HB.out HBA.out).grown hg9 (below_then HB.out HBA.out).size (fun q hq => (HOA.out.own.lt q hq).1)); have HKA := Lib.hid (HKR.out.below HBA.out (fun b hq => Nat.lt_of_lt_of_le (HQ.out b hq) HB.out.size)); have HK9 := Lib.hid (show KidsAt w9 Q (TreeV.mk kd nd tx ks :: r) (some ⟨b, off, none⟩) m from HKA.out.mono fun b' hq => ⟨hq, hg9.block b' (Nat.lt_of_lt_of_le (HQ.out b' hq) (below_then HB.out HBA.out).size) (fun e => by have h1 := HQ.out b' hq; have h2 := own_baseT HOA.out.own b' e.symm; omega)⟩); clear ho9 hg9 hat9))
          go_round
          case rel =>
            refine ⟨r, _, _, _, j + 1, A9, c9, _, rfl, rfl, ?_, ?_, fun t ht => HSR.out t (by simp [ht]), HO9.out, HB9.out, HN1.out, ?_⟩
            · have h1 := HK9.out.rest (k := 1) hm0 hmc
              show KidsAt _ _ _ _ _
              simpa using h1
            · show _ ≤ _; omega
            · have := HJ.out; show _ ≤ _; omega
          case measure => simp only [lenVT]; omega
      | false =>
        rw [hpx] at HCA
        obtain ⟨K, hK⟩ : ∃ K, K = ((TreeV.mk kd nd tx ks :: r).takeWhile fun y => !p y).length := ⟨_, rfl⟩
        obtain ⟨htk, htd, htl⟩ := take_while_len (fun y => !p y) (TreeV.mk kd nd tx ks :: r)
        rw [← hK] at htk htd htl
        have hKm : K ≤ m := by rw [← hm1]; simpa using htl
        have hK0 : 0 < K := by rw [hK, List.takeWhile_cons]; simp [hpx]
        have hKc : K ≤ c' := Nat.le_trans hKm hmc
        have hc0 : ¬ c' = 0 := by omega
        have hK1k : K ≤ 1000 := by have := HJ.out; have := HMM.out; omega
        have hIX := idxR_at p (TreeV.mk kd nd tx ks :: r) 0
        rw [← hK, Nat.zero_add] at hIX
        have hP2 := HP2.out _ r hpx
        rw [← htk, ← htd] at hP2
        have HSF : Hid (∀ t ∈ (TreeV.mk kd nd tx ks :: r).take K, t ∈ ts) := fun t ht => HSR.out t (List.mem_of_mem_take ht)
        have HIR := Lib.hid (fun w' hb hk => HI.out (TreeV.mk kd nd tx ks :: r) (some ⟨b, off, none⟩) m c' w' (by have := HJ.out; have := HMM.out; omega) hb hk HSR.out)
        have hall : (TreeV.mk kd nd tx ks :: r).any p = false → K = m := fun ha => by
          have h1 := take_all p _ ha
          rw [hK, h1, List.length_cons, hm1]
        generalize idxR p (TreeV.mk kd nd tx ks :: r) 0 = ix at hIX HIR
        generalize (TreeV.mk kd nd tx ks :: r).any p = an at hIX hall
        obtain ⟨REST, hREST⟩ : ∃ REST, REST = (TreeV.mk kd nd tx ks :: r).drop K := ⟨_, rfl⟩
        rw [← hREST] at hP2
        have HREST := Lib.hid hREST
        obtain ⟨idl, hidl⟩ : ∃ idl, idl = IDL ((TreeV.mk kd nd tx ks :: r).take K) := ⟨_, rfl⟩
        have HLK : Hid (∀ w', Below w.heap.size w w' → KidsAt w' Q ((TreeV.mk kd nd tx ks :: r).take K) (some ⟨b, off, none⟩) K → Calls Tryz.prog 108 #[.agg #[.slice I.A I.n I.c, .slice I.Al I.nl I.cl], .slice (some ⟨b, off, none⟩) K c'] w' fun e w2 => e = .returned (.tuple #[.agg #[.int .i64 2, .int .i64 (-1), .int .i64 0, .slice none 0 0, .string ⟨#[]⟩, .slice (some ⟨b, off, none⟩) K c'], .bool (!idl)]) ∧ Below w'.heap.size w' w2) := fun w' hb hk => by
          rw [hidl]; exact HLN.out _ _ _ _ _ hK1k hb hk HSF.out
        rw [← hidl] at hP2
        have HP2' := Lib.hid hP2
        have HMK := Lib.hid htl
        have HRS : Hid (∀ t ∈ REST, t ∈ ts) := by rw [hREST]; exact fun t ht => HSR.out t (List.mem_of_mem_drop ht)
        clear hpx htk htd htl hK hP2 hREST hidl HI HLN HCell
        have hcase : (an = false ∧ ix = -1 ∧ K = m) ∨ (an = true ∧ ix = (K : Int)) := by
          cases an with
          | false => exact .inl ⟨rfl, hIX, hall rfl⟩
          | true => exact .inr ⟨rfl, hIX⟩
        clear hIX hall
        rcases hcase with ⟨rfl, rfl, hKe⟩ | ⟨rfl, rfl⟩
        · have hix : ((-1 : Int) < 0) := by omega
          obtain rfl : m = K := hKe.symm
          cases idl with
          | false =>
            rcases hf with rfl | rfl
            all_goals
              go_wp2_with (first | (refine HCA.out.mono ?_; rintro e w1 ⟨rfl, hb1⟩; have HB1 := Lib.hid (below_then HB.out hb1); have HK1 := Lib.hid (HKR.out.below hb1 (fun b hq => Nat.lt_of_lt_of_le (HQ.out b hq) HB.out.size)); have HO1 := Lib.hid (OwnT.below HO.out hb1); clear hb1) | (go_at_call 105; refine (HIR.out _ HB1.out HK1.out).mono ?_; rintro e w2 ⟨rfl, hb2⟩; have HB2 := Lib.hid (below_then HB1.out hb2); have HK2 := Lib.hid (HK1.out.below hb2 (fun b hq => Nat.lt_of_lt_of_le (HQ.out b hq) HB1.out.size)); have HO2 := Lib.hid (OwnT.below HO1.out hb2); clear hb2) | (go_at_call 108; refine (HLK.out _ HB2.out (HK2.out.front hKm)).mono ?_; rintro e w3 ⟨rfl, hb3⟩; have HB3 := Lib.hid (below_then HB2.out hb3); have HK3 := Lib.hid (HK2.out.below hb3 (fun b hq => Nat.lt_of_lt_of_le (HQ.out b hq) HB2.out.size)); have HO3 := Lib.hid (OwnT.below HO2.out hb3); clear hb3; have HBA := Lib.hid (below_alloc (below_alloc (Below.refl w3.heap.size w3) (.cells #[.int .i64 2, .int .i64 (-1), .int .i64 0, .slice none 0 0, .string ⟨#[]⟩, .slice (some ⟨b, off, none⟩) m c'] 75)) (.cells #[.int .i64 2, .int .i64 (-1), .int .i64 0, .slice none 0 0, .string ⟨#[]⟩, .slice (some ⟨b, off, none⟩) m c'] 75)); have HBA1 := Lib.hid (below_alloc (Below.refl w3.heap.size w3) (.cells #[.int .i64 2, .int .i64 (-1), .int .i64 0, .slice none 0 0, .string ⟨#[]⟩, .slice (some ⟨b, off, none⟩) m c'] 75)); have HBW := Lib.hid (below_then HB3.out HBA.out); have HOA := Lib.hid (OwnT.below HO3.out HBA.out); have hnb := Blk.new (w3.alloc (.cells #[.int .i64 2, .int .i64 (-1), .int .i64 0, .slice none 0 0, .string ⟨#[]⟩, .slice (some ⟨b, off, none⟩) m c'] 75)) 75 #[.int .i64 2, .int .i64 (-1), .int .i64 0, .slice none 0 0, .string ⟨#[]⟩, .slice (some ⟨b, off, none⟩) m c']; rw [alloc_size] at hnb; have HNB := Lib.hid hnb; clear hnb) | (at_builtin; refine wpList_append_any rfl _ _ 73 rfl w.heap.size 75 iT (.agg (treeC (.mk 0 0 noS []) none 0 0).toArray) 6 88 Tryz.underlying73 hiT hzT0 hzT1 hzT2 rfl (by decide) (.slice A2 j c2) j (rs.flatMap rowC) rfl HOA.out.own (some ⟨w3.heap.size + 1, 0, none⟩) 1 1 (rowC (TreeV.mk 2 (-1) ⟨#[]⟩ ((TreeV.mk kd nd tx ks :: r).take m), some ⟨b, off, none⟩, m, c')) rfl rfl (.inl ⟨w3.heap.size + 1, 0, rfl, fun j u hj => by rw [Nat.zero_add, HNB.out.cell j]; simpa [rowC, treeC, TreeV.kind, TreeV.node, TreeV.text] using hj⟩) (treeC_one _ _ _ _) (by have := HJ.out; have := HMM.out; unfold maxLen; omega) (by have := HJ.out; have := HMM.out; omega) HBW.out.size ?_; intro A9 c9 w9 ho9 hg9 hat9; have HO9 := Lib.hid (OwnT.app (ls := [(TreeV.mk 2 (-1) ⟨#[]⟩ ((TreeV.mk kd nd tx ks :: r).take m), some ⟨b, off, none⟩, m, c')]) HOA.out rfl (fun r hr => by simp at hr; subst hr; exact (HK3.out.front hKm).below HBA.out (fun b hq => Nat.lt_of_lt_of_le (HQ.out b hq) HB3.out.size)) (by simpa using ho9) hg9 hat9); have HB9 := Lib.hid (HBW.out.grown hg9 HBW.out.size (fun q hq => (HOA.out.own.lt q hq).1)); have HKA := Lib.hid (HK3.out.below HBA.out (fun b hq => Nat.lt_of_lt_of_le (HQ.out b hq) HB3.out.size)); have HK9 := Lib.hid (show KidsAt w9 Q (TreeV.mk kd nd tx ks :: r) (some ⟨b, off, none⟩) m from HKA.out.mono fun b' hq => ⟨hq, hg9.block b' (Nat.lt_of_lt_of_le (HQ.out b' hq) HBW.out.size) (fun e => by have h1 := HQ.out b' hq; have h2 := own_baseT HOA.out.own b' e.symm; omega)⟩); clear ho9 hg9 hat9))
              go_round
              case rel =>
                refine ⟨REST, _, _, _, j + 1, A9, c9, _, rfl, rfl, ?_, ?_, HRS.out, HO9.out, HB9.out, ?_, ?_⟩
                · have h1 := HK9.out.rest (k := m) hKm hmc
                  rw [← HREST.out] at h1
                  show KidsAt _ _ _ _ _
                  simpa using h1
                · show _ ≤ _; omega
                · show _ = _
                  rw [HTR.out, HP2'.out, List.map_append, List.append_assoc]; rfl
                · have := HJ.out; show _ ≤ _; omega
              case measure => simp only [lenVT]; omega
          | true =>
            rcases hf with rfl | rfl
            all_goals
              go_wp2_with (first | (refine HCA.out.mono ?_; rintro e w1 ⟨rfl, hb1⟩; have HB1 := Lib.hid (below_then HB.out hb1); have HK1 := Lib.hid (HKR.out.below hb1 (fun b hq => Nat.lt_of_lt_of_le (HQ.out b hq) HB.out.size)); have HO1 := Lib.hid (OwnT.below HO.out hb1); clear hb1) | (go_at_call 105; refine (HIR.out _ HB1.out HK1.out).mono ?_; rintro e w2 ⟨rfl, hb2⟩; have HB2 := Lib.hid (below_then HB1.out hb2); have HK2 := Lib.hid (HK1.out.below hb2 (fun b hq => Nat.lt_of_lt_of_le (HQ.out b hq) HB1.out.size)); have HO2 := Lib.hid (OwnT.below HO1.out hb2); clear hb2) | (go_at_call 108; refine (HLK.out _ HB2.out (HK2.out.front hKm)).mono ?_; rintro e w3 ⟨rfl, hb3⟩; have HB3 := Lib.hid (below_then HB2.out hb3); have HK3 := Lib.hid (HK2.out.below hb3 (fun b hq => Nat.lt_of_lt_of_le (HQ.out b hq) HB2.out.size)); have HO3 := Lib.hid (OwnT.below HO2.out hb3); clear hb3; have HBA := Lib.hid (below_alloc (below_alloc (Below.refl w3.heap.size w3) (.cells #[.int .i64 2, .int .i64 (-1), .int .i64 0, .slice none 0 0, .string ⟨#[]⟩, .slice (some ⟨b, off, none⟩) m c'] 75)) (.cells #[.int .i64 2, .int .i64 (-1), .int .i64 0, .slice none 0 0, .string ⟨#[]⟩, .slice (some ⟨b, off, none⟩) m c'] 75)); have HBA1 := Lib.hid (below_alloc (Below.refl w3.heap.size w3) (.cells #[.int .i64 2, .int .i64 (-1), .int .i64 0, .slice none 0 0, .string ⟨#[]⟩, .slice (some ⟨b, off, none⟩) m c'] 75)); have HBW := Lib.hid (below_then HB3.out HBA.out); have HOA := Lib.hid (OwnT.below HO3.out HBA.out); have hnb := Blk.new (w3.alloc (.cells #[.int .i64 2, .int .i64 (-1), .int .i64 0, .slice none 0 0, .string ⟨#[]⟩, .slice (some ⟨b, off, none⟩) m c'] 75)) 75 #[.int .i64 2, .int .i64 (-1), .int .i64 0, .slice none 0 0, .string ⟨#[]⟩, .slice (some ⟨b, off, none⟩) m c']; rw [alloc_size] at hnb; have HNB := Lib.hid hnb; clear hnb))
              go_round
              case rel =>
                refine ⟨REST, _, _, _, j, A2, c2, rs, rfl, rfl, ?_, ?_, HRS.out, OwnT.below HO3.out HBA1.out, below_then HB3.out HBA1.out, ?_, ?_⟩
                · have h1 := (HK3.out.below HBA1.out (fun b hq => Nat.lt_of_lt_of_le (HQ.out b hq) HB3.out.size)).rest (k := m) hKm hmc
                  rw [← HREST.out] at h1
                  show KidsAt _ _ _ _ _
                  simpa using h1
                · show _ ≤ _; omega
                · show _ = _
                  rw [HTR.out, HP2'.out]; rfl
                · have := HJ.out; show _ ≤ _; omega
              case measure => simp only [lenVT]; omega
        · have hix : ¬ ((K : Int) < 0) := by omega
          cases idl with
          | false =>
            rcases hf with rfl | rfl
            all_goals
              go_wp2_with (first | (refine HCA.out.mono ?_; rintro e w1 ⟨rfl, hb1⟩; have HB1 := Lib.hid (below_then HB.out hb1); have HK1 := Lib.hid (HKR.out.below hb1 (fun b hq => Nat.lt_of_lt_of_le (HQ.out b hq) HB.out.size)); have HO1 := Lib.hid (OwnT.below HO.out hb1); clear hb1) | (go_at_call 105; refine (HIR.out _ HB1.out HK1.out).mono ?_; rintro e w2 ⟨rfl, hb2⟩; have HB2 := Lib.hid (below_then HB1.out hb2); have HK2 := Lib.hid (HK1.out.below hb2 (fun b hq => Nat.lt_of_lt_of_le (HQ.out b hq) HB1.out.size)); have HO2 := Lib.hid (OwnT.below HO1.out hb2); clear hb2) | (go_at_call 108; refine (HLK.out _ HB2.out (HK2.out.front hKm)).mono ?_; rintro e w3 ⟨rfl, hb3⟩; have HB3 := Lib.hid (below_then HB2.out hb3); have HK3 := Lib.hid (HK2.out.below hb3 (fun b hq => Nat.lt_of_lt_of_le (HQ.out b hq) HB2.out.size)); have HO3 := Lib.hid (OwnT.below HO2.out hb3); clear hb3; have HBA := Lib.hid (below_alloc (below_alloc (Below.refl w3.heap.size w3) (.cells #[.int .i64 2, .int .i64 (-1), .int .i64 0, .slice none 0 0, .string ⟨#[]⟩, .slice (some ⟨b, off, none⟩) K c'] 75)) (.cells #[.int .i64 2, .int .i64 (-1), .int .i64 0, .slice none 0 0, .string ⟨#[]⟩, .slice (some ⟨b, off, none⟩) K c'] 75)); have HBA1 := Lib.hid (below_alloc (Below.refl w3.heap.size w3) (.cells #[.int .i64 2, .int .i64 (-1), .int .i64 0, .slice none 0 0, .string ⟨#[]⟩, .slice (some ⟨b, off, none⟩) K c'] 75)); have HBW := Lib.hid (below_then HB3.out HBA.out); have HOA := Lib.hid (OwnT.below HO3.out HBA.out); have hnb := Blk.new (w3.alloc (.cells #[.int .i64 2, .int .i64 (-1), .int .i64 0, .slice none 0 0, .string ⟨#[]⟩, .slice (some ⟨b, off, none⟩) K c'] 75)) 75 #[.int .i64 2, .int .i64 (-1), .int .i64 0, .slice none 0 0, .string ⟨#[]⟩, .slice (some ⟨b, off, none⟩) K c']; rw [alloc_size] at hnb; have HNB := Lib.hid hnb; clear hnb) | (at_builtin; refine wpList_append_any rfl _ _ 73 rfl w.heap.size 75 iT (.agg (treeC (.mk 0 0 noS []) none 0 0).toArray) 6 88 Tryz.underlying73 hiT hzT0 hzT1 hzT2 rfl (by decide) (.slice A2 j c2) j (rs.flatMap rowC) rfl HOA.out.own (some ⟨w3.heap.size + 1, 0, none⟩) 1 1 (rowC (TreeV.mk 2 (-1) ⟨#[]⟩ ((TreeV.mk kd nd tx ks :: r).take K), some ⟨b, off, none⟩, K, c')) rfl rfl (.inl ⟨w3.heap.size + 1, 0, rfl, fun j u hj => by rw [Nat.zero_add, HNB.out.cell j]; simpa [rowC, treeC, TreeV.kind, TreeV.node, TreeV.text] using hj⟩) (treeC_one _ _ _ _) (by have := HJ.out; have := HMM.out; unfold maxLen; omega) (by have := HJ.out; have := HMM.out; omega) HBW.out.size ?_; intro A9 c9 w9 ho9 hg9 hat9; have HO9 := Lib.hid (OwnT.app (ls := [(TreeV.mk 2 (-1) ⟨#[]⟩ ((TreeV.mk kd nd tx ks :: r).take K), some ⟨b, off, none⟩, K, c')]) HOA.out rfl (fun r hr => by simp at hr; subst hr; exact (HK3.out.front hKm).below HBA.out (fun b hq => Nat.lt_of_lt_of_le (HQ.out b hq) HB3.out.size)) (by simpa using ho9) hg9 hat9); have HB9 := Lib.hid (HBW.out.grown hg9 HBW.out.size (fun q hq => (HOA.out.own.lt q hq).1)); have HKA := Lib.hid (HK3.out.below HBA.out (fun b hq => Nat.lt_of_lt_of_le (HQ.out b hq) HB3.out.size)); have HK9 := Lib.hid (show KidsAt w9 Q (TreeV.mk kd nd tx ks :: r) (some ⟨b, off, none⟩) m from HKA.out.mono fun b' hq => ⟨hq, hg9.block b' (Nat.lt_of_lt_of_le (HQ.out b' hq) HBW.out.size) (fun e => by have h1 := HQ.out b' hq; have h2 := own_baseT HOA.out.own b' e.symm; omega)⟩); clear ho9 hg9 hat9))
              go_round
              case rel =>
                refine ⟨REST, _, _, _, j + 1, A9, c9, _, rfl, rfl, ?_, ?_, HRS.out, HO9.out, HB9.out, ?_, ?_⟩
                · have h1 := HK9.out.rest (k := K) hKm hmc
                  rw [← HREST.out] at h1
                  show KidsAt _ _ _ _ _
                  simpa using h1
                · show _ ≤ _; omega
                · show _ = _
                  rw [HTR.out, HP2'.out, List.map_append, List.append_assoc]; rfl
                · have := HJ.out; show _ ≤ _; omega
              case measure => simp only [lenVT]; omega
          | true =>
            rcases hf with rfl | rfl
            all_goals
              go_wp2_with (first | (refine HCA.out.mono ?_; rintro e w1 ⟨rfl, hb1⟩; have HB1 := Lib.hid (below_then HB.out hb1); have HK1 := Lib.hid (HKR.out.below hb1 (fun b hq => Nat.lt_of_lt_of_le (HQ.out b hq) HB.out.size)); have HO1 := Lib.hid (OwnT.below HO.out hb1); clear hb1) | (go_at_call 105; refine (HIR.out _ HB1.out HK1.out).mono ?_; rintro e w2 ⟨rfl, hb2⟩; have HB2 := Lib.hid (below_then HB1.out hb2); have HK2 := Lib.hid (HK1.out.below hb2 (fun b hq => Nat.lt_of_lt_of_le (HQ.out b hq) HB1.out.size)); have HO2 := Lib.hid (OwnT.below HO1.out hb2); clear hb2) | (go_at_call 108; refine (HLK.out _ HB2.out (HK2.out.front hKm)).mono ?_; rintro e w3 ⟨rfl, hb3⟩; have HB3 := Lib.hid (below_then HB2.out hb3); have HK3 := Lib.hid (HK2.out.below hb3 (fun b hq => Nat.lt_of_lt_of_le (HQ.out b hq) HB2.out.size)); have HO3 := Lib.hid (OwnT.below HO2.out hb3); clear hb3; have HBA := Lib.hid (below_alloc (below_alloc (Below.refl w3.heap.size w3) (.cells #[.int .i64 2, .int .i64 (-1), .int .i64 0, .slice none 0 0, .string ⟨#[]⟩, .slice (some ⟨b, off, none⟩) K c'] 75)) (.cells #[.int .i64 2, .int .i64 (-1), .int .i64 0, .slice none 0 0, .string ⟨#[]⟩, .slice (some ⟨b, off, none⟩) K c'] 75)); have HBA1 := Lib.hid (below_alloc (Below.refl w3.heap.size w3) (.cells #[.int .i64 2, .int .i64 (-1), .int .i64 0, .slice none 0 0, .string ⟨#[]⟩, .slice (some ⟨b, off, none⟩) K c'] 75)); have HBW := Lib.hid (below_then HB3.out HBA.out); have HOA := Lib.hid (OwnT.below HO3.out HBA.out); have hnb := Blk.new (w3.alloc (.cells #[.int .i64 2, .int .i64 (-1), .int .i64 0, .slice none 0 0, .string ⟨#[]⟩, .slice (some ⟨b, off, none⟩) K c'] 75)) 75 #[.int .i64 2, .int .i64 (-1), .int .i64 0, .slice none 0 0, .string ⟨#[]⟩, .slice (some ⟨b, off, none⟩) K c']; rw [alloc_size] at hnb; have HNB := Lib.hid hnb; clear hnb))
              go_round
              case rel =>
                refine ⟨REST, _, _, _, j, A2, c2, rs, rfl, rfl, ?_, ?_, HRS.out, OwnT.below HO3.out HBA1.out, below_then HB3.out HBA1.out, ?_, ?_⟩
                · have h1 := (HK3.out.below HBA1.out (fun b hq => Nat.lt_of_lt_of_le (HQ.out b hq) HB3.out.size)).rest (k := K) hKm hmc
                  rw [← HREST.out] at h1
                  show KidsAt _ _ _ _ _
                  simpa using h1
                · show _ ≤ _; omega
                · show _ = _
                  rw [HTR.out, HP2'.out]; rfl
                · have := HJ.out; show _ ≤ _; omega
              case measure => simp only [lenVT]; omega
end Go.Proofs.YtkmmlcnoeeaekaaGreatDoor
