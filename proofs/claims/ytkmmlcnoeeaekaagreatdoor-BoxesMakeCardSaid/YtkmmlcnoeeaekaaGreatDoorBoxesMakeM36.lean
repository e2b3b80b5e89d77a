/- Several texts in one: BxKj, BxRi. -/
import Derived.Test.YtkmmlcnoeeaekaaGreatDoorBoxesMakeM35
/- Contract of the reference's kind: each is asked once, and kept. -/
namespace Go.Proofs.YtkmmlcnoeeaekaaGreatDoor
open Go.RowKit Go.Maps
set_option linter.unusedVariables false
set_option linter.unusedSimpArgs false

theorem underKinds : Tryz.prog.underlying 82 = some (.map 3 3) := Tryz.underlying82
theorem kindsLaw : Keyed Tryz.prog 3 := int_keyed Tryz.underlying3
theorem kindsZero (w : World) : (zeroValue 3).run Tryz.prog w = .ok (.int .i64 0) w := by kernel_rfl
theorem keyN {n : Nat} (h : n ≤ 200) : keyOf Tryz.prog 3 (.int .i64 (n : Int)) = some (.int .i64 (n : Int)) := Maps.keyOf_int_mk Tryz.underlying3 (WalkArith.wf_i64 (n := (n : Int)) (by omega))
theorem wp_mapUpdate_ownB {P : Program} {o : Oper} {a : Act} {w : World} {Kc : Act → World → Prop} {Q : Exit → Act → World → Prop} (m x v : Operand) {t k e : TypeId} (hop : o.op = Op.mapUpdate t m x v) (K : Keyed P k) (ht : P.underlying t = some (.map k e)) {R : Value → Option (DataW Unit × List MemPlace)} {b n : Nat} {D : DataW Unit}
    (hm : a.eval m = .map (some b)) (hown : w.ownsMap P k R b n D) (hn : n < maxLen) {key val : Value} {kl : Lit} (hx : a.eval x = key) (hv : a.eval v = val) (hkey : keyOf P k key = some kl) {d : DataW Unit} {ps : List MemPlace} (hval : R val = some (d, ps))
    (hK : ∀ w', w'.ownsMap P k R b (n + 1) (D.put kl d) → w.grownBy w' (some b) → Kc (a.put o.dst undef) w') : o.wp P a w Kc Q := by
  obtain ⟨w', hrun, r1, r2⟩ := hown.update K ht hn hkey hval
  unfold Oper.wp
  simp [execOp, hop, hm, hx, hv, hrun, Result.andThen]
  exact hK w' r1 r2
theorem kindN_wf (X : DocB) (n : Nat) : (Lit.int .i64 (X.kindN n)).wf = true ∧ X.kindN n ≠ 0 := by
  rw [X.kind_eq]
  repeat' split
  all_goals exact ⟨by decide, by decide⟩
theorem RBox.known {X : DocB} {I : BxV} {base gM bK n c : Nat} {A : Option Addr} {rs : List RowB} {D : DataW Unit} {O : Nat → Prop} {w w2 : World} (h : RBox X I base gM bK A n c rs D O w) {j : Nat} (hj : j < 300)
    (hm : w2.ownsMap (H := Unit) Tryz.prog 3 (plainElem Tryz.prog 3) bK 301 (D.put (.int .i64 (j : Int)) (.lit (.int .i64 (X.kindN j))))) (hg : w.grownBy w2 (some bK)) :
    RBox X I base gM bK A n c rs (D.put (.int .i64 (j : Int)) (.lit (.int .i64 (X.kindN j)))) O w2 ∧ TurnW O w O w2 := by
  have hb : Below base w w2 := (Below.refl base w).grown hg h.bw (fun q hq => by injection hq with hq; subst hq; exact (h.rng _ h.ownK).1)
  have hk := h.kinds.put (j := j) hj
  refine ⟨{ h with ok := h.ok.below hb (Nat.le_refl _), bw := Nat.le_trans h.bw hg.size, blk := blk_grown h.blk hg (fun e => by injection e with e; exact h.bK_ne e), out := h.out.keep fun b hb' => hg.block b (h.out.lt hb').2 (fun e => ?_), map := map_fit hm hk.size, kinds := hk, rng := fun b ho => ⟨(h.rng b ho).1, Nat.lt_of_lt_of_le (h.rng b ho).2 hg.size⟩ }, hg.os, hg.tape, hg.output, hg.size, fun b hlt hno => hg.block b hlt (fun e => hno (by injection e with e; rw [e]; exact h.ownK)), fun b ho => .inl ho⟩
  injection e with e
  subst e
  rcases hb' with h1 | ⟨r, hr, h1⟩
  · exact map_neO h.map h.out.own h1
  · exact map_neO h.map (h.out.kids r hr) h1
def FindSays (X : DocB) (I : BxV) (base gM bK n : Nat) : Prop := ∀ (O : Nat → Prop) (S : List PBox) (w : World), RSB X I base gM bK O w S → Calls Tryz.prog 165 #[.pointer (some ⟨gM, 0, none⟩), .int .i64 (n : Nat)] w (Tells X I base gM bK (.int .i64 (X.kindN n)) O S w)
set_option maxRecDepth 100000 in
set_option maxHeartbeats 4000000 in
theorem kind_step (X : DocB) (I : BxV) (base gM bK n : Nat) (hn : n ≤ 200) (HF : FindSays X I base gM bK n) : KindSays X I base gM bK n := by
  intro O S w h
  obtain ⟨A, nn, c, rs, D, hR, hS⟩ := h
  have hkey := keyN hn
  obtain ⟨cc, hlook, hat, _⟩ := hR.map.lookup_int kindsLaw underKinds Tryz.underlying3 (kindsZero w) hkey
  have m3 : w.cell? ⟨gM, 3, none⟩ = some (.map (some bK)) := hR.blk.cell 3
  have hor : cc = 0 ∨ cc = X.kindN n := by
    rcases hR.kinds.said n with h1 | h1
    · rw [h1] at hat
      injection hat with hat
      injection hat with _ hat
      exact .inl hat.symm
    · rw [h1] at hat
      injection hat with hat
      injection hat with _ hat
      exact .inr hat.symm
  have HR := Lib.hid (show RSB X I base gM bK O w S from ⟨A, nn, c, rs, D, hR, hS⟩)
  have HFF := Lib.hid (fun w' (h' : RSB X I base gM bK O w' S) => HF O S w' h')
  have HKW := Lib.hid (kindN_wf X n)
  unfold Tells at HFF ⊢
  clear hat HF hS
  by_cases hz : cc = 0
  · subst hz
    have HKN : Hid (RSB X I base gM bK O w S) := HR.out
    clear hor
    go_enter Tryz.func115, Tryz.ntmps115
    go_upto_region 2 with fail
    have hS0 : (fun w' : World => w'.cell? ⟨gM, 3, none⟩ = some (.map (some bK))) (World.drew w) := m3
    replace HR := Lib.hid HR.out.drew
    have HT : Hid (TurnW O w O (World.drew w)) := (TurnW.refl O w).drew
    clear m3 hlook hR
    refine wp_region_noPanic ?_
    refine region_M (S := fun w' => w'.cell? ⟨gM, 3, none⟩ = some (.map (some bK))) (T := [8]) (by kernel_rfl) ?_
    refine anyM_free (i := 0) (oi := { dst := some 12, op := _, type := _, pos := _, after := _, guard := _ }) (v := ?_) rfl (by kernel_rfl) (fun _ _ _ h => h) (Or.inl ⟨by kernel_rfl, ?_⟩) (fun _ => hS0) ?_
    rotate_left 1
    · (intro w hSw; (try dsimp only at hSw); go_simp; try with_reducible rfl)
    try simp only [Act.put, Array.toArray_toList, List.setIfInBounds_toArray, List.set_cons_zero, List.set_cons_succ]
    refine anyM_free (i := 1) (oi := { dst := some 13, op := _, type := _, pos := _, after := _, guard := _ }) (v := ?_) rfl (by kernel_rfl) (fun _ _ _ h => h) (Or.inl ⟨by kernel_rfl, ?_⟩) (fun _ => hS0) ?_
    rotate_left 1
    · (intro w hSw; (try dsimp only at hSw); go_simp; try with_reducible rfl)
    try simp only [Act.put, Array.toArray_toList, List.setIfInBounds_toArray, List.set_cons_zero, List.set_cons_succ]
    refine anyM_free (i := 2) (oi := { dst := some 14, op := _, type := _, pos := _, after := _, guard := _ }) (v := ?_) rfl (by kernel_rfl) (fun _ _ _ h => h) (Or.inl ⟨by kernel_rfl, ?_⟩) (fun _ => hS0) ?_
    rotate_left 1
    · (intro w hSw; (try dsimp only at hSw); go_simp; try with_reducible rfl)
    try simp only [Act.put, Array.toArray_toList, List.setIfInBounds_toArray, List.set_cons_zero, List.set_cons_succ]
    refine anyM_take (i := 3) (oi := { dst := some 15, op := _, type := _, pos := _, after := _, guard := _ }) (v := ?_) rfl (by kernel_rfl) (fun _ _ _ h => h) (Or.inl ⟨by kernel_rfl, ?_⟩) hS0 ?_
    rotate_left 1
    · (intro w hSw; (try dsimp only at hSw); go_simp; try with_reducible rfl)
    try simp only [Act.put, Array.toArray_toList, List.setIfInBounds_toArray, List.set_cons_zero, List.set_cons_succ]
    refine anyM_free (i := 4) (oi := { dst := some 16, op := _, type := _, pos := _, after := _, guard := _ }) (v := ?_) rfl (by kernel_rfl) (fun _ _ _ h => h) (Or.inl ⟨by kernel_rfl, ?_⟩) (fun _ => hS0) ?_
    rotate_left 1
    · (intro w hSw; (try dsimp only at hSw); go_simp; try with_reducible rfl)
    try simp only [Act.put, Array.toArray_toList, List.setIfInBounds_toArray, List.set_cons_zero, List.set_cons_succ]
    refine anyM_free (i := 5) (oi := { dst := some 17, op := _, type := _, pos := _, after := _, guard := _ }) (v := ?_) rfl (by kernel_rfl) (fun _ _ _ h => h) (Or.inl ⟨by kernel_rfl, ?_⟩) (fun _ => hS0) ?_
    rotate_left 1
    · (intro w hSw; (try dsimp only at hSw); go_simp; try with_reducible rfl)
    try simp only [Act.put, Array.toArray_toList, List.setIfInBounds_toArray, List.set_cons_zero, List.set_cons_succ]
    refine anyM_free (i := 6) (oi := { dst := some 18, op := _, type := _, pos := _, after := _, guard := _ }) (v := ?_) rfl (by kernel_rfl) (fun _ _ _ h => h) (Or.inl ⟨by kernel_rfl, ?_⟩) (fun _ => hS0) ?_
    rotate_left 1
    · (intro w hSw; (try dsimp only at hSw); go_simp; try with_reducible rfl)
    try simp only [Act.put, Array.toArray_toList, List.setIfInBounds_toArray, List.set_cons_zero, List.set_cons_succ]
    refine anyM_one (i := 7) (by kernel_rfl) rfl (fun K hK => ?_)
    go_simp
    refine Calls.mono (HFF.out _ HR.out) ?_
    rintro e wf ⟨rfl, hrf, htf⟩
    replace HR := Lib.hid hrf
    replace HT := Lib.hid (HT.out.trans htf)
    obtain ⟨A5, n5, c5, rs5, D5, hR5, hS5⟩ := hrf
    have HR5 := Lib.hid hR5
    have HS5 := Lib.hid hS5
    clear htf hR5 hS5
    have hS0 : (fun w' : World => w'.cell? ⟨gM, 3, none⟩ = some (.map (some bK))) wf := HR5.out.blk.cell 3
    refine hK.out _ _ (fun _ => hS0) ?_
    clear hK K
    try simp only [Act.put, Array.toArray_toList, List.setIfInBounds_toArray, List.set_cons_zero, List.set_cons_succ]
    refine anyM_one (i := 8) (by kernel_rfl) rfl (fun K hK => ?_)
    rw [if_pos (by kernel_rfl)]
    refine wp_mapUpdate_ownB _ _ _ rfl kindsLaw underKinds rfl HR5.out.map (by unfold maxLen; omega) rfl rfl hkey (plainElem_int Tryz.underlying3 HKW.out.1) ?_
    intro w8 hm8 hg8
    have HK8 := Lib.hid (HR5.out.known (j := n) (by omega) hm8 hg8)
    replace HT := Lib.hid (HT.out.trans HK8.out.2)
    clear hm8 hg8
    change K (Act.put _ none undef) _
    refine hK.out _ _ (fun h => late_no h (by kernel_rfl)) ?_
    clear hK K
    try simp only [Act.put, Array.toArray_toList, List.setIfInBounds_toArray, List.set_cons_zero, List.set_cons_succ]
    refine anyM_done (by kernel_rfl) ?_ _
    refine NoPanic.normal ?_
    obtain ⟨c2, hl2, ha2, _⟩ := HK8.out.1.map.lookup_int kindsLaw underKinds Tryz.underlying3 (kindsZero w8) hkey
    have m8 : w8.cell? ⟨gM, 3, none⟩ = some (.map (some bK)) := HK8.out.1.blk.cell 3
    have hc2 : c2 = X.kindN n := by
      rw [Maps.atKey_put_same HR5.out.kinds.tidy.isMap (by trivial)] at ha2
      injection ha2 with ha2
      injection ha2 with _ ha2
      exact ha2.symm
    have HE2 := Lib.hid hc2
    clear hc2 ha2 hS0
    go_wp2_with fail
    go_ret
    exact ⟨by rw [HE2.out]; rfl, ⟨A5, n5, c5, rs5, _, HK8.out.1, HS5.out⟩, HT.out⟩
  · have hck : cc = X.kindN n := hor.resolve_left hz
    have hz' : (cc == 0) = false := by simp [hz]
    clear hor
    have HE := Lib.hid hck
    clear hck
    go_enter Tryz.func115, Tryz.ntmps115
    clear hz
    go_wp2_with fail
    go_ret
    exact ⟨by rw [HE.out]; rfl, HR.out, TurnW.refl _ _⟩
theorem kind_calls (I : BxV) (hc : checkE I.ns = 0) (base gM bK : Nat) (hI : I.ns.length = I.n) : ∀ (r n : Nat), rankN I.ns n < r → n < I.n → KindSays (docB I (docOk hc)) I base gM bK n
  | 0, _, h, _ => by omega
  | r + 1, n, h, hn => by
    have hl := (docOk hc).len
    refine kind_step _ I base gM bK n (by omega) fun O S w hR => rfind_calls I hc base gM bK n O S w hR hn fun k hk => ?_
    have hkl : k < I.n := by have := content_lt I (docOk hc) hk; omega
    have hrk : rankN I.ns k < rankN I.ns n := DocB.content_deep (docB I (docOk hc)) hk
    exact rblocky_calls I hc base gM bK k 1 hkl (kind_calls I hc base gM bK hI r k (by omega) hkl)
theorem kind_says (I : BxV) (hc : checkE I.ns = 0) (base gM bK : Nat) (hI : I.ns.length = I.n) {n : Nat} (hn : n < I.n) : KindSays (docB I (docOk hc)) I base gM bK n := kind_calls I hc base gM bK hI _ n (Nat.lt_succ_self _) hn
theorem blocky_says (I : BxV) (hc : checkE I.ns = 0) (base gM bK : Nat) (hI : I.ns.length = I.n) {n : Nat} (o : Int) (hn : n < I.n) : BlockySays (docB I (docOk hc)) I base gM bK n o := rblocky_calls I hc base gM bK n o hn (kind_says I hc base gM bK hI hn)
end Go.Proofs.YtkmmlcnoeeaekaaGreatDoor
/- The boxes by their kinds; contract of the reference's idle. -/
namespace Go.Proofs.YtkmmlcnoeeaekaaGreatDoor
open Go.RowKit Go.Maps
set_option linter.unusedVariables false
set_option linter.unusedSimpArgs false

theorem DocB.box_cases (X : DocB) (n : Nat) :
    (X.kindN n = 4 ∧ X.box n = .mk 4 n (if X.nk n = 3 then X.tx n else nlS) []) ∨ (X.kindN n = 3 ∧ X.box n = .mk 3 n noS ((X.content n).map X.box)) ∨
    (X.kindN n = 5 ∧ X.box n = .mk 5 n noS [X.containerT (-1) ((X.content n).map X.box)]) ∨ (X.kindN n = 6 ∧ X.box n = .mk 6 n noS (X.rowT X.flexAlone ((X.content n).map X.box))) ∨
    (X.kindN n = 7 ∧ X.box n = .mk 7 n noS (X.rowsT X.box (X.content n))) ∨ ((X.kindN n = 1 ∨ X.kindN n = 2) ∧ X.box n = X.containerT n ((X.content n).map X.box)) := by
  unfold DocB.kindN
  have h := X.box_eq n
  unfold DocB.boxB at h
  split at h
  · rename_i h1
    left
    rw [h, if_pos h1]
    exact ⟨rfl, rfl⟩
  · rename_i h1
    split at h
    · left
      rw [h, if_neg h1]
      exact ⟨rfl, rfl⟩
    · split at h
      · right; left
        rw [h]
        exact ⟨rfl, rfl⟩
      · split at h
        · right; right; left
          rw [h]
          exact ⟨rfl, rfl⟩
        · split at h
          · right; right; right; left
            rw [h]
            exact ⟨rfl, rfl⟩
          · split at h
            · right; right; right; right; left
              rw [h]
              exact ⟨rfl, rfl⟩
            · right; right; right; right; right
              refine ⟨?_, h⟩
              rw [h]
              unfold DocB.containerT
              split
              · exact .inl rfl
              · exact .inr rfl
theorem isB_nat (c : UInt8) : isB c = (c.toNat == 32 || c.toNat == 9 || c.toNat == 10 || c.toNat == 12 || c.toNat == 13) := by
  unfold isB
  have h : ∀ k : UInt8, (c == k) = (c.toNat == k.toNat) := fun k => by
    rw [Bool.eq_iff_iff]
    simp [← UInt8.toNat_inj]
  rw [h, h, h, h, h]
  rfl
theorem isB_turn (m : Int) (c : UInt8) : isB (turnB m c) = isB c := by
  unfold turnB
  split
  · split
    · rename_i h
      have h1 : 97 ≤ c.toNat := h.1
      have h2 : c.toNat ≤ 122 := h.2
      have h3 : (c - 32).toNat = c.toNat - 32 := by
        rw [UInt8.toNat_sub_of_le _ _ (by show (32 : Nat) ≤ c.toNat; omega)]
        rfl
      rw [isB_nat, isB_nat, h3, Bool.eq_iff_iff]
      simp
      omega
    · rfl
  · split
    · split
      · rename_i h
        have h1 : 65 ≤ c.toNat := h.1
        have h2 : c.toNat ≤ 90 := h.2
        have h3 : (c + 32).toNat = c.toNat + 32 := by
          rw [UInt8.toNat_add]
          show (c.toNat + 32) % 256 = _
          omega
        rw [isB_nat, isB_nat, h3, Bool.eq_iff_iff]
        simp
        omega
      · rfl
    · rfl
theorem idle_turn (m : Int) (s : ByteArray) : idleB (turnS m s).data.toList = idleB s.data.toList := by
  unfold turnS idleB
  show (List.map (turnB m) s.data.toList).all isB = _
  rw [List.all_map]
  congr 1
  funext c
  exact isB_turn m c
theorem idle_box (I : BxV) (h : DocOk I.ns) (n : Nat) : (docB I h).idle1 ((docB I h).box n) = ((docB I h).kindN n == 4 && !((nd I.ns n).kind == 3 && !idleB (nd I.ns n).text.data.toList) && !(stN (I.sty n) 41 == 1 || stN (I.sty n) 41 == 3)) := by
  have hk : (docB I h).kindN n = ((docB I h).box n).kind := rfl
  unfold DocB.idle1
  rw [DocB.box_node, ← hk]
  have hkeep : (docB I h).keep ((n : Int)).toNat = (stN (I.sty n) 41 == 1 || stN (I.sty n) 41 == 3) := rfl
  rw [hkeep]
  rcases (docB I h).box_cases n with ⟨h1, h2⟩ | ⟨h1, h2⟩ | ⟨h1, h2⟩ | ⟨h1, h2⟩ | ⟨h1, h2⟩ | ⟨h1, h2⟩
  · rw [h1, h2]
    have ht : (docB I h).idleS (TreeV.mk 4 n (if (docB I h).nk n = 3 then (docB I h).tx n else nlS) []).text = !((nd I.ns n).kind == 3 && !idleB (nd I.ns n).text.data.toList) := by
      have hnk : (docB I h).nk n = (nd I.ns n).kind := rfl
      rw [hnk]
      show idleB (if (nd I.ns n).kind = 3 then (docB I h).tx n else nlS).data.toList = _
      by_cases h3 : (nd I.ns n).kind = 3
      · rw [if_pos h3]
        have : (docB I h).tx n = turnS (stN (I.sty n) 43) (nd I.ns n).text := rfl
        rw [this, idle_turn]
        simp [h3]
      · rw [if_neg h3]
        have : ((nd I.ns n).kind == 3) = false := by simp [h3]
        rw [this]
        rfl
    rw [ht]
  · rw [h1]; rfl
  · rw [h1]; rfl
  · rw [h1]; rfl
  · rw [h1]; rfl
  · rcases h1 with h1 | h1 <;> rw [h1] <;> rfl
theorem rkeepsB_calls (m : Int) (w : World) :
    Calls Tryz.prog 164 #[.int .i64 m] w fun e w' => e = .returned (.bool (m == 1 || m == 3)) ∧ w = w' := by
  go_enter Tryz.func164, Tryz.ntmps164
  go_wp2
  all_goals
    go_ret
    refine ⟨ret_bool ?_, rfl⟩
    simp_all
/-- A node's cells, in whatever world. -/
theorem node_facts {I : BxV} {w0 : World} {B0 k : Nat} (h : I.ok w0 B0) (hk : k < I.n) : ∃ b off bs os, I.A = some ⟨b, off, none⟩ ∧ I.Al = some ⟨bs, os, none⟩ ∧ ∀ (w' : World) (B' : Nat), I.ok w' B' →
    w'.cell? ⟨b, off + k * 6, none⟩ = some (.int .i64 (nd I.ns k).kind) ∧ w'.cell? ⟨b, off + k * 6 + 3, none⟩ = some (.string (nd I.ns k).text) ∧ (∀ p, p < 59 → w'.cell? ⟨bs, os + k * 118 + (p * 2 + 1), none⟩ = some (.int .i64 (stN (I.sty k) p))) := by
  obtain ⟨b, off, hA, _⟩ := node_cells h hk
  obtain ⟨bs, os, hS, _⟩ := h.row hk
  refine ⟨b, off, bs, os, hA, hS, fun w' B' h' => ?_⟩
  obtain ⟨b2, off2, hA2, _, hc2, _⟩ := node_cells h' hk
  rw [hA] at hA2
  injection hA2 with hA2
  injection hA2 with e1 e2
  subst e1; subst e2
  refine ⟨hc2 0 (by omega), hc2 3 (by omega), fun p hp => ?_⟩
  obtain ⟨b3, off3, hA3, _, hc3⟩ := h'.cellN hk p hp
  rw [hS] at hA3
  injection hA3 with hA3
  injection hA3 with e1 e2
  subst e1; subst e2
  exact hc3
set_option maxRecDepth 100000 in
set_option maxHeartbeats 4000000 in
theorem ridleM_calls (I : BxV) (hc : checkE I.ns = 0) (base gM bK : Nat) (l : List Nat) (A : Option Addr) (n c : Nat) (O : Nat → Prop) (S : List PBox) (w : World) (h : RSB (docB I (docOk hc)) I base gM bK O w S) (hl : l.length = n) (hL : Held O w A l) (hm : n ≤ 1000) (hlt : ∀ k ∈ l, k < I.n) :
    Calls Tryz.prog 114 #[.pointer (some ⟨gM, 0, none⟩), .slice A n c] w (Tells (docB I (docOk hc)) I base gM bK (.bool ((docB I (docOk hc)).idleT (l.map (docB I (docOk hc)).box))) O S w) := by
  have HH := Lib.hid hL
  have HN := Lib.hid hl
  have HR0 := Lib.hid h
  have HLT := Lib.hid hlt
  have hns := h.okI.hn
  have HKS := Lib.hid (fun k (hk : k < I.n) => kind_says I hc base gM bK hns hk)
  obtain ⟨p, hp⟩ : ∃ p : Nat → Bool, p = fun k => (docB I (docOk hc)).idle1 ((docB I (docOk hc)).box k) := ⟨_, rfl⟩
  have HPV : Hid (∀ k, p k = ((docB I (docOk hc)).kindN k == 4 && !((nd I.ns k).kind == 3 && !idleB (nd I.ns k).text.data.toList) && !(stN (I.sty k) 41 == 1 || stN (I.sty k) 41 == 3))) := fun k => by rw [hp]; exact idle_box I (docOk hc) k
  have hr0 : (docB I (docOk hc)).idleT (l.map (docB I (docOk hc)).box) = l.all p := by
    unfold DocB.idleT
    rw [List.all_map, hp]
    rfl
  rw [hr0]
  obtain ⟨r, hr⟩ : ∃ r, r = l.all p := ⟨_, rfl⟩
  rw [← hr]
  have HR := Lib.hid hr
  unfold Tells
  clear h hl hL hr hr0 hp hlt hns
  go_enter Tryz.func114, Tryz.ntmps114
  go_wp2_with fail
  go_loopw [9] (fun i wr => ∃ k : Nat, k ≤ n ∧ i = .int .i64 k ∧ Hid (r = (l.drop k).all p) ∧ Hid (RSB (docB I (docOk hc)) I base gM bK O wr S) ∧ Hid (TurnW O w O wr)) (fun i _ => n - (intOf i).toNat)
  case atStart => exact ⟨0, Nat.zero_le _, rfl, HR.out, HR0.out, TurnW.refl _ _⟩
  case round =>
    obtain ⟨k, hk, rfl, HK, HS, HT⟩ := hrel
    by_cases hlt : k < n
    · have hkl : k < l.length := by rw [HN.out]; exact hlt
      obtain ⟨b, off, hA, hb, ho, hcc⟩ := (HH.out.turn HT.out) (by omega)
      subst hA
      have c0 := hcc k hkl
      obtain ⟨t, ht⟩ : ∃ t, t = l.getD k 0 := ⟨_, rfl⟩
      rw [← ht] at c0
      have htk : l[k] = t := by rw [ht, List.getD_eq_getElem?_getD, List.getElem?_eq_getElem hkl]; rfl
      have HD : Hid (l.drop k = t :: l.drop (k + 1)) := by show _ = _; rw [List.drop_eq_getElem_cons hkl, htk]
      have hmem : t ∈ l := by rw [← htk]; exact List.getElem_mem hkl
      have htn := HLT.out t hmem
      have hcb := HKS.out t htn O S wr HS.out
      unfold Tells at hcb
      have HC := Lib.hid hcb
      have hok := HS.out.okI
      obtain ⟨ba, oa, bs, os, hIA, hIL, hnf⟩ := node_facts hok htn
      have htb : t ≤ 200 := by have := hok.n0; omega
      have htn2 : t < I.nl := by rw [hok.same]; exact htn
      have htx : (nd I.ns t).text.size ≤ 400 := text_le (docOk hc) (by rw [hok.hn]; exact htn)
      have HPT := Lib.hid (HPV.out t)
      have HNF : Hid (∀ w', RSB (docB I (docOk hc)) I base gM bK O w' S → w'.cell? ⟨gM, 0, none⟩ = some (.slice (some ⟨ba, oa, none⟩) I.n I.c) ∧ w'.cell? ⟨gM, 1, none⟩ = some (.slice (some ⟨bs, os, none⟩) I.nl I.cl) ∧ w'.cell? ⟨ba, oa + t * 6, none⟩ = some (.int .i64 (nd I.ns t).kind) ∧ w'.cell? ⟨ba, oa + t * 6 + 3, none⟩ = some (.string (nd I.ns t).text) ∧ w'.cell? ⟨bs, os + t * 118 + 82 + 1, none⟩ = some (.int .i64 (stN (I.sty t) 41))) := fun w' h' => by
        obtain ⟨n1, n2, n3⟩ := hnf w' _ h'.okI
        exact ⟨by rw [← hIA]; exact h'.mk.2.1, by rw [← hIL]; exact h'.mk.2.2, n1, n2, n3 41 (by omega)⟩
      clear ht hkl htk hmem hb ho hcc hcb hok hIA hIL hnf
      obtain ⟨pt, hpt⟩ : ∃ pt, pt = p t := ⟨_, rfl⟩
      rw [← hpt] at HPT
      have HE : Hid (r = (pt && (l.drop (k + 1)).all p)) := by show _ = _; rw [HK.out, HD.out, List.all_cons, ← hpt]
      clear hpt HD
      have HID := Lib.hid (fun w' => ridle_calls (nd I.ns t).text w' htx)
      have HKP := Lib.hid (fun w' => rkeepsB_calls (stN (I.sty t) 41) w')
      generalize (docB I (docOk hc)).kindN t = kd at HC HPT
      generalize (nd I.ns t).kind = nk at HNF HPT
      generalize idleB (nd I.ns t).text.data.toList = idl at HID HPT
      generalize (nd I.ns t).text = tx at HNF HID htx
      generalize stN (I.sty t) 41 = kp at HNF HKP HPT
      generalize (kp == 1 || kp == 3) = bk at HKP HPT
      clear HK
      by_cases h4 : kd = 4
      · have q4 : (kd != 4) = false := by simp [h4]
        have q4' : (kd == 4) = true := by simp [h4]
        rw [q4'] at HPT
        clear h4 q4'
        by_cases h3 : nk = 3
        · have q3 : (nk == 3) = true := by simp [h3]
          rw [q3] at HPT
          clear h3
          cases idl with
          | false =>
            have HF : Hid (r = false) := by show _ = _; rw [HE.out, HPT.out]; rfl
            go_wp2_with (first | (go_at_call 115; refine HC.out.mono ?_; rintro e w1 ⟨rfl, hr1, ht1⟩; obtain ⟨u0, u1, u2, u3, u4⟩ := HNF.out w1 hr1; have HR1 := Lib.hid hr1; have HT1 := Lib.hid (HT.out.trans ht1); clear hr1 ht1) | (go_at_call 163; refine (HID.out _).mono ?_; rintro e w2 ⟨rfl, hb2⟩; replace HR1 := Lib.hid (HR1.out.below hb2); replace HT1 := Lib.hid (HT1.out.thenB hb2); obtain ⟨v0, v1, v2, v3, v4⟩ := HNF.out w2 HR1.out; clear hb2) | (go_at_call 164; refine (HKP.out _).mono ?_; rintro e w4 ⟨rfl, rfl⟩))
            go_ret
            exact ⟨by rw [HF.out]; rfl, HR1.out, HT1.out⟩
          | true =>
            cases bk with
            | false =>
              have HF : Hid (r = (l.drop (k + 1)).all p) := by show _ = _; rw [HE.out, HPT.out]; rfl
              go_wp2_with (first | (go_at_call 115; refine HC.out.mono ?_; rintro e w1 ⟨rfl, hr1, ht1⟩; obtain ⟨u0, u1, u2, u3, u4⟩ := HNF.out w1 hr1; have HR1 := Lib.hid hr1; have HT1 := Lib.hid (HT.out.trans ht1); clear hr1 ht1) | (go_at_call 163; refine (HID.out _).mono ?_; rintro e w2 ⟨rfl, hb2⟩; replace HR1 := Lib.hid (HR1.out.below hb2); replace HT1 := Lib.hid (HT1.out.thenB hb2); obtain ⟨v0, v1, v2, v3, v4⟩ := HNF.out w2 HR1.out; clear hb2) | (go_at_call 164; refine (HKP.out _).mono ?_; rintro e w4 ⟨rfl, rfl⟩))
              go_round
              case rel => exact ⟨k + 1, by omega, by go_num, HF.out, HR1.out, HT1.out⟩
              case measure => simp [intOf]; omega
            | true =>
              have HF : Hid (r = false) := by show _ = _; rw [HE.out, HPT.out]; rfl
              go_wp2_with (first | (go_at_call 115; refine HC.out.mono ?_; rintro e w1 ⟨rfl, hr1, ht1⟩; obtain ⟨u0, u1, u2, u3, u4⟩ := HNF.out w1 hr1; have HR1 := Lib.hid hr1; have HT1 := Lib.hid (HT.out.trans ht1); clear hr1 ht1) | (go_at_call 163; refine (HID.out _).mono ?_; rintro e w2 ⟨rfl, hb2⟩; replace HR1 := Lib.hid (HR1.out.below hb2); replace HT1 := Lib.hid (HT1.out.thenB hb2); obtain ⟨v0, v1, v2, v3, v4⟩ := HNF.out w2 HR1.out; clear hb2) | (go_at_call 164; refine (HKP.out _).mono ?_; rintro e w4 ⟨rfl, rfl⟩))
              go_ret
              exact ⟨by rw [HF.out]; rfl, HR1.out, HT1.out⟩
        · have q3 : (nk == 3) = false := by simp [h3]
          rw [q3] at HPT
          clear h3
          cases bk with
          | false =>
            have HF : Hid (r = (l.drop (k + 1)).all p) := by show _ = _; rw [HE.out, HPT.out]; rfl
            go_wp2_with (first | (go_at_call 115; refine HC.out.mono ?_; rintro e w1 ⟨rfl, hr1, ht1⟩; obtain ⟨u0, u1, u2, u3, u4⟩ := HNF.out w1 hr1; have HR1 := Lib.hid hr1; have HT1 := Lib.hid (HT.out.trans ht1); clear hr1 ht1) | (go_at_call 163; refine (HID.out _).mono ?_; rintro e w2 ⟨rfl, hb2⟩; replace HR1 := Lib.hid (HR1.out.below hb2); replace HT1 := Lib.hid (HT1.out.thenB hb2); obtain ⟨v0, v1, v2, v3, v4⟩ := HNF.out w2 HR1.out; clear hb2) | (go_at_call 164; refine (HKP.out _).mono ?_; rintro e w4 ⟨rfl, rfl⟩))
            go_round
            case rel => exact ⟨k + 1, by omega, by go_num, HF.out, HR1.out, HT1.out⟩
            case measure => simp [intOf]; omega
          | true =>
            have HF : Hid (r = false) := by show _ = _; rw [HE.out, HPT.out]; rfl
            go_wp2_with (first | (go_at_call 115; refine HC.out.mono ?_; rintro e w1 ⟨rfl, hr1, ht1⟩; obtain ⟨u0, u1, u2, u3, u4⟩ := HNF.out w1 hr1; have HR1 := Lib.hid hr1; have HT1 := Lib.hid (HT.out.trans ht1); clear hr1 ht1) | (go_at_call 163; refine (HID.out _).mono ?_; rintro e w2 ⟨rfl, hb2⟩; replace HR1 := Lib.hid (HR1.out.below hb2); replace HT1 := Lib.hid (HT1.out.thenB hb2); obtain ⟨v0, v1, v2, v3, v4⟩ := HNF.out w2 HR1.out; clear hb2) | (go_at_call 164; refine (HKP.out _).mono ?_; rintro e w4 ⟨rfl, rfl⟩))
            go_ret
            exact ⟨by rw [HF.out]; rfl, HR1.out, HT1.out⟩
      · have q4 : (kd != 4) = true := by simp [h4]
        have q4' : (kd == 4) = false := by simp [h4]
        have HF : Hid (r = false) := by show _ = _; rw [HE.out, HPT.out, q4']; rfl
        clear h4 q4'
        go_wp2_with (go_at_call 115; refine HC.out.mono ?_; rintro e w1 ⟨rfl, hr1, ht1⟩; obtain ⟨u0, u1, u2, u3, u4⟩ := HNF.out w1 hr1; have HR1 := Lib.hid hr1; have HT1 := Lib.hid (HT.out.trans ht1); clear hr1 ht1)
        go_ret
        exact ⟨by rw [HF.out]; rfl, HR1.out, HT1.out⟩
    · obtain rfl : k = n := by omega
      have HE : Hid (r = true) := by show _ = _; rw [HK.out, ← HN.out, List.drop_length]; rfl
      go_wp2_with fail
      go_ret
      exact ⟨by rw [HE.out]; rfl, HS.out, HT.out⟩
end Go.Proofs.YtkmmlcnoeeaekaaGreatDoor
