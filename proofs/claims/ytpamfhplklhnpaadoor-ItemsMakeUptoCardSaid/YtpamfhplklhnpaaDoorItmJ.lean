/- The contract of (*items.maker).box, by steps. -/
import Derived.Test.YtpamfhplklhnpaaDoorItmI
import Derived.Test.YtpamfhplklhnpaaDoorFan
namespace Go.Proofs.YtpamfhplklhnpaaDoor
open Go.RowKit
set_option linter.unusedVariables false
set_option linter.unusedSimpArgs false

/-- The maker behind some items, where some blocks are kept. -/
structure MG (M : MkV) (B gM : Nat) (v : Value) (xs : List ItemV) (w : World) (K : List (Nat × TypeId × Array Value)) (L : List ItemV) (b : Bool) (wr : World) : Prop where
  mst : ∃ v', MSt M B gM b v' (xs ++ L) wr ∧ Fr gM v w wr ∧ OwnRel v v' w
  keep : ∀ q ∈ K, Blk wr q.1 q.2.1 q.2.2 ∧ q.2.1 ≠ 40 ∧ q.2.1 ≠ 63
section
variable {M : MkV} {B gM : Nat} {v : Value} {xs : List ItemV} {w : World} {K : List (Nat × TypeId × Array Value)} {L : List ItemV} {b : Bool} {wr wr' : World}
theorem MG.below (h : MG M B gM v xs w K L b wr) (hb : Below wr.heap.size wr wr') : MG M B gM v xs w K L b wr' := by
  obtain ⟨v', h1, h2, h3⟩ := h.mst
  exact ⟨⟨v', h1.below hb, h2.then hb, h3⟩, fun q hq => ⟨(h.keep q hq).1.below hb (h.keep q hq).1.lt, (h.keep q hq).2⟩⟩
theorem MG.drew (h : MG M B gM v xs w K L b wr) : MG M B gM v xs w K L b wr.drew := h.below (below_drewN (Below.refl _ _) 1)
theorem MG.blank (h : MG M B gM v xs w K L b wr) (b2 : Bool) : MG M B gM v xs w K L b2 (wr.setCell ⟨gM, 3, none⟩ (.bool b2)) := by
  obtain ⟨v', h1, h2, h3⟩ := h.mst
  have h4 := h1.blank b2
  exact ⟨⟨v', h4.1, h2.trans h3 h4.2, h3⟩, fun q hq => ⟨Fr.blkOf h1 h4.2 (h.keep q hq).1 (h.keep q hq).2.1 (h.keep q hq).2.2, (h.keep q hq).2⟩⟩
theorem MG.call (h : MG M B gM v xs w K L b wr) {f : FuncId} {args : Array Value} {r : List ItemV × Bool} (hc : ∀ v', MSt M B gM b v' (xs ++ L) wr → Calls Tryd.prog f args wr (WPost M B gM v' (xs ++ L) wr r)) :
    Calls Tryd.prog f args wr fun e w' => e = .returned (.tuple #[]) ∧ MG M B gM v xs w K (L ++ r.1) r.2 w' := by
  obtain ⟨v', h1, h2, h3⟩ := h.mst
  refine (hc v' h1).mono ?_
  rintro e w' ⟨rfl, v2, h4, h5, h6⟩
  refine ⟨rfl, ⟨v2, by rw [← List.append_assoc]; exact h4, h2.trans h3 h5, h3.trans h2.size h6⟩, fun q hq => ⟨Fr.blkOf h1 h5 (h.keep q hq).1 (h.keep q hq).2.1 (h.keep q hq).2.2, (h.keep q hq).2⟩⟩
theorem MG.put (h : MG M B gM v xs w K L b wr) (x : ItemV) (hn : (xs ++ L).length ≤ 4194304) :
    Calls Tryd.prog 59 #[.pointer (some ⟨gM, 0, none⟩), .agg (itemC x)] wr fun e w' => e = .returned (.tuple #[]) ∧ MG M B gM v xs w K (L ++ [x]) b w' :=
  h.call (r := ([x], b)) (fun v' h1 => (put_calls M B gM b v' (xs ++ L) x wr h1 hn).mono (fun _ _ h => h))
theorem MG.done (h : MG M B gM v xs w K L b wr) : WPost M B gM v xs w (L, b) (.returned (.tuple #[])) wr := ⟨rfl, h.mst⟩
theorem MG.sty {q : Nat × TypeId × Array Value} (h : MG M B gM v xs w (q :: K) L b wr) : Blk wr q.1 q.2.1 q.2.2 := (h.keep q (by simp)).1
theorem MG.room (h : MG M B gM v xs w K L b wr) : wr.cell? ⟨gM, 2, none⟩ = some (.int .i64 M.room) := by
  obtain ⟨v', h1, h2, h3⟩ := h.mst
  exact h1.blk.cell 2
theorem MG.rng {g : Nat} {T : TypeId} {zs : List Int} (h : MG M B gM v xs w ((g, T, Go.Proofs.YtpamfhplklhnpaaDoor.sty zs) :: K) L b wr) : wr.rangeAt g 0 (Go.Proofs.YtpamfhplklhnpaaDoor.sty zs).toList := fun j u hu => by
  rw [Nat.zero_add, h.sty.cell]
  simpa using hu
end
/-- What holds while the four operations are done that stand ready at once: a call (its three results are taken behind it) and three new blocks. -/
def F7 (wd : World) (tup qm qb qp : Value) (L : Nat → Prop) (f : Nat → Value) (w' : World) : Prop :=
  Below wd.heap.size wd w' ∧ (∀ i, L i → i ≠ 5 → ∃ g, f i = .pointer (some ⟨g, 0, none⟩) ∧ Blk w' g 66 (quad 0 0 0 0) ∧ wd.heap.size ≤ g) ∧ (∀ i j, L i → L j → i ≠ 5 → j ≠ 5 → i ≠ j → f i ≠ f j) ∧ (L 5 → f 7 = qm ∧ f 8 = qb ∧ f 9 = qp) ∧ ∀ i, L i → i = 5 ∨ 10 ≤ i
theorem F7.start (wd : World) (tup qm qb qp : Value) (f : Nat → Value) : F7 wd tup qm qb qp (fun _ => False) f wd := ⟨Below.refl _ _, fun _ h => h.elim, fun _ _ h => h.elim, fun h => h.elim, fun _ h => h.elim⟩
def upd5 (f : Nat → Value) (tup qm qb qp : Value) : Nat → Value := updV (updV (updV (updV (updV f 5 tup) 6 tup) 7 qm) 8 qb) 9 qp
theorem upd5_far (f : Nat → Value) (tup qm qb qp : Value) {i : Nat} (h : 10 ≤ i) : upd5 f tup qm qb qp i = f i := by
  unfold upd5
  rw [updV_ne (by omega), updV_ne (by omega), updV_ne (by omega), updV_ne (by omega), updV_ne (by omega)]
section
variable {wd w1 w2 : World} {tup qm qb qp : Value} {L : Nat → Prop} {f : Nat → Value}
theorem F7.called (h : F7 wd tup qm qb qp L f w1) (hb : Below w1.heap.size w1 w2) : F7 wd tup qm qb qp (fun x => L x ∨ x = 5) (upd5 f tup qm qb qp) w2 := by
  have hfar : ∀ i, L i ∨ i = 5 → i ≠ 5 → 10 ≤ i := fun i hi h5 => by
    rcases hi with hi | hi
    · exact (h.2.2.2.2 i hi).resolve_left h5
    · exact absurd hi h5
  refine ⟨below_then h.1 hb, fun i hi h5 => ?_, fun i j hi hj hi5 hj5 hij => ?_, fun _ => ⟨by simp [upd5, updV], by simp [upd5, updV], by simp [upd5, updV]⟩, fun i hi => ?_⟩
  · rcases hi with hi | hi
    · obtain ⟨g, a1, a2, a3⟩ := h.2.1 i hi h5
      exact ⟨g, by rw [upd5_far _ _ _ _ _ (hfar i (.inl hi) h5)]; exact a1, a2.below hb a2.lt, a3⟩
    · exact absurd hi h5
  · rw [upd5_far _ _ _ _ _ (hfar i hi hi5), upd5_far _ _ _ _ _ (hfar j hj hj5)]
    exact h.2.2.1 i j (hi.resolve_right hi5) (hj.resolve_right hj5) hi5 hj5 hij
  · rcases hi with hi | hi
    · exact h.2.2.2.2 i hi
    · exact .inl hi
theorem F7.alloc {i : Nat} (h : F7 wd tup qm qb qp L f w1) (hi5 : 10 ≤ i) (hn : ¬ L i) : F7 wd tup qm qb qp (fun x => L x ∨ x = i) (updV f i (.pointer (some ⟨w1.heap.size, 0, none⟩))) (w1.alloc (.cells (quad 0 0 0 0) 66)) := by
  have hb : Below w1.heap.size w1 (w1.alloc (.cells (quad 0 0 0 0) 66)) := below_alloc (Below.refl _ _) _
  have hne : ∀ j, L j → j ≠ i := fun j hj e => hn (e ▸ hj)
  have hfr : ∀ j, L j → j ≠ 5 → f j ≠ .pointer (some ⟨w1.heap.size, 0, none⟩) := fun j hj h5 e => by
    obtain ⟨g, a1, a2, a3⟩ := h.2.1 j hj h5
    rw [a1] at e
    have h1 := a2.lt
    have h2 : g = w1.heap.size := by injection e with e; injection e with e; injection e
    omega
  refine ⟨below_then h.1 hb, fun j hj h5 => ?_, fun j k hj hk hj5 hk5 hjk => ?_, fun h5 => ?_, fun j hj => ?_⟩
  · rcases hj with hj | rfl
    · obtain ⟨g, a1, a2, a3⟩ := h.2.1 j hj h5
      exact ⟨g, by rw [updV_ne (hne j hj)]; exact a1, a2.below hb a2.lt, a3⟩
    · exact ⟨_, updV_same _ _ _, Blk.new _ _ _, h.1.size⟩
  · rcases hj with hj | rfl
    · rcases hk with hk | rfl
      · rw [updV_ne (hne j hj), updV_ne (hne k hk)]; exact h.2.2.1 j k hj hk hj5 hk5 hjk
      · rw [updV_ne (hne j hj), updV_same]; exact hfr j hj hj5
    · rcases hk with hk | rfl
      · rw [updV_ne (hne k hk), updV_same]; exact fun e => hfr k hk hk5 e.symm
      · exact absurd rfl hjk
  · rw [updV_ne (by omega), updV_ne (by omega), updV_ne (by omega)]
    exact h.2.2.2.1 (h5.resolve_right (by omega))
  · rcases hj with hj | hj
    · exact h.2.2.2.2 j hj
    · omega
theorem F7.fin (h : F7 wd tup qm qb qp L f w1) (h5 : L 5) (h10 : L 10) (h11 : L 11) (h12 : L 12) : Below wd.heap.size wd w1 ∧
    (∃ g, f 10 = .pointer (some ⟨g, 0, none⟩) ∧ Blk w1 g 66 (quad 0 0 0 0) ∧ wd.heap.size ≤ g) ∧ (∃ g, f 11 = .pointer (some ⟨g, 0, none⟩) ∧ Blk w1 g 66 (quad 0 0 0 0) ∧ wd.heap.size ≤ g) ∧
    (∃ g, f 12 = .pointer (some ⟨g, 0, none⟩) ∧ Blk w1 g 66 (quad 0 0 0 0) ∧ wd.heap.size ≤ g) ∧ f 10 ≠ f 11 ∧ f 10 ≠ f 12 ∧ f 11 ≠ f 12 ∧ f 7 = qm ∧ f 8 = qb ∧ f 9 = qp :=
  ⟨h.1, h.2.1 _ h10 (by decide), h.2.1 _ h11 (by decide), h.2.1 _ h12 (by decide), h.2.2.1 _ _ h10 h11 (by decide) (by decide) (by decide), h.2.2.1 _ _ h10 h12 (by decide) (by decide) (by decide), h.2.2.1 _ _ h11 h12 (by decide) (by decide) (by decide), h.2.2.2.1 h5⟩
end
theorem four_size (b : Bool) (zs : List Int) (p room : Int) : (four b zs p room).size = 4 := rfl
theorem four_one (b : Bool) (zs : List Int) (p room : Int) : (four b zs p room).all (·.oneCell') = true := by simp [four, quad, Value.oneCell']
theorem len4_bd (zs : List Int) (p room : Int) : -16777216 ≤ len4 zs p room ∧ len4 zs p room ≤ 16777216 := by
  unfold len4
  split
  · exact ofN_bd _ _ _
  · omega
section
variable {M : MkV} {u k : Nat} {bl : Bool}
theorem box_text (h : (bx M.bs k).kind = 4) : boxW M (u + 1) k bl = (textI M k bl, textB M k bl) := by rw [boxW, if_pos h]
theorem box_inline (h : (bx M.bs k).kind = 3) : boxW M (u + 1) k bl = ([openX M k] ++ (walkL (boxW M u) (bx M.bs k).kids bl).1 ++ [closeX M k], (walkL (boxW M u) (bx M.bs k).kids bl).2) := by rw [boxW, if_neg (by omega), if_pos h]
theorem box_float (h4 : ¬ (bx M.bs k).kind = 4) (h3 : ¬ (bx M.bs k).kind = 3) (h5 : ¬ (bx M.bs k).kind = 5) (ho : outL (rowL M.lz k) = 1) : boxW M (u + 1) k bl = ([floatX M k], bl) := by rw [boxW, if_neg h4, if_neg h3, if_pos ⟨h5, ho⟩]
theorem box_abs (h4 : ¬ (bx M.bs k).kind = 4) (h3 : ¬ (bx M.bs k).kind = 3) (h5 : ¬ (bx M.bs k).kind = 5) (ho : outL (rowL M.lz k) = 2) : boxW M (u + 1) k bl = ([absX k], bl) := by rw [boxW, if_neg h4, if_neg h3, if_neg (by omega), if_pos ⟨h5, ho⟩]
theorem box_atom (h4 : ¬ (bx M.bs k).kind = 4) (h3 : ¬ (bx M.bs k).kind = 3) (ho : (bx M.bs k).kind = 5 ∨ (¬ outL (rowL M.lz k) = 1 ∧ ¬ outL (rowL M.lz k) = 2)) : boxW M (u + 1) k bl = ([atomX M k], false) := by rw [boxW, if_neg h4, if_neg h3, if_neg (by omega), if_neg (by omega)]
end
set_option maxRecDepth 1000000 in
set_option maxHeartbeats 8000000 in
theorem box_step (M : MkV) (B gM u : Nat) (hM : MOk M) (hK : KidsC M B gM u) : BoxC M B gM (u + 1) := by
  intro at_ bl v xs w h hk hu hx
  have hkl : at_ < M.nl := by rw [hM.nl]; exact hk
  obtain ⟨bL, offL, eL, hbL, hrow⟩ := looks_row h.looks hM.len hkl
  obtain ⟨bB, offB, eB, hbB, c0, -, -, -, -, -, -⟩ := h.boxes.at_ (i := at_) (by rw [hM.hn]; exact hk)
  have mixed : Tryd.prog.follows .mixedOrders = true := by kernel_rfl
  have g1 : w.cell? ⟨gM, 1, none⟩ = some (.slice (some ⟨bL, offL, none⟩) M.nl M.cl) := by have := h.blk.cell 1; rw [this, ← eL]; rfl
  have hz : (rowL M.lz at_).length = 118 := rowL_len _ _
  obtain ⟨zs, hzs⟩ : ∃ x, x = rowL M.lz at_ := ⟨_, rfl⟩
  rw [← hzs] at hrow hz
  have HLAID := Lib.hid (look_laid zs hz)
  have HSZL : Hid ((Tryd.prog.info? 28).map (·.size) = some (sty zs).toList.length) := by show _ = _; rw [Array.length_toList, sty_size, hz]; kernel_rfl
  have HSZA : Hid ((Tryd.prog.info? 28).map (·.size) = some (sty zs).size) := by show _ = _; rw [sty_size, hz]; kernel_rfl
  have HROW := Lib.hid hrow
  obtain ⟨kd, hkd⟩ : ∃ x, x = (bx M.bs at_).kind := ⟨_, rfl⟩
  rw [← hkd] at c0
  have p3 : (sty zs)[3]? = some (.int .i64 (stN zs 1)) := sty_at zs 3 (by omega)
  have p5 : (sty zs)[5]? = some (.int .i64 (stN zs 2)) := sty_at zs 5 (by omega)
  obtain ⟨oN, hoN⟩ : ∃ x, x = outL zs := ⟨_, rfl⟩
  have HOUT : Hid (∀ w, Calls Tryd.prog 45 #[.agg (sty zs)] w fun e w' => e = .returned (.int .i64 oN) ∧ Below w.heap.size w w') := fun w => by rw [hoN]; exact out_calls _ _ _ _ p3 p5
  obtain ⟨fl, hfl⟩ : ∃ x, x = stN zs 2 := ⟨_, rfl⟩
  rw [← hfl] at p5
  have HP5 := Lib.hid p5
  obtain ⟨sh, hsh⟩ : ∃ x, x = shiftN zs := ⟨_, rfl⟩
  have HSH : Hid (∀ w, Calls Tryd.prog 60 #[.agg (sty zs)] w fun e w' => e = .returned (.int .i64 sh) ∧ Below w.heap.size w w') := fun w => by rw [hsh]; exact shift_calls _ _ hz
  obtain ⟨r, hr⟩ : ∃ x, x = boxW M (u + 1) at_ bl := ⟨_, rfl⟩
  rw [← hr]
  have HRW := Lib.hid hr
  have HKD := Lib.hid hkd
  have HON := Lib.hid hoN
  have HSHE := Lib.hid hsh
  have HFL := Lib.hid hfl
  have HZS := Lib.hid hzs
  have HZ := Lib.hid hz
  have HGW := Lib.hid h.blk.lt
  have HM0 := Lib.hid h
  have HMK := Lib.hid hM
  have HKC := Lib.hid hK
  have HX : Hid (xs.length + (ownC M.bs at_ + costL (costB M.bs u) (bx M.bs at_).kids) ≤ 4194304) := hx
  have HU : Hid (M.nb ≤ at_ + 1 + u) := by show _ ≤ _; omega
  have HN : Hid (at_ < M.nb ∧ at_ < M.nl) := ⟨hk, hkl⟩
  have HLE0 : Hid ((xs ++ ([] : List ItemV)).length ≤ 4194304) := by show _ ≤ _; rw [List.append_nil]; omega
  have HS3 : Hid (∀ w', Below w.heap.size w w' → MSt M B gM bl v xs w' → w'.cell? ⟨gM, 0, none⟩ = some (.slice (some ⟨bB, offB, none⟩) M.nb M.cb) ∧ w'.cell? ⟨bB, offB + at_ * 5, none⟩ = some (.int .i64 kd)) := fun w' hb hM => ⟨by have := hM.blk.cell 0; rw [this, ← eB]; rfl, (hb.cell (p := ⟨bB, offB + at_ * 5, none⟩) (Nat.lt_of_lt_of_le hbB h.hB)).trans c0⟩
  clear h hzs hkd p3 p5 hoN hfl hsh hr hrow c0 eL eB hM hK hx hu hz hbL hbB
  go_enter Tryd.func41, Tryd.ntmps41
  go_upto_region 1 with (first | (refine wpList_load_mid rfl 28 _ rfl bL (offL + at_ * 118) rfl (sty zs).toList _ HROW.out Tryd.underlying28 rfl HSZL.out ?_) | (refine wpList_store_mid rfl _ _ _ rfl w.heap.size 0 (sty zs) rfl rfl (HLAID.out w).2.1 (HLAID.out w).1 (sty_one _) ?_; obtain ⟨w2, hw2, bS, hb2, hsz2⟩ := (HLAID.out w).2.2; rw [hw2]; clear hw2; have HSB := Lib.hid bS; have HBW := Lib.hid hb2; have HM := Lib.hid (HM0.out.below hb2); clear bS hb2 hsz2))
  clear g1 HM0 HROW HLAID
  have HG : Hid (MG M B gM v xs w [(w.heap.size, 28, sty zs)] [] bl w2) := ⟨⟨v, by rw [List.append_nil]; exact HM.out, Fr.below HBW.out, .inl rfl⟩, fun q hq => by
    obtain rfl : q = _ := by simpa using hq
    exact ⟨HSB.out, (by decide : (28 : TypeId) ≠ 40), (by decide : (28 : TypeId) ≠ 63)⟩⟩
  have hc3 := HS3.out w2 HBW.out HM.out
  obtain ⟨s0, s1⟩ := hc3
  clear HS3 HSB HM HBW
  go_upto_region 4 with fail
  clear s0 s1
  by_cases h4 : kd = 4
  · subst h4
    have HC : Hid (Calls Tryd.prog 57 #[.pointer (some ⟨gM, 0, none⟩), .int .i64 (at_ : Nat)] w2 fun e w' => e = .returned (.tuple #[]) ∧ MG M B gM v xs w [(w.heap.size, 28, sty zs)] ([] ++ textI M at_ bl) (textB M at_ bl) w') :=
      HG.out.call (r := (textI M at_ bl, textB M at_ bl)) (fun v' hm => (text_calls M B gM at_ bl v' (xs ++ []) w2 hm HN.out.2 HN.out.1 HMK.out.len HMK.out.hn (HMK.out.text at_) (by
        have h1 := textP_len M at_ bl
        have h2 := HX.out
        rw [List.append_nil]
        omega)).mono (fun _ _ h => h))
    go_wp2_with (go_at_call 57; refine HC.out.mono ?_; rintro e wq ⟨rfl, hq⟩; have HQ := Lib.hid hq; clear hq)
    (try simp only [Exit.inBlock, Exit.then]); refine bodyPost_ret (results_none rfl _ _ _) rfl ?_
    rw [HRW.out, box_text HKD.out.symm]
    exact HQ.out.done
  have q4 : (kd == 4) = false := by simpa using h4
  by_cases h3 : kd = 3
  · subst h3
    obtain ⟨qm, hqm⟩ : ∃ x, x = four false zs 11 M.room := ⟨_, rfl⟩
    obtain ⟨qb, hqb⟩ : ∃ x, x = four true zs 19 M.room := ⟨_, rfl⟩
    obtain ⟨qp, hqp⟩ : ∃ x, x = four true zs 15 M.room := ⟨_, rfl⟩
    have HFR : Hid (∀ w, Calls Tryd.prog 58 #[.agg (sty zs), .int .i64 M.room] w fun e w' => e = .returned (.tuple #[.agg qm, .agg qb, .agg qp]) ∧ Below w.heap.size w w') := fun w => by
      rw [hqm, hqb, hqp]; exact frame_calls zs M.room w HZ.out
    have HQS : Hid (qm.size = 4 ∧ qb.size = 4 ∧ qp.size = 4) := by rw [hqm, hqb, hqp]; exact ⟨rfl, rfl, rfl⟩
    have HQ1 : Hid (qm.all (·.oneCell') = true ∧ qb.all (·.oneCell') = true ∧ qp.all (·.oneCell') = true) := by rw [hqm, hqb, hqp]; exact ⟨four_one _ _ _ _, four_one _ _ _ _, four_one _ _ _ _⟩
    have HSQ : Hid (∀ q : Array Value, q.size = 4 → (Tryd.prog.info? 66).map (·.size) = some q.size) := fun q hq => by rw [hq]; kernel_rfl
    obtain ⟨m3, hm3⟩ : ∃ x, x = len4 zs 14 M.room := ⟨_, rfl⟩
    obtain ⟨m1, hm1⟩ : ∃ x, x = len4 zs 12 M.room := ⟨_, rfl⟩
    obtain ⟨b3, hb3⟩ : ∃ x, x = max 0 (len4 zs 22 M.room) := ⟨_, rfl⟩
    obtain ⟨b1, hb1⟩ : ∃ x, x = max 0 (len4 zs 20 M.room) := ⟨_, rfl⟩
    obtain ⟨p3, hp3⟩ : ∃ x, x = max 0 (len4 zs 18 M.room) := ⟨_, rfl⟩
    obtain ⟨p1, hp1⟩ : ∃ x, x = max 0 (len4 zs 16 M.room) := ⟨_, rfl⟩
    have HQC : Hid ((qm[3]? = some (.int .i64 m3) ∧ qm[1]? = some (.int .i64 m1)) ∧ (qb[3]? = some (.int .i64 b3) ∧ qb[1]? = some (.int .i64 b1)) ∧ (qp[3]? = some (.int .i64 p3) ∧ qp[1]? = some (.int .i64 p1))) := by
      rw [hqm, hqb, hqp, hm3, hm1, hb3, hb1, hp3, hp1]; exact ⟨⟨rfl, rfl⟩, ⟨rfl, rfl⟩, rfl, rfl⟩
    have HE3 : Hid (cut (m3 + b3 + p3) = edgeW (rowL M.lz at_) 3 M.room) := by show _ = _; rw [hm3, hb3, hp3, ← HZS.out]; rfl
    have HE1 : Hid (cut (m1 + b1 + p1) = edgeW (rowL M.lz at_) 1 M.room) := by show _ = _; rw [hm1, hb1, hp1, ← HZS.out]; rfl
    have bm3 : -16777216 ≤ m3 ∧ m3 ≤ 16777216 := by rw [hm3]; exact len4_bd _ _ _
    have bm1 : -16777216 ≤ m1 ∧ m1 ≤ 16777216 := by rw [hm1]; exact len4_bd _ _ _
    have bb3 : 0 ≤ b3 ∧ b3 ≤ 16777216 := by rw [hb3]; have := len4_bd zs 22 M.room; omega
    have bb1 : 0 ≤ b1 ∧ b1 ≤ 16777216 := by rw [hb1]; have := len4_bd zs 20 M.room; omega
    have bp3 : 0 ≤ p3 ∧ p3 ≤ 16777216 := by rw [hp3]; have := len4_bd zs 18 M.room; omega
    have bp1 : 0 ≤ p1 ∧ p1 ≤ 16777216 := by rw [hp1]; have := len4_bd zs 16 M.room; omega
    clear hqm hqb hqp hm3 hm1 hb3 hb1 hp3 hp1
    go_upto_region 7 with fail
    have HG := Lib.hid HG.out.drew
    have hS0 : (fun w' : World => w'.rangeAt w.heap.size 0 (sty zs).toList ∧ w'.cell? ⟨gM, 2, none⟩ = some (.int .i64 M.room)) w2.drew := ⟨HG.out.rng, HG.out.room⟩
    refine wp_region_noPanic ?_
    refine region_M (S := fun w' => w'.rangeAt w.heap.size 0 (sty zs).toList ∧ w'.cell? ⟨gM, 2, none⟩ = some (.int .i64 M.room)) (T := []) (by kernel_rfl) ?_
    generalize World.drew w2 = wd at HG hS0 ⊢
    refine anyM_take (i := 0) (oi := { dst := some 43, op := _, type := _, pos := _, after := _, guard := _ }) (v := _) rfl (by kernel_rfl) (fun _ _ _ h => h) (yieldsIf_load_mid (by kernel_rfl) _ _ rfl _ _ rfl (sty zs).toList _ (fun w' h => by simpa using h.1) Tryd.underlying28 rfl HSZL.out) hS0 ?_
    try simp only [Act.put, Array.toArray_toList, List.setIfInBounds_toArray, List.set_cons_zero, List.set_cons_succ]
    refine anyM_free (i := 1) (oi := { dst := some 44, op := _, type := _, pos := _, after := _, guard := _ }) (v := ?_) rfl (by kernel_rfl) (fun _ _ _ h => h) (Or.inl ⟨by kernel_rfl, ?_⟩) (fun _ => hS0) ?_
    rotate_left 1
    · (intro w hSw; (try dsimp only at hSw); go_simp; try with_reducible rfl)
    try simp only [Act.put, Array.toArray_toList, List.setIfInBounds_toArray, List.set_cons_zero, List.set_cons_succ]
    refine anyM_free (i := 2) (oi := { dst := some 45, op := _, type := _, pos := _, after := _, guard := _ }) (v := ?_) rfl (by kernel_rfl) (fun _ _ _ h => h) (Or.inl ⟨by kernel_rfl, ?_⟩) (fun _ => hS0) ?_
    rotate_left 1
    · (intro w hSw; (try dsimp only at hSw); go_simp; try with_reducible rfl)
    try simp only [Act.put, Array.toArray_toList, List.setIfInBounds_toArray, List.set_cons_zero, List.set_cons_succ]
    refine anyM_free (i := 3) (oi := { dst := some 46, op := _, type := _, pos := _, after := _, guard := _ }) (v := ?_) rfl (by kernel_rfl) (fun _ _ _ h => h) (Or.inl ⟨by kernel_rfl, ?_⟩) (fun _ => hS0) ?_
    rotate_left 1
    · (intro w hSw; (try dsimp only at hSw); go_simp; try with_reducible rfl)
    try simp only [Act.put, Array.toArray_toList, List.setIfInBounds_toArray, List.set_cons_zero, List.set_cons_succ]
    refine anyM_take (i := 4) (oi := { dst := some 47, op := _, type := _, pos := _, after := _, guard := _ }) (v := ?_) rfl (by kernel_rfl) (fun _ _ _ h => h) (Or.inl ⟨by kernel_rfl, ?_⟩) hS0 ?_
    rotate_left 1
    · (intro w hSw; (try dsimp only at hSw); go_simp; try with_reducible rfl)
    try simp only [Act.put, Array.toArray_toList, List.setIfInBounds_toArray, List.set_cons_zero, List.set_cons_succ]
    have HS7 : Hid (∀ w', Below wd.heap.size wd w' → (fun w' : World => w'.rangeAt w.heap.size 0 (sty zs).toList ∧ w'.cell? ⟨gM, 2, none⟩ = some (.int .i64 M.room)) w') := fun w' hb => ⟨(HG.out.below hb).rng, (HG.out.below hb).room⟩
    refine anyM_fan0 (fun _ _ _ _ _ h => h) [(5, 48), (6, 42), (7, 49), (8, 50), (9, 51), (10, 6), (11, 7), (12, 8)] [5, 10, 11, 12] (fun i => if i = 5 then [(6, 42), (7, 49), (8, 50), (9, 51)] else []) (by decide) _ (F7 wd (.tuple #[.agg qm, .agg qb, .agg qp]) (.agg qm) (.agg qb) (.agg qp)) (fun L f w' h => HS7.out _ h.1) 3 4 _ (markL (Array.replicate 16 false) [0, 1, 2, 3, 4, 5, 6, 7, 8, 9, 10, 11, 12]) _ rfl (by rfl) (by kernel_rfl) (by decide) (by decide) (by decide) wd (fun f => F7.start _ _ _ _ _ f) ?_ ?_
    · intro p hp hpM L f w1 hnL hR
      have HRR := Lib.hid hR
      clear hR hS0 HG
      rcases (by simpa using hp : p = (5, 48) ∨ p = (6, 42) ∨ p = (7, 49) ∨ p = (8, 50) ∨ p = (9, 51) ∨ p = (10, 6) ∨ p = (11, 7) ∨ p = (12, 8)) with rfl | rfl | rfl | rfl | rfl | rfl | rfl | rfl
      · refine ⟨_, rfl, fun K' hK => ?_⟩
        simp only [layP, Act.put, Array.toArray_toList, List.setIfInBounds_toArray, List.set_cons_zero, List.set_cons_succ]
        go_simp
        refine (HFR.out _).mono ?_
        rintro e wx ⟨rfl, hbx⟩
        refine hK.out _ (.tuple #[.agg qm, .agg qb, .agg qp]) _ (upd5 f (.tuple #[.agg qm, .agg qb, .agg qp]) (.agg qm) (.agg qb) (.agg qp)) (by simp only [layP, Act.put, Array.toArray_toList, List.setIfInBounds_toArray, List.set_cons_zero, List.set_cons_succ]) ⟨(.tuple #[.agg qm, .agg qb, .agg qp]), _, rfl, rfl, Or.inl ⟨by kernel_rfl, ?_⟩, .agg qm, _, rfl, rfl, Or.inl ⟨by kernel_rfl, ?_⟩, .agg qb, _, rfl, rfl, Or.inl ⟨by kernel_rfl, ?_⟩, .agg qp, _, rfl, rfl, Or.inl ⟨by kernel_rfl, ?_⟩, rfl⟩ (HRR.out.called hbx)
        · intro w hSw; simp [layP, Act.put, Array.toArray_toList, List.setIfInBounds_toArray, List.set_cons_zero, List.set_cons_succ, updV]; go_simp
        · intro w hSw; simp [layP, Act.put, Array.toArray_toList, List.setIfInBounds_toArray, List.set_cons_zero, List.set_cons_succ, updV]; go_simp
        · intro w hSw; simp [layP, Act.put, Array.toArray_toList, List.setIfInBounds_toArray, List.set_cons_zero, List.set_cons_succ, updV]; go_simp
        · intro w hSw; simp [layP, Act.put, Array.toArray_toList, List.setIfInBounds_toArray, List.set_cons_zero, List.set_cons_succ, updV]; go_simp
      · exact absurd hpM (by decide)
      · exact absurd hpM (by decide)
      · exact absurd hpM (by decide)
      · exact absurd hpM (by decide)
      · refine ⟨_, rfl, fun K' hK => ?_⟩
        simp only [layP, Act.put, Array.toArray_toList, List.setIfInBounds_toArray, List.set_cons_zero, List.set_cons_succ]
        go_simp
        exact hK.out _ (.pointer (some ⟨w1.heap.size, 0, none⟩)) _ _ (by simp only [layP, Act.put, Array.toArray_toList, List.setIfInBounds_toArray, List.set_cons_zero, List.set_cons_succ]) rfl (HRR.out.alloc (i := 10) (by decide) hnL)
      · refine ⟨_, rfl, fun K' hK => ?_⟩
        simp only [layP, Act.put, Array.toArray_toList, List.setIfInBounds_toArray, List.set_cons_zero, List.set_cons_succ]
        go_simp
        exact hK.out _ (.pointer (some ⟨w1.heap.size, 0, none⟩)) _ _ (by simp only [layP, Act.put, Array.toArray_toList, List.setIfInBounds_toArray, List.set_cons_zero, List.set_cons_succ]) rfl (HRR.out.alloc (i := 11) (by decide) hnL)
      · refine ⟨_, rfl, fun K' hK => ?_⟩
        simp only [layP, Act.put, Array.toArray_toList, List.setIfInBounds_toArray, List.set_cons_zero, List.set_cons_succ]
        go_simp
        exact hK.out _ (.pointer (some ⟨w1.heap.size, 0, none⟩)) _ _ (by simp only [layP, Act.put, Array.toArray_toList, List.setIfInBounds_toArray, List.set_cons_zero, List.set_cons_succ]) rfl (HRR.out.alloc (i := 12) (by decide) hnL)
    intro f L w1 hR hL
    obtain ⟨hb7, h10, h11, h12, n1, n2, n3, e5m, e5b, e5p⟩ := hR.fin (hL 5 (by simp)) (hL 10 (by simp)) (hL 11 (by simp)) (hL 12 (by simp))
    obtain ⟨g6, e6, B6, hg6⟩ := h10
    obtain ⟨g7, e7, B7, hg7⟩ := h11
    obtain ⟨g8, e8, B8, hg8⟩ := h12
    have u1 : g6 ≠ g7 := fun e => n1 (by rw [e6, e7, e])
    have u2 : g6 ≠ g8 := fun e => n2 (by rw [e6, e8, e])
    have u3 : g7 ≠ g8 := fun e => n3 (by rw [e7, e8, e])
    simp only [layP, Act.put, Array.toArray_toList, List.setIfInBounds_toArray, List.set_cons_zero, List.set_cons_succ, e5m, e5b, e5p, e6, e7, e8]
    generalize f 6 = t42
    generalize f 5 = t48
    have hS0 := HS7.out _ hb7
    clear e5m e5b e5p e6 e7 e8 hL hR n1 n2 n3 L f
    have HB6 := Lib.hid B6
    have HB7 := Lib.hid B7
    have HB8 := Lib.hid B8
    have HBW7 := Lib.hid hb7
    clear B6 B7 B8 hb7
    refine anyM_one (i := 13) (by kernel_rfl) rfl (fun K hK => ?_)
    rw [if_pos (by kernel_rfl)]
    refine wp_store_mid _ _ _ rfl g6 0 qm rfl rfl (HB6.out.there _ (by rw [HQS.out.1]; exact Nat.le_refl 4)) (HSQ.out _ HQS.out.1) (HQ1.out.1) ?_
    generalize hws : World.setCells _ g6 0 _ = ws
    have HN : Hid (Blk ws g6 66 qm ∧ Blk ws g7 66 _ ∧ Blk ws g8 66 _ ∧ Below wd.heap.size wd ws) := ⟨hws ▸ HB6.out.setAll qm (by rw [HQS.out.1]; rfl), hws ▸ Blk.farCells u1.symm _ _ _ _ HB7.out, hws ▸ Blk.farCells u2.symm _ _ _ _ HB8.out, hws ▸ below_setCells hg6 _ _ _ HBW7.out⟩
    have HB6 := Lib.hid HN.out.1
    have HB7 := Lib.hid HN.out.2.1
    have HB8 := Lib.hid HN.out.2.2.1
    have HBW7 := Lib.hid HN.out.2.2.2
    clear HN hws
    have hS0 := HS7.out _ HBW7.out
    refine hK.out _ _ (fun _ => hS0) ?_
    clear hK K
    try simp only [Act.put, Array.toArray_toList, List.setIfInBounds_toArray, List.set_cons_zero, List.set_cons_succ]
    refine anyM_one (i := 14) (by kernel_rfl) rfl (fun K hK => ?_)
    rw [if_pos (by kernel_rfl)]
    refine wp_store_mid _ _ _ rfl g7 0 qb rfl rfl (HB7.out.there _ (by rw [HQS.out.2.1]; exact Nat.le_refl 4)) (HSQ.out _ HQS.out.2.1) (HQ1.out.2.1) ?_
    generalize hws : World.setCells _ g7 0 _ = ws
    have HN : Hid (Blk ws g7 66 qb ∧ Blk ws g6 66 _ ∧ Blk ws g8 66 _ ∧ Below wd.heap.size wd ws) := ⟨hws ▸ HB7.out.setAll qb (by rw [HQS.out.2.1]; rfl), hws ▸ Blk.farCells u1 _ _ _ _ HB6.out, hws ▸ Blk.farCells u3.symm _ _ _ _ HB8.out, hws ▸ below_setCells hg7 _ _ _ HBW7.out⟩
    have HB7 := Lib.hid HN.out.1
    have HB6 := Lib.hid HN.out.2.1
    have HB8 := Lib.hid HN.out.2.2.1
    have HBW7 := Lib.hid HN.out.2.2.2
    clear HN hws
    have hS0 := HS7.out _ HBW7.out
    refine hK.out _ _ (fun _ => hS0) ?_
    clear hK K
    try simp only [Act.put, Array.toArray_toList, List.setIfInBounds_toArray, List.set_cons_zero, List.set_cons_succ]
    refine anyM_one (i := 15) (by kernel_rfl) rfl (fun K hK => ?_)
    rw [if_pos (by kernel_rfl)]
    refine wp_store_mid _ _ _ rfl g8 0 qp rfl rfl (HB8.out.there _ (by rw [HQS.out.2.2]; exact Nat.le_refl 4)) (HSQ.out _ HQS.out.2.2) (HQ1.out.2.2) ?_
    generalize hws : World.setCells _ g8 0 _ = ws
    have HN : Hid (Blk ws g8 66 qp ∧ Blk ws g6 66 _ ∧ Blk ws g7 66 _ ∧ Below wd.heap.size wd ws) := ⟨hws ▸ HB8.out.setAll qp (by rw [HQS.out.2.2]; rfl), hws ▸ Blk.farCells u2 _ _ _ _ HB6.out, hws ▸ Blk.farCells u3 _ _ _ _ HB7.out, hws ▸ below_setCells hg8 _ _ _ HBW7.out⟩
    have HB8 := Lib.hid HN.out.1
    have HB6 := Lib.hid HN.out.2.1
    have HB7 := Lib.hid HN.out.2.2.1
    have HBW7 := Lib.hid HN.out.2.2.2
    clear HN hws
    have hS0 := HS7.out _ HBW7.out
    refine hK.out _ _ (fun _ => hS0) ?_
    clear hK K
    try simp only [Act.put, Array.toArray_toList, List.setIfInBounds_toArray, List.set_cons_zero, List.set_cons_succ]
    refine anyM_done (by kernel_rfl) ?_ _
    refine NoPanic.normal ?_
    clear hS0
    obtain ⟨wz, rfl⟩ : ∃ x, x = ws := ⟨_, rfl⟩
    have HG : Hid (MG M B gM v xs w [(g6, 66, qm), (g7, 66, qb), (g8, 66, qp)] [] bl wz) := ⟨(HG.out.below HBW7.out).mst, fun q hq => by
      have ht : (66 : TypeId) ≠ 40 ∧ (66 : TypeId) ≠ 63 := by decide
      rcases (by simpa using hq : q = (g6, 66, qm) ∨ q = (g7, 66, qb) ∨ q = (g8, 66, qp)) with rfl | rfl | rfl
      · exact ⟨HB6.out, ht⟩
      · exact ⟨HB7.out, ht⟩
      · exact ⟨HB8.out, ht⟩⟩
    have d6 : wz.cell? ⟨g6, 3, none⟩ = some (.int .i64 m3) := HB6.out.cell' 3 HQC.out.1.1
    have d7 : wz.cell? ⟨g7, 3, none⟩ = some (.int .i64 b3) := HB7.out.cell' 3 HQC.out.2.1.1
    have d8 : wz.cell? ⟨g8, 3, none⟩ = some (.int .i64 p3) := HB8.out.cell' 3 HQC.out.2.2.1
    clear HB6 HB7 HB8 HBW7
    have HPO : Hid (Calls Tryd.prog 59 #[.pointer (some ⟨gM, 0, none⟩), .agg #[.int .i64 2, .int .i64 (at_ : Nat), .string ⟨#[]⟩, .int .i64 0, .int .i64 0, .int .i64 0, .int .i64 0, .int .i64 0, .int .i64 (cut (m3 + b3 + p3)), .int .i64 0, .int .i64 0]] wz fun e w' => e = .returned (.tuple #[]) ∧ MG M B gM v xs w [(g6, 66, qm), (g7, 66, qb), (g8, 66, qp)] ([] ++ [openX M at_]) bl w') := by
      have h1 := HG.out.put (openX M at_) HLE0.out
      rw [HE3.out]
      exact h1
    go_upto_region 9 with (first | (go_at_call 19; refine (cut_calls _ _).mono ?_; rintro e w' ⟨rfl, rfl⟩) | (go_at_call 59; refine HPO.out.mono ?_; rintro e wo ⟨rfl, hq⟩; have HG2 := Lib.hid hq; clear hq))
    clear d6 d7 d8 HPO HG
    have HLL : Hid ((xs ++ ([] ++ [openX M at_])).length + costL (costB M.bs u) (bx M.bs at_).kids ≤ 4194303) := by
      show _ ≤ _
      have h1 := HX.out
      have h2 : 2 ≤ ownC M.bs at_ := by unfold ownC; omega
      simp only [List.nil_append, List.length_append, List.length_singleton]
      omega
    have HKI : Hid (Calls Tryd.prog 26 #[.pointer (some ⟨gM, 0, none⟩), .int .i64 (at_ : Nat)] wo fun e w' => e = .returned (.tuple #[]) ∧ MG M B gM v xs w [(g6, 66, qm), (g7, 66, qb), (g8, 66, qp)] (([] ++ [openX M at_]) ++ (walkL (boxW M u) (bx M.bs at_).kids bl).1) (walkL (boxW M u) (bx M.bs at_).kids bl).2 w') :=
      HG2.out.call (fun v' hm => HKC.out at_ bl v' _ wo hm HN.out.1 HU.out (Nat.le_trans HLL.out (by omega)))
    go_upto_region 10 with (go_at_call 26; refine HKI.out.mono ?_; rintro e wk ⟨rfl, hq⟩; have HG3 := Lib.hid hq; clear hq)
    clear HG2 HKI
    have d6 : wk.cell? ⟨g6, 1, none⟩ = some (.int .i64 m1) := (HG3.out.keep _ (List.mem_cons_self)).1.cell' 1 HQC.out.1.2
    have d7 : wk.cell? ⟨g7, 1, none⟩ = some (.int .i64 b1) := (HG3.out.keep (g7, 66, qb) (by simp)).1.cell' 1 HQC.out.2.1.2
    have d8 : wk.cell? ⟨g8, 1, none⟩ = some (.int .i64 p1) := (HG3.out.keep (g8, 66, qp) (by simp)).1.cell' 1 HQC.out.2.2.2
    have HPC : Hid (Calls Tryd.prog 59 #[.pointer (some ⟨gM, 0, none⟩), .agg #[.int .i64 3, .int .i64 (at_ : Nat), .string ⟨#[]⟩, .int .i64 0, .int .i64 0, .int .i64 0, .int .i64 0, .int .i64 0, .int .i64 (cut (m1 + b1 + p1)), .int .i64 0, .int .i64 0]] wk fun e w' => e = .returned (.tuple #[]) ∧ MG M B gM v xs w [(g6, 66, qm), (g7, 66, qb), (g8, 66, qp)] ((([] ++ [openX M at_]) ++ (walkL (boxW M u) (bx M.bs at_).kids bl).1) ++ [closeX M at_]) (walkL (boxW M u) (bx M.bs at_).kids bl).2 w') := by
      have h1 := HG3.out.put (closeX M at_) (by
        have h1 := walk_len (box_len M u) (bx M.bs at_).kids bl
        have h2 := HLL.out
        rw [← List.append_assoc, List.length_append]
        omega)
      rw [HE1.out]
      exact h1
    go_wp2_with (first | (go_at_call 19; refine (cut_calls _ _).mono ?_; rintro e w' ⟨rfl, rfl⟩) | (go_at_call 59; refine HPC.out.mono ?_; rintro e wo ⟨rfl, hq⟩; have HG2 := Lib.hid hq; clear hq))
    (try simp only [Exit.inBlock, Exit.then]); refine bodyPost_ret (results_none rfl _ _ _) rfl ?_
    rw [HRW.out, box_inline HKD.out.symm]
    exact HG2.out.done
  have q3 : (kd == 3) = false := by simpa using h3
  have HPA : Hid (∀ X, MG M B gM v xs w [(w.heap.size, 28, sty zs)] [] bl X → Calls Tryd.prog 59 #[.pointer (some ⟨gM, 0, none⟩), .agg #[.int .i64 4, .int .i64 (at_ : Nat), .string ⟨#[]⟩, .int .i64 0, .int .i64 0, .int .i64 0, .int .i64 0, .int .i64 sh, .int .i64 0, .int .i64 0, .int .i64 0]] X fun e w' => e = .returned (.tuple #[]) ∧ MG M B gM v xs w [(w.heap.size, 28, sty zs)] ([] ++ [atomX M at_]) bl w') := fun X hX => by
    have h1 := hX.put (atomX M at_) HLE0.out
    rw [HSHE.out, HZS.out]
    rw [HZS.out] at h1
    exact h1
  by_cases h5 : kd = 5
  · subst h5
    go_upto_region 2 with fail
    go_wp2_with (first | (refine wpList_load_rowI 28 _ rfl w.heap.size rfl 28 (sty zs) (0, 0) _ HG.out.sty Tryd.underlying28 rfl HSZA.out (by kernel_rfl) ?_) | (go_at_call 60; refine (HSH.out _).mono ?_; rintro e wa ⟨rfl, hba⟩; have HG := Lib.hid (HG.out.below hba); clear hba) | (go_at_call 59; refine (HPA.out _ HG.out).mono ?_; rintro e wp ⟨rfl, hq⟩; have HG := Lib.hid hq; obtain ⟨vq, hq1, hq2, hq3⟩ := hq.mst; have z3 := hq1.blk.free 3; have s3 := hq1.blk.cell 3; clear hq1 hq2 hq3 hq))
    (try simp only [Exit.inBlock, Exit.then]); refine bodyPost_ret (results_none rfl _ _ _) rfl ?_
    rw [HRW.out, box_atom (by rw [← HKD.out]; decide) (by rw [← HKD.out]; decide) (.inl HKD.out.symm)]
    exact (HG.out.blank false).done
  have q5 : (kd != 5) = true := by simpa using h5
  have HH4 := Lib.hid h4
  have HH3 := Lib.hid h3
  have HH5 := Lib.hid h5
  clear h4 h3 h5
  by_cases o1 : oN = 1
  · subst o1
    have HPF : Hid (∀ X, MG M B gM v xs w [(w.heap.size, 28, sty zs)] [] bl X → Calls Tryd.prog 59 #[.pointer (some ⟨gM, 0, none⟩), .agg #[.int .i64 5, .int .i64 (at_ : Nat), .string ⟨#[]⟩, .int .i64 0, .int .i64 0, .int .i64 0, .int .i64 0, .int .i64 0, .int .i64 0, .int .i64 0, .int .i64 fl]] X fun e w' => e = .returned (.tuple #[]) ∧ MG M B gM v xs w [(w.heap.size, 28, sty zs)] ([] ++ [floatX M at_]) bl w') := fun X hX => by
      have h1 := hX.put (floatX M at_) HLE0.out
      rw [HFL.out, HZS.out]
      rw [HZS.out] at h1
      exact h1
    go_wp2_with (first | (refine wpList_load_rowI 28 _ rfl w.heap.size rfl 28 (sty zs) (0, 0) _ HG.out.sty Tryd.underlying28 rfl HSZA.out (by kernel_rfl) ?_) | (go_at_call 45; refine (HOUT.out _).mono ?_; rintro e wa ⟨rfl, hba⟩; have HG := Lib.hid (HG.out.below hba); have c5 : wa.cell? ⟨w.heap.size, 5, none⟩ = some (.int .i64 fl) := HG.out.sty.cell' 5 HP5.out; clear hba) | (go_at_call 59; refine (HPF.out _ HG.out).mono ?_; rintro e wp ⟨rfl, hq⟩; have HG := Lib.hid hq; clear hq))
    (try simp only [Exit.inBlock, Exit.then]); refine bodyPost_ret (results_none rfl _ _ _) rfl ?_
    rw [HRW.out, box_float (by rw [← HKD.out]; exact HH4.out) (by rw [← HKD.out]; exact HH3.out) (by rw [← HKD.out]; exact HH5.out) (by rw [← HZS.out]; exact HON.out.symm)]
    exact HG.out.done
  have r1 : (oN == 1) = false := by simpa using o1
  by_cases o2 : oN = 2
  · subst o2
    have HPF : Hid (∀ X, MG M B gM v xs w [(w.heap.size, 28, sty zs)] [] bl X → Calls Tryd.prog 59 #[.pointer (some ⟨gM, 0, none⟩), .agg #[.int .i64 7, .int .i64 (at_ : Nat), .string ⟨#[]⟩, .int .i64 0, .int .i64 0, .int .i64 0, .int .i64 0, .int .i64 0, .int .i64 0, .int .i64 0, .int .i64 0]] X fun e w' => e = .returned (.tuple #[]) ∧ MG M B gM v xs w [(w.heap.size, 28, sty zs)] ([] ++ [absX at_]) bl w') := fun X hX => hX.put (absX at_) HLE0.out
    go_wp2_with (first | (refine wpList_load_rowI 28 _ rfl w.heap.size rfl 28 (sty zs) (0, 0) _ HG.out.sty Tryd.underlying28 rfl HSZA.out (by kernel_rfl) ?_) | (go_at_call 45; refine (HOUT.out _).mono ?_; rintro e wa ⟨rfl, hba⟩; have HG := Lib.hid (HG.out.below hba); clear hba) | (go_at_call 59; refine (HPF.out _ HG.out).mono ?_; rintro e wp ⟨rfl, hq⟩; have HG := Lib.hid hq; clear hq))
    (try simp only [Exit.inBlock, Exit.then]); refine bodyPost_ret (results_none rfl _ _ _) rfl ?_
    rw [HRW.out, box_abs (by rw [← HKD.out]; exact HH4.out) (by rw [← HKD.out]; exact HH3.out) (by rw [← HKD.out]; exact HH5.out) (by rw [← HZS.out]; exact HON.out.symm)]
    exact HG.out.done
  · have r2 : (oN == 2) = false := by simpa using o2
    have HO1 := Lib.hid o1
    have HO2 := Lib.hid o2
    clear o1 o2
    go_wp2_with (first | (refine wpList_load_rowI 28 _ rfl w.heap.size rfl 28 (sty zs) (0, 0) _ HG.out.sty Tryd.underlying28 rfl HSZA.out (by kernel_rfl) ?_) | (go_at_call 45; refine (HOUT.out _).mono ?_; rintro e wa ⟨rfl, hba⟩; have HG := Lib.hid (HG.out.below hba); clear hba) | (go_at_call 60; refine (HSH.out _).mono ?_; rintro e wa ⟨rfl, hba⟩; have HG := Lib.hid (HG.out.below hba); clear hba) | (go_at_call 59; refine (HPA.out _ HG.out).mono ?_; rintro e wp ⟨rfl, hq⟩; have HG := Lib.hid hq; obtain ⟨vq, hq1, hq2, hq3⟩ := hq.mst; have z3 := hq1.blk.free 3; have s3 := hq1.blk.cell 3; clear hq1 hq2 hq3 hq))
    (try simp only [Exit.inBlock, Exit.then]); refine bodyPost_ret (results_none rfl _ _ _) rfl ?_
    rw [HRW.out, box_atom (by rw [← HKD.out]; exact HH4.out) (by rw [← HKD.out]; exact HH3.out) (.inr ⟨by rw [← HZS.out, ← HON.out]; exact HO1.out, by rw [← HZS.out, ← HON.out]; exact HO2.out⟩)]
    exact (HG.out.blank false).done
end Go.Proofs.YtpamfhplklhnpaaDoor
