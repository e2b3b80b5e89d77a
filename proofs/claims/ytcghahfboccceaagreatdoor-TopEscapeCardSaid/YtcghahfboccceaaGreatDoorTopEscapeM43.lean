/- Several texts in one: TgI, TgJ. -/
import Derived.Test.YtcghahfboccceaaGreatDoorTopEscapeM26
import Derived.Test.YtcghahfboccceaaGreatDoorTopEscapeM37
import Derived.Test.YtcghahfboccceaaGreatDoorTopEscapeM42
import Derived.Lib.UnsafeStr
/- Contract of build.Doc at hBegun's text. Printed by genTgI.py. -/
namespace Go.Proofs.YtcghahfboccceaaGreatDoor
open Go.RowKit Go.Shelf
set_option linter.unusedVariables false
set_option linter.unusedSimpArgs false

def atB : List (ByteArray × ByteArray) := [(⟨#[105, 100]⟩, ⟨#[97]⟩)]
def R1 : PS := { (({ P0 with ns := P0.ns ++ [dtNd] } : PS).put 0 P0.ns.length) with quirks := false, mode := 1 }
def R2 : PS := { (({ R1 with op := [] } : PS).element 0 htmlN []) with mode := 2 }
def R3 : PS := { (R2.element 2 headN []) with head := (R2.ns.length : Int), mode := 3 }
def R4 : PS := { R3 with op := R3.op.take (R3.op.length - 1), mode := 5 }
def R5 : PS := { (R4.element 2 bodyN []) with mode := 6 }
def R6 : PS := R5.element 4 ⟨#[112]⟩ atB
def R7 : PS := R6.text 5 ⟨#[120]⟩
def StB : Nat → PS
  | 0 => R1 | 1 => R2 | 2 => R3 | 3 => R4 | 4 => R5 | _ => R6
def docB : List Nd := [⟨1, ⟨#[]⟩, [], ⟨#[]⟩, -1, [1, 2]⟩, ⟨5, ⟨#[104, 116, 109, 108]⟩, [], ⟨#[]⟩, 0, []⟩, ⟨2, ⟨#[104, 116, 109, 108]⟩, [], ⟨#[]⟩, 0, [3, 4]⟩, ⟨2, ⟨#[104, 101, 97, 100]⟩, [], ⟨#[]⟩, 2, []⟩, ⟨2, ⟨#[98, 111, 100, 121]⟩, [], ⟨#[]⟩, 2, [5]⟩, ⟨2, ⟨#[112]⟩, atB, ⟨#[]⟩, 4, [6]⟩, ⟨3, ⟨#[]⟩, [], ⟨#[120]⟩, 5, []⟩]
theorem R7_ns : R7.ns = docB := rfl
theorem checkB : checkE (docB.map conc) = 0 := by decide +kernel
theorem docB_few : (∀ x ∈ docB, x.attrs.length ≤ 1000 ∧ x.kids.length ≤ 1000) ∧ docB.length ≤ 1000 := by decide +kernel
theorem docB_clean : cleaned docBS = docBS := by
  have h1 : Cl docBS.data.toList := Cl.ascii (by decide +kernel)
  unfold cleaned
  rw [cleanF_stays h1 0 _ (by decide) (by show (24 : Nat) ≤ docBS.size; decide)]
theorem one_dtB (B b : Nat) (m : Int) (f t : Int) (A : Option Addr) (c : Nat) (w : World) (h : RP B b m P0 w) (hat : AttrsAt B (.slice A 0 c) [] w) :
    Calls Tryz.prog 63 #[.pointer (some ⟨b, 0, none⟩), .agg #[.int .i64 5, .string ⟨#[104, 116, 109, 108]⟩, .slice A 0 c, .string ⟨#[]⟩, .bool false, .int .i64 f, .int .i64 t]] w fun e w' => e = .returned (.tuple #[]) ∧ RP B b m R1 w' ∧ Left B w w' := by
  refine one_steps B b m 0 (fun i => if i = 0 then P0 else R1) 5 f t ⟨#[104, 116, 109, 108]⟩ ⟨#[]⟩ A 0 c false [] w h hat rfl (fun i hi => ?_) (.inr rfl) (.inl (by decide)) (fun i hi => absurd hi (by omega)) (fun i hi W hR hA => ?_)
  · obtain rfl : i = 0 := by omega
    exact .inl rfl
  · obtain rfl : i = 0 := by omega
    exact take_0 b 5 f t ⟨#[104, 116, 109, 108]⟩ ⟨#[]⟩ A 0 c false false (fun w' => RP B b m R1 w' ∧ Left B W w') W (taken hR fun W1 hb hR1 => initial_dt B b m P0 ⟨1, ⟨#[]⟩, [], ⟨#[]⟩, -1, []⟩ f t A 0 c W1 hR1 rfl (by decide) (by decide))
theorem one_pB (B b : Nat) (m : Int) (f t : Int) (A : Option Addr) (c : Nat) (w : World) (h : RP B b m R1 w) (hat : AttrsAt B (.slice A 1 c) atB w) :
    Calls Tryz.prog 63 #[.pointer (some ⟨b, 0, none⟩), .agg #[.int .i64 1, .string ⟨#[112]⟩, .slice A 1 c, .string ⟨#[]⟩, .bool false, .int .i64 f, .int .i64 t]] w fun e w' => e = .returned (.tuple #[]) ∧ RP B b m R6 w' ∧ Left B w w' := by
  refine one_steps B b m 4 StB 1 f t ⟨#[112]⟩ ⟨#[]⟩ A 1 c false atB w h hat rfl ?_ (.inl (by decide)) (.inl (by decide)) ?_ ?_
  · intro i hi
    have : i = 0 ∨ i = 1 ∨ i = 2 ∨ i = 3 ∨ i = 4 := by omega
    rcases this with rfl | rfl | rfl | rfl | rfl
    · exact .inr (.inl rfl)
    · exact .inr (.inr (.inl rfl))
    · exact .inr (.inr (.inr (.inl rfl)))
    · exact .inr (.inr (.inr (.inr (.inl rfl))))
    · exact .inr (.inr (.inr (.inr (.inr rfl))))
  · intro i hi
    have : i = 0 ∨ i = 1 ∨ i = 2 ∨ i = 3 := by omega
    rcases this with rfl | rfl | rfl | rfl <;> decide
  · intro i hi W hR hA
    have : i = 0 ∨ i = 1 ∨ i = 2 ∨ i = 3 ∨ i = 4 := by omega
    rcases this with rfl | rfl | rfl | rfl | rfl
    · exact take_1 b 1 f t ⟨#[112]⟩ ⟨#[]⟩ A 1 c false true (fun w' => RP B b m R2 w' ∧ Left B W w') W (taken hR fun W1 hb hR1 => beforeHTML_p B b m R1 ⟨1, ⟨#[]⟩, [], ⟨#[]⟩, -1, [1]⟩ f t A 1 c atB W1 hR1 (own_below hA hb) rfl (by decide) (by decide))
    · exact take_2 b 1 f t ⟨#[112]⟩ ⟨#[]⟩ A 1 c false true (fun w' => RP B b m R3 w' ∧ Left B W w') W (taken hR fun W1 hb hR1 => beforeHead_p B b m R2 2 ⟨2, htmlN, [], ⟨#[]⟩, 0, []⟩ f t A 1 c atB W1 hR1 (own_below hA hb) rfl rfl (by decide) (by decide) (by decide))
    · exact take_3 b 1 f t ⟨#[112]⟩ ⟨#[]⟩ A 1 c false true (fun w' => RP B b m R4 w' ∧ Left B W w') W (taken hR fun W1 hb hR1 => inHead_p B b m R3 f t A 1 c atB W1 hR1 (own_below hA hb) (by decide) (by decide))
    · exact take_5 b 1 f t ⟨#[112]⟩ ⟨#[]⟩ A 1 c false true (fun w' => RP B b m R5 w' ∧ Left B W w') W (taken hR fun W1 hb hR1 => afterHead_p B b m R4 2 ⟨2, htmlN, [], ⟨#[]⟩, 0, [3]⟩ f t A 1 c atB W1 hR1 (own_below hA hb) rfl rfl (by decide) (by decide) (by decide))
    · refine take_6 b 1 f t ⟨#[112]⟩ ⟨#[]⟩ A 1 c false false (fun w' => RP B b m R6 w' ∧ Left B W w') W (taken hR fun W1 hb hR1 => inBody_p B b m R5 4 ⟨2, bodyN, [], ⟨#[]⟩, 2, []⟩ f t A 1 c atB W1 hR1 (own_below hA hb) [htmlN, bodyN] rfl rfl (by decide) (by decide) (by decide) (by decide) ?_ (by decide) (by decide) ?_ (by decide +kernel))
      · refine ⟨rfl, fun i hi => ?_⟩
        have hi : i < 2 := hi
        have : i = 0 ∨ i = 1 := by omega
        rcases this with rfl | rfl
        · exact ⟨2, ⟨2, htmlN, [], ⟨#[]⟩, 0, [3, 4]⟩, rfl, rfl, rfl⟩
        · exact ⟨4, ⟨2, bodyN, [], ⟨#[]⟩, 2, []⟩, rfl, rfl, rfl⟩
      · intro x hx
        have : x = htmlN ∨ x = bodyN := by simpa using hx
        rcases this with rfl | rfl <;> decide
theorem one_txB (B b : Nat) (m : Int) (f t : Int) (A : Option Addr) (cc : Nat) (w : World) (h : RP B b m R6 w) (hat : AttrsAt B (.slice A 0 cc) [] w) :
    Calls Tryz.prog 63 #[.pointer (some ⟨b, 0, none⟩), .agg #[.int .i64 3, .string ⟨#[]⟩, .slice A 0 cc, .string ⟨#[120]⟩, .bool false, .int .i64 f, .int .i64 t]] w fun e w' => e = .returned (.tuple #[]) ∧ RP B b m R7 w' ∧ Left B w w' := by
  refine one_steps B b m 0 (fun i => if i = 0 then R6 else R7) 3 f t ⟨#[]⟩ ⟨#[120]⟩ A 0 cc false [] w h hat rfl (fun i hi => ?_) (.inl (by decide)) (.inr ⟨rfl, rfl, by decide, by decide⟩) (fun i hi => absurd hi (by omega)) (fun i hi W hR hA => ?_)
  · obtain rfl : i = 0 := by omega
    exact .inr (.inr (.inr (.inr (.inr rfl))))
  · obtain rfl : i = 0 := by omega
    exact take_6 b 3 f t ⟨#[]⟩ ⟨#[120]⟩ A 0 cc false false (fun w' => RP B b m R7 w' ∧ Left B W w') W (taken hR fun W1 hb hR1 => inBody_txt B b m R6 5 ⟨2, ⟨#[112]⟩, atB, ⟨#[]⟩, 4, []⟩ f t ⟨#[120]⟩ A 0 cc W1 hR1 rfl rfl rfl (by decide) (by decide) (by decide) (by decide))
theorem allB (B b : Nat) (m : Int) (W : World) (v : Value) (ts : List TokV) (Br : Nat) (hBr : B ≤ Br) (hR : RP B b m P0 W) (ho : W.ownsRow Br 49 7 v ts.length (ts.flatMap tokL)) (ht : ToksOk Br W docBT ts) :
    Calls Tryz.prog 36 #[.pointer (some ⟨b, 0, none⟩), v] W fun e w' => e = .returned (.tuple #[]) ∧ RP B b m R7 w' ∧ Left B W w' := by
  obtain ⟨t0, t1, t2, rfl⟩ : ∃ t0 t1 t2, ts = [t0, t1, t2] := by
    have := ht.len
    match ts, this with
    | [t0, t1, t2], _ => exact ⟨_, _, _, rfl⟩
  obtain ⟨h0, h1, h2, _⟩ := ht
  obtain ⟨kind, nm, av, tx, sf, f0, q0⟩ := t0
  obtain ⟨e1, e2, e3, e4, e5, e6, e7⟩ := h0
  simp only [tB0] at e1 e2 e3 e4 e5 e6 e7
  subst e1; subst e2; subst e3; subst e4
  obtain ⟨A0, c0, rfl⟩ := e7.open
  obtain ⟨kind, nm, av, tx, sf, f1, q1⟩ := t1
  obtain ⟨d1, d2, d3, d4, d5, d6, d7⟩ := h1
  simp only [tB1] at d1 d2 d3 d4 d5 d6 d7
  subst d1; subst d2; subst d3; subst d4
  obtain ⟨A1, c1, rfl⟩ := d7.open
  obtain ⟨kind, nm, av, tx, sf, f2, q2⟩ := t2
  obtain ⟨g1, g2, g3, g4, g5, g6, g7⟩ := h2
  simp only [tB2] at g1 g2 g3 g4 g5 g6 g7
  subst g1; subst g2; subst g3; subst g4
  obtain ⟨A2, c2, rfl⟩ := g7.open
  refine all_calls B Br b m _ (fun i => if i = 0 then P0 else if i = 1 then R1 else if i = 2 then R6 else R7) R7 v W hR ho (by simp) (by simp) (fun t ht => ?_) (fun i hi W1 hR1 hk => ?_) (fun W1 hR1 => ?_)
  · simp only [List.mem_cons, List.not_mem_nil, or_false] at ht
    rcases ht with rfl | rfl | rfl <;> exact ⟨_, _, _, rfl⟩
  · have hi : i < 3 := hi
    have : i = 0 ∨ i = 1 ∨ i = 2 := by omega
    rcases this with rfl | rfl | rfl
    · exact one_dtB B b m f0 q0 A0 c0 W1 hR1 (own_low (AttrsAt.keep e7 hk) hBr)
    · exact one_pB B b m f1 q1 A1 c1 W1 hR1 (own_low (AttrsAt.keep d7 hk) hBr)
    · exact one_txB B b m f2 q2 A2 c2 W1 hR1 (own_low (AttrsAt.keep g7 hk) hBr)
  · exact one_over B b m R7 rfl rfl W1 hR1
set_option maxRecDepth 100000 in
set_option maxHeartbeats 4000000 in
theorem docB_calls (m : Int) (w : World) (hm : w.cell? ⟨0, 0, none⟩ = some (.int .i64 m)) :
    Calls Tryz.prog 9 #[.string docBS] w fun e w' => ∃ A n c, e = .returned (.tuple #[.agg #[.slice A n c, .bool false], .int .i64 0]) ∧ DocIn w' A n docB ∧ Below w.heap.size w w' := by
  obtain ⟨s, hs⟩ : ∃ s, s = docBS := ⟨_, rfl⟩
  have hsl : s.size ≤ 4000 := by rw [hs]; decide
  have h0 : 0 < w.heap.size := block_lt_of_cell hm
  obtain ⟨g, hg⟩ : ∃ g, g = w.heap.size := ⟨_, rfl⟩
  obtain ⟨wa, hwa⟩ : ∃ wa, wa = w.alloc (.cells #[.slice none 0 0, .bool false] 27) := ⟨_, rfl⟩
  have TB : Hid (Blk wa g 27 #[.slice none 0 0, .bool false]) := by show Blk _ _ _ _; rw [hwa, hg]; exact Blk.new w _ _
  have B0 : Hid (Below w.heap.size w wa) := by show Below _ _ _; rw [hwa]; exact (Below.refl _ w).alloc (Nat.le_refl _) _
  have HM := Lib.hid hm
  have HD := Lib.hid (fun (b : Nat) (W : World) (hR : RP wa.heap.size b m P0 W) => done_calls wa.heap.size b m P0 R7 docBS docBS docBT W hR (by decide) docB_clean (by decide) docB_stages (fun W1 v ts Br h1 h2 h3 h4 => allB wa.heap.size b m W1 v ts Br h1 h2 h3 h4)
    (by rw [R7_ns]; exact checkB) (by rw [R7_ns]; exact docB_few.1) (by rw [R7_ns]; exact docB_few.2))
  rw [← hs, R7_ns, show R7.quirks = false from rfl] at HD
  rw [← hs]
  have HWA := Lib.hid hwa
  have HG := Lib.hid hg
  clear hs hg hwa hm
  have hfd : ∀ (gN : Nat) (w : World), (Instr.field 27 (.agg #[.slice (some ⟨gN, 0, none⟩) 1 1, .bool false]) 0).run Tryz.prog w = .ok (.slice (some ⟨gN, 0, none⟩) 1 1) w := fun _ _ => by kernel_rfl
  go_enter Tryz.func9, Tryz.ntmps9
  go_upto_region 1 with fail
  rw [← HWA.out, ← HG.out]
  go_wp2_with (first
    | (go_at_call 19; refine (new_calls _).mono ?_; rintro e w1 ⟨gN, rfl, hN, hg1, hb1⟩; (have B1 := Lib.hid (B0.out.trans (hb1.mono B0.out.size))); (have T1 := Lib.hid (TB.out.below hb1 TB.out.lt)); (have HR := Lib.hid (rp_begin hN hg1 (Nat.lt_of_lt_of_le h0 B0.out.size) hb1.size ((B1.out.cell (p := ⟨0, 0, none⟩) h0).trans HM.out))); (have T2 := Lib.hid ((T1.out.alloc (.cells #[.int .i64 0] 3)).alloc (.cells #[.slice (some ⟨gN, 0, none⟩) 1 1, .slice (some ⟨w1.heap.size, 0, none⟩) 1 1, .slice none 0 0, .bool false, .int .i64 0, .int .i64 0, .int .i64 (-1), .int .i64 (-1), .bool false, .string ⟨#[]⟩, .bool false] 56))); clear hN hg1 hb1)
    | (go_at_call 20; refine (HD.out _ _ HR.out).mono ?_; rintro e w6 ⟨A9, n9, c9, rfl, hdoc, hb6⟩; (have T6 := Lib.hid (T2.out.below hb6 TB.out.lt)); (have DI := Lib.hid hdoc); (have y0 : w6.cell? ⟨g, 0, none⟩ = some (.slice none 0 0) := T6.out.cell 0); (have y1 : w6.cell? ⟨g, 1, none⟩ = some (.bool false) := T6.out.cell 1); (have f0 := T6.out.free 0); (have f1 := T6.out.free 1); (have B6 := Lib.hid (((B1.out.alloc B1.out.size _).alloc (Nat.le_trans B1.out.size (by simp)) _).trans (hb6.mono B0.out.size))); clear hdoc hb6))
  have hgw : w.heap.size ≤ g := by have := HG.out; omega
  exact bodyPost_ret (results_row_tmp rfl _ _ g 27 #[.slice A9 n9 c9, .bool false] _ rfl ((T6.out.stored 0 (.slice A9 n9 c9)).stored 1 (.bool false)) rfl rfl (by kernel_rfl)) rfl ⟨A9, n9, c9, rfl, (DI.out.far T6.out (j := 0)).far (T6.out.stored 0 _) (j := 1), (B6.out.setCell (p := ⟨g, 0, none⟩) hgw _).setCell (p := ⟨g, 1, none⟩) hgw _⟩
end Go.Proofs.YtcghahfboccceaaGreatDoor
/- serial's writer: the Builder inside it. Printed by genTgJ.py. -/
namespace Go.Proofs.YtcghahfboccceaaGreatDoor
open Go.RowKit Go.Shelf
set_option linter.unusedVariables false
set_option linter.unusedSimpArgs false

/-- A writer at b that holds the cells xs, in a row v; its document. -/
structure WrAt (B b : Nat) (p v dn dq : Value) (xs : List Value) (w : World) : Prop where
  lo : B ≤ b
  blk : Blk w b 67 #[p, v, dn, dq]
  own : w.ownsRow B 5 1 v xs.length xs
theorem WrAt.ne {B b : Nat} {p v dn dq : Value} {xs : List Value} {w : World} (h : WrAt B b p v dn dq xs w) : v.ownBlock ≠ some b := blk_ne h.blk h.own (by decide)
theorem infoWriter : (Tryz.prog.info? 67).map (fun i => i.size) = some 4 := by kernel_rfl
theorem liesWriter : liesAt Tryz.prog Tryz.prog.depth 67 (4 / Tryz.prog.cellsOf 67) 0 65 1 = true := by kernel_rfl
set_option maxRecDepth 100000 in
set_option maxHeartbeats 2000000 in
theorem copyCheckW_calls (b : Nat) (p v dn dq : Value) (w : World) (hp : p = .pointer none ∨ p = .pointer (some ⟨b, 0, none⟩)) (h : Blk w b 67 #[p, v, dn, dq]) :
    Calls Tryz.prog 53 #[.pointer (some ⟨b, 0, none⟩)] w fun e w' => e = .returned (.tuple #[]) ∧ OnlyB b w w' ∧ Blk w' b 67 #[.pointer (some ⟨b, 0, none⟩), v, dn, dq] := by
  obtain ⟨j, hj, hjs⟩ := Option.map_eq_some_iff.1 infoBuilder
  have c0 : w.cell? ⟨b, 0, none⟩ = some p := h.cell 0
  have f0 := h.free 0
  have hsh : w.shape? b = some (67, 4) := blk_shape h
  have HH := Lib.hid h
  have HSH := Lib.hid hsh
  have HJ := Lib.hid hj
  have HJS := Lib.hid hjs
  clear h hsh hj hjs
  rcases hp with rfl | rfl
  · go_enter Tryz.func53, Tryz.ntmps53
    go_wp2
    rw [Lib.run_to_unsafe w ⟨b, 0, none⟩ Tryz.underlying62 Tryz.underlying126 HJ.out (by rw [HJS.out]; decide) HSH.out (Nat.zero_lt_succ 3)]
    simp only [Result.andThen]
    rw [Oper.upon_value]
    go_wp2
    rw [run_callFunc_extern Tryz.func74 (by kernel_rfl) (by kernel_rfl) (by kernel_rfl) (e := Extern.AbiNoEscape.same) (by kernel_rfl)]
    rw [Lib.run_noEscape]
    simp only [Result.andThen]
    rw [Oper.upon_value]
    go_wp2
    rw [Lib.run_from_unsafe w ⟨b, 0, none⟩ Tryz.underlying126 Tryz.underlying62 HJ.out HSH.out liesWriter]
    simp only [Result.andThen]
    rw [Oper.upon_value]
    have c1 : (w.setCell ⟨b, 0, none⟩ (.pointer (some ⟨b, 0, none⟩))).cell? ⟨b, 0, none⟩ = some (.pointer (some ⟨b, 0, none⟩)) := (HH.out.stored 0 _).cell 0
    go_wp2
    go_end0
    exact ⟨rfl, ⟨rfl, rfl, rfl, by simp, fun k hk => Below.heap_setCell w ⟨b, 0, none⟩ _ k hk⟩, HH.out.stored 0 _⟩
  · go_enter Tryz.func53, Tryz.ntmps53
    go_wp2
    rw [Lib.run_neq_ptr_same w _ Tryz.underlying62 HJ.out]
    go_wp2
    go_end0
    exact ⟨rfl, ⟨rfl, rfl, rfl, rfl, fun _ _ => rfl⟩, HH.out⟩
def WroteW (B b : Nat) (dn dq : Value) (xs : List Value) (w w' : World) : Prop := (∃ v', WrAt B b (.pointer (some ⟨b, 0, none⟩)) v' dn dq xs w') ∧ Below B w w' ∧ Lib.OthersKept 5 (some b) w w'
theorem wroteW_of0 {B b : Nat} {p v dn dq v9 : Value} {xs ys : List Value} {w w1 w9 : World} (H : WrAt B b p v dn dq xs w) (hO : OnlyB b w w1) (hb : Blk w1 b 67 #[.pointer (some ⟨b, 0, none⟩), v, dn, dq])
    (hB : B ≤ w.heap.size) (ho9 : w9.ownsRow B 5 1 v9 ys.length ys) (hg9 : w1.grownBy w9 v.ownBlock) :
    Blk w9 b 67 #[.pointer (some ⟨b, 0, none⟩), v, dn, dq] ∧ WroteW B b dn dq ys w (w9.setCell ⟨b, 1, none⟩ v9) := by
  have hb9 := blk_grownB hb hg9 H.ne
  have hlt0 : b < w.heap.size := H.blk.lt
  have hsz := hO.size
  have h1 : Lib.OthersKept 5 (some b) w w1 := fun k x hk hkb _ => (hO.block k (fun e => hkb (congrArg some e))).trans hk
  have hw1 : Below B w w1 := ⟨hO.os, hO.tape, hO.output, by omega, fun k hk => hO.block k (by have := H.lo; omega)⟩
  have hrow : ∀ g, v.ownBlock = some g → ∃ c fz, w1.heap[g]? = some (.cells c 5 fz) := fun g hg => by
    obtain ⟨c, fz, hc⟩ := own_cells H.own hg
    refine ⟨c, fz, ?_⟩
    rw [hO.block g (fun e => H.ne (by rw [hg, e]))]
    exact hc
  refine ⟨hb9, ⟨_, H.lo, hb9.stored 1 _, own_setFar ho9 (blk_ne hb9 ho9 (by decide))⟩, ?_, ?_⟩
  · exact (hw1.grown hg9 (by omega) (fun q hq => (H.own.lt q hq).1)).setCell (p := ⟨b, 1, none⟩) H.lo _
  · exact (h1.grown hg9 hrow).setCell ⟨b, 1, none⟩ rfl _
set_option maxRecDepth 100000 in
set_option maxHeartbeats 4000000 in
theorem writeStringW_calls (B b : Nat) (p v dn dq : Value) (xs : List Value) (s : ByteArray) (w : World) (hp : p = .pointer none ∨ p = .pointer (some ⟨b, 0, none⟩)) (h : WrAt B b p v dn dq xs w) (hlen : xs.length + s.size ≤ 140737488355328) (hB : B ≤ w.heap.size) :
    Calls Tryz.prog 47 #[.pointer (some ⟨b, 0, none⟩), .string s] w fun e w' => (∃ v0, e = .returned v0) ∧ WroteW B b dn dq (xs ++ Lib.strCells s) w w' := by
  obtain ⟨i0, hi, hz0, hz1, hz2⟩ := info_parts infoU8
  obtain ⟨A, cp, rfl⟩ : ∃ A cp, v = .slice A xs.length cp := own_open h.own
  have HC := Lib.hid (copyCheckW_calls b p _ dn dq w hp h.blk)
  have H := Lib.hid h
  have HNE := Lib.hid h.ne
  have hlt := h.blk.lt
  obtain ⟨n, hn⟩ : ∃ n, n = xs.length := ⟨_, rfl⟩
  rw [← hn] at hlen HC H HNE
  have HN := Lib.hid hn
  have HWO : Hid (∀ (w1 w9 : World) (v9 : Value), OnlyB b w w1 → Blk w1 b 67 #[.pointer (some ⟨b, 0, none⟩), .slice A n cp, dn, dq] → w9.ownsRow B 5 1 v9 (n + s.size) (xs ++ Lib.strCells s) → w1.grownBy w9 (Value.slice A n cp).ownBlock →
      Blk w9 b 67 #[.pointer (some ⟨b, 0, none⟩), .slice A n cp, dn, dq] ∧ WroteW B b dn dq (xs ++ Lib.strCells s) w (w9.setCell ⟨b, 1, none⟩ v9)) := fun w1 w9 v9 h1 h2 h3 h4 => wroteW_of0 H.out h1 h2 hB (by rw [List.length_append, ← HN.out, Lib.strCells_length]; exact h3) h4
  clear h hp hn
  go_enter Tryz.func47, Tryz.ntmps47
  go_wp2_with (first
    | (go_at_call 53; refine HC.out.mono ?_; rintro e w1 ⟨rfl, ho, hb⟩; (have c1 := hb.cell 1); simp only [List.getElem?_toArray, List.getElem?_cons_succ, List.getElem?_cons_zero] at c1; (have HO := Lib.hid ho); (have HB := Lib.hid hb); (have hown := own_heap H.out.own (fun g hg => ho.block g (fun e => HNE.out (by rw [hg, e])))); rw [← HN.out] at hown; (have HOA := Lib.hid hown); clear ho hb hown)
    | (at_builtin; refine Lib.wpList_append_own_string _ rfl _ _ 63 9 rfl B 5 i0 rfl rfl hi hz0 hz1 hz2 _ n xs rfl HOA.out s rfl (by unfold maxLen; omega) (by omega) (by have := HO.out.size; omega) ?_; intro v9 w9 ho9 hg9 hat9; go_loud ((obtain ⟨A9, c9, rfl⟩ := own_open ho9); (have HP := Lib.hid (HWO.out _ _ _ HO.out HB.out ho9 hg9)); (have f2 : w9.frozen? ⟨b, 1, none⟩ = false := HP.out.1.free 1); (have m9 : w9.cell? ⟨b, 1, none⟩ = some (.slice A n cp) := HP.out.1.cell 1); clear ho9 hg9 hat9 c1)))
  refine bodyPost_ret (results_tmp2 rfl _ _ _) rfl ⟨⟨_, rfl⟩, HP.out.2⟩
theorem ptrU8 : Tryz.prog.underlying 99 = some (.pointer 5) := by kernel_rfl
theorem cellsU8 : Tryz.prog.cellsOf 5 = 1 := by kernel_rfl
set_option maxHeartbeats 1000000 in
set_option maxRecDepth 100000 in
theorem stringW_calls (B b : Nat) (p v dn dq : Value) (l : List UInt8) (w : World) (h : WrAt B b p v dn dq (Lib.byteCells l) w) (h0 : l ≠ []) :
    Calls Tryz.prog 26 #[.pointer (some ⟨b, 0, none⟩)] w fun e w' => e = .returned (.string ⟨l.toArray⟩) ∧ Below B w w' := by
  have hl0 : l.length ≠ 0 := by simpa using h0
  have hown := h.own
  have hbk := h.blk
  rw [Lib.byteCells_length] at hown
  obtain ⟨g, cap, cur, rfl, hbg, hg, hnc, hcm, hcs, htake⟩ : ∃ g cap cur, v = .slice (some ⟨g, 0, none⟩) l.length cap ∧ B ≤ g ∧ w.heap[g]? = some (.cells cur 5 (0, 0)) ∧ l.length ≤ cap ∧ cap ≤ maxLen ∧ cur.size = cap * 1 ∧ cur.toList.take (l.length * 1) = Lib.byteCells l := by
    rcases hown.2 with ⟨_, hz⟩ | ⟨g, cap, cur, hv, r⟩
    · exact absurd hz hl0
    · exact ⟨g, cap, cur, hv, r⟩
  have c1 : w.drew.cell? ⟨b, 1, none⟩ = some (.slice (some ⟨g, 0, none⟩) l.length cap) := hbk.cell 1
  have hSD : (Builtin.unsafeSliceData_ #[63] 99 #[.slice (some ⟨g, 0, none⟩) l.length cap]).run Tryz.prog w.drew = .ok (.pointer (some ⟨g, 0, none⟩)) w.drew :=
    Lib.run_unsafeSliceData_row _ _ _ _ _ _ (by omega)
  have hUS : (Builtin.unsafeString_ #[99, 3] 9 #[.pointer (some ⟨g, 0, none⟩), .int .i64 l.length]).run Tryz.prog w.drew = .ok (.string ⟨l.toArray⟩) (w.drew.freeze ⟨g, 0, none⟩ l.length) := by
    refine Lib.run_unsafeString_row w.drew 99 3 9 5 ptrU8 cellsU8 g cur.size (by have hg' : w.drew.heap[g]? = some (.cells cur 5 (0, 0)) := hg; simp [World.shape?, hg']) l h0 (by omega) (by unfold maxLen at hcm; omega) ?_
    intro j x hx
    have := hown.cells (g := g) rfl j (.int .u8 x.toNat) (by simp [Lib.byteCells, hx])
    exact this
  have mixed := Tryz.lays169.mixed
  clear h hown hbk
  go_enter Tryz.func26, Tryz.ntmps26
  go_wp2
  go_region_o
  all_goals (go_wp2; go_ret; exact ⟨rfl, Lib.below_freeze (Below.drew (Below.refl B w)) (p := ⟨g, 0, none⟩) hbg _⟩)
end Go.Proofs.YtcghahfboccceaaGreatDoor
