/- Proved: PaintList returns true, and its arguments read as they did, where the arguments hold together at most 1048576 values and letters (the form '..UptoCardSaid'). The row lists the table of initial values and two tables of unicode/utf8; the card ties them to the program's text. No other condition. -/
import Derived.Test.YtkmmlcnoeeaekaaGreatDoorCards
import Derived.Test.YtkmmlcnoeeaekaaGreatDoorTie
import Derived.Test.YtkmmlcnoeeaekaaGreatDoorPaintListM5
import Derived.Test.YtkmmlcnoeeaekaaGreatDoorPaintListM51
import Derived.WalkKit
import Derived.ProofKit
import Derived.OpenShut
import Derived.ShutString
import Derived.ChangeOld
import Derived.Below
import Derived.SizedLaws
import Derived.Deep.DeepHandedRow
import Derived.Lib.LaidTab
namespace Go.Proofs.YtkmmlcnoeeaekaaGreatDoor.paintList
open Go.ChangeShapes Go.WideShapes Go.ChangeAt Go.RowKit Go.Deep
open Go.ChangeMaps (open_string shut_string)
set_option linter.unusedVariables false

theorem own : ownKnob Tryz.prog.godebug = none := by kernel_rfl
theorem laidOut : laidOutB Tryz.prog = true := by kernel_rfl
theorem gTab : Tryz.prog.globalNamed "clerestory/style.initial" = some 0 := by kernel_rfl
theorem gTabType : (Tryz.prog.globals[0]?).map (·.type) = some 35 := by kernel_rfl
theorem fineTab : ((Rows.laid_clerestory_style_initial : DataW Unit).weights Tryz.prog 35).all (· ≤ reachBytes) = true := by kernel_rfl
theorem flatTab : flat Tryz.prog 6 35 = some (List.replicate 118 3) := by kernel_rfl
theorem intsTab : allInts Tryz.prog (List.replicate 118 3) = true := by kernel_rfl
/-- What the row's list gives: block 0 holds 118 ints. -/
theorem table {W : World} (h : laidMetH Tryz.prog Rows.paintListUptoRow.laid W) : ∃ tbl, TabAt W tbl ∧ In64 tbl := by
  have h' : laidMet Tryz.prog [("unicode/utf8.acceptRanges", Rows.laid_unicode_utf8_acceptRanges), ("clerestory/style.initial", Rows.laid_clerestory_style_initial), ("unicode/utf8.first", Rows.laid_unicode_utf8_first)] W := h
  obtain ⟨ps, ⟨_, _, _, _, _, _, _, _, _, _, ⟨g, t, cs, fuel, p, q, hg, ht, hvar, hd, _, _⟩, _⟩, _⟩ := h'
  obtain rfl := Option.some.inj (gTab.symm.trans hg)
  obtain rfl := Option.some.inj (gTabType.symm.trans ht)
  have hfine : Fine Tryz.prog 35 (Rows.laid_clerestory_style_initial : DataW Unit) := fun n hn => by
    have := List.all_eq_true.1 fineTab n hn
    simpa using this
  obtain ⟨hl, hleaf⟩ := open_flat 6 35 _ fuel _ _ flatTab hd hfine
  obtain ⟨zs, h1, h2, hwz⟩ := ints_of_leaves intsTab hl hleaf
  simp only [List.length_replicate] at h1
  refine ⟨zs, ⟨h1, fun i hi => ?_⟩, fun z hz => bounds_i64 (hwz z hz)⟩
  have h3 := World.var?_cell gTab hvar i
  have hi' : i < zs.length := by omega
  rw [h3, show cs[i]? = cs.toList[i]? by simp, h2]
  simp [List.getD, hi']
theorem len_bulk {H : Type} {enc : TypeId × Value → H} {P : Program} {w : World} {base : Nat} {sp : Nat → Bool} {held : Bool} {T e : TypeId} {a : Option Addr} {len cap : Nat} {d : DataW H} {p : List MemPlace}
    (hu : P.underlying T = some (.slice e)) (h : DataW.Trod enc P w base sp held T (.slice a len cap) d p) : len ≤ Rows.uptoBulk d := by
  obtain ⟨m, h⟩ := h
  have h : DataW.trod enc P w base sp held m T [Value.slice a len cap] = some (d, p) := by simpa [Value.cells] using h
  rcases open_slice hu h with ⟨hc, _⟩ | ⟨a', len', cap', m', k, D, Pl, hc, hb, hl, hm, hmm, hx, hi⟩
  · simp at hc; omega
  · have hx2 := congrArg Prod.fst hx
    simp at hx2 hc
    rw [hx2]
    simp only [Rows.uptoBulk]
    have h1 := bulk_len ((List.range len').map D)
    simp only [List.length_map, List.length_range] at h1
    omega
set_option maxRecDepth 100000 in
theorem contract (H : Type) (enc : TypeId × Value → H) (W : World) (base : Nat) (args : Array Value) (ds gs : List (DataW H)) (before : List MemPlace)
    (hval : ∀ (j : Nat) t v, Tryz.f5.params[j]? = some t → args[j]? = some v → Value.okWide Tryz.prog W .any base t v)
    (hW : DataW.Whole enc Tryz.prog Tryz.f5.params.toList Rows.paintListSpec.vars false W args.toList ds gs before) (hk : Rows.uptoSmall H (ds ++ gs) = true) (hL : laidMetH Tryz.prog Rows.paintListUptoRow.laid W)
    (hsz : (DataW.weightsEach Tryz.prog (Tryz.f5.params.toList ++ Rows.paintListSpec.plain.varTypes Tryz.prog) (ds ++ gs)).all (· ≤ reachBytes) = true) :
    Calls Tryz.prog 5 args W fun e W' => ∃ v, e = .returned v ∧ Rows.paintListSpec.post enc Tryz.prog Tryz.f5 false true false false W args v W' := by
  have hW' := hW
  obtain ⟨p, q, hA0, hV, rfl, hfz, hnd⟩ := hW
  have hA : DataW.TrodAll enc Tryz.prog W 0 (fun _ => true) true Tryz.f5.params.toList args.toList ds p := hA0
  rw [Tryz.params5] at hA hval hsz
  obtain ⟨v0, vs0, d0, ds0, p0, q0, hargs, rfl, rfl, h0, r0⟩ := trodAll_cons hA
  obtain ⟨v1, vs1, d1, ds1, p1, q1, rfl, rfl, rfl, h1, r1⟩ := trodAll_cons r0
  obtain ⟨v2, vs2, d2, ds2, p2, q2, rfl, rfl, rfl, h2, r2⟩ := trodAll_cons r1
  obtain ⟨v3, vs3, d3, ds3, p3, q3, rfl, rfl, rfl, h3, r3⟩ := trodAll_cons r2
  obtain ⟨rfl, rfl, rfl⟩ := trodAll_nil r3
  obtain rfl : args = #[v0, v1, v2, v3] := by cases args; simp_all
  obtain ⟨rfl, rfl⟩ := trodVars_none hV
  have hk' := of_decide_eq_true hk
  simp only [List.append_nil, Rows.uptoBulkAll] at hk'
  have k0 := h0
  have lt0 : ∀ x ∈ p0, x.block < W.heap.size := by obtain ⟨m, hm⟩ := k0; exact DataW.trod_lt m _ _ _ hm
  have g1 := arg_of h1 (fine_of_each hsz (j := 1) rfl rfl)
  have k1 := h1
  have lt1 : ∀ x ∈ p1, x.block < W.heap.size := by obtain ⟨m, hm⟩ := k1; exact DataW.trod_lt m _ _ _ hm
  have k2 := h2
  have lt2 : ∀ x ∈ p2, x.block < W.heap.size := by obtain ⟨m, hm⟩ := k2; exact DataW.trod_lt m _ _ _ hm
  have k3 := h3
  have lt3 : ∀ x ∈ p3, x.block < W.heap.size := by obtain ⟨m, hm⟩ := k3; exact DataW.trod_lt m _ _ _ hm
  obtain ⟨cd, rfl⟩ := okWide_agg (by rw [Tryz.underlying24]) (hval 0 24 v0 rfl rfl)
  obtain ⟨n0, n1, rfl, ln, lq⟩ := open_two (K := 1048576) Tryz.underlying24 (by rfl) (by kernel_rfl) (by kernel_rfl) (by kernel_rfl) h0 (fine_of_each hsz (j := 0) rfl rfl) (by omega)
  obtain ⟨qd, rfl⟩ := leaf_bool Tryz.underlying4 lq.leaf
  obtain ⟨aN, ns, capN, rfl, hN, hNk⟩ := open_nodes (fs := _) (gs := _) Tryz.underlying22 Tryz.underlying117 (by rfl) (by kernel_rfl) Tryz.underlying3 (by kernel_rfl) Tryz.underlying9 (by kernel_rfl) (by kernel_rfl) (by kernel_rfl) Tryz.underlying115 Tryz.underlying178 (by rfl) (by kernel_rfl) Tryz.underlying44 (Nat.le_refl _) ln
  obtain ⟨a1, len1, cap1, rfl⟩ := okWide_slice Tryz.underlying25 (hval 1 25 v1 rfl rfl)
  obtain ⟨z1, hz1, hh1, hr1, hc1, hm1, hw1⟩ := slice_ints (n := 6) (L := 118) Tryz.underlying25 (by kernel_rfl) (by kernel_rfl) (by decide) g1
  obtain ⟨cv, rfl⟩ := okWide_agg (by rw [Tryz.underlying56]) (hval 2 56 v2 rfl rfl)
  obtain ⟨x0, x1, x2, x3, rfl, ⟨mx, yx, tx, fx, _⟩, ⟨my, yy, ty, fy, _⟩, ld, lp⟩ := open_four Tryz.underlying56 (by rfl) (by kernel_rfl) (by kernel_rfl) (by kernel_rfl) (by kernel_rfl) (by kernel_rfl) h2 (fine_of_each hsz (j := 2) rfl rfl)
  obtain ⟨EW, rfl, _⟩ := leaf_int Tryz.underlying3 (⟨mx, yx, tx, fx⟩ : Leaf enc Tryz.prog W 0 (fun _ => true) true 3 x0)
  obtain ⟨EH, rfl, _⟩ := leaf_int Tryz.underlying3 (⟨my, yy, ty, fy⟩ : Leaf enc Tryz.prog W 0 (fun _ => true) true 3 x1)
  obtain ⟨ED, rfl⟩ := leaf_bool Tryz.underlying4 ld
  obtain ⟨EP, rfl⟩ := leaf_bool Tryz.underlying4 lp
  obtain ⟨cs, rfl⟩ := okWide_agg (by rw [Tryz.underlying42]) (hval 3 42 v3 rfl rfl)
  obtain ⟨c0, c1, c2, c3, rfl, ⟨mb, yb, tb, fb, kb⟩, ⟨mf, yf, tf, ff, kf⟩, lw, lh⟩ := open_four Tryz.underlying42 (by rfl) (by kernel_rfl) (by kernel_rfl) (by kernel_rfl) (by kernel_rfl) (by kernel_rfl) h3 (fine_of_each hsz (j := 3) rfl rfl)
  obtain ⟨W1, rfl, _⟩ := leaf_int Tryz.underlying3 lw
  obtain ⟨H1, rfl, _⟩ := leaf_int Tryz.underlying3 lh
  have lb : Leaf enc Tryz.prog W 0 (fun _ => true) true 26 c0 := ⟨mb, yb, tb, fb⟩
  have lf : Leaf enc Tryz.prog W 0 (fun _ => true) true 40 c1 := ⟨mf, yf, tf, ff⟩
  have fbx : flat Tryz.prog 6 72 = some [3, 3, 3, 44, 9] := by kernel_rfl
  have ffr : flat Tryz.prog 6 88 = some [3, 3, 3, 3, 3, 3, 3, 9] := by kernel_rfl
  obtain ⟨ab, lenb, capb, rfl⟩ := slice_val Tryz.underlying26 fbx (by kernel_rfl) lb
  obtain ⟨af, lenf, capf, rfl⟩ := slice_val Tryz.underlying40 ffr (by kernel_rfl) lf
  obtain ⟨bs, hbs, hbh, _⟩ := open_boxes (n := 6) (I := 3) (K := 44) (S := 9) Tryz.underlying26 fbx (by kernel_rfl) (by kernel_rfl) Tryz.underlying3 Tryz.underlying44 Tryz.underlying9 (by kernel_rfl) (by kernel_rfl) lb.arg
  obtain ⟨fs, hfs, hfh⟩ := open_frags (n := 6) (I := 3) (S := 9) Tryz.underlying40 ffr (by kernel_rfl) Tryz.underlying3 Tryz.underlying9 lf.arg
  have b1 := len_bulk Tryz.underlying25 h1
  have bb := len_bulk (d := yb.1) (p := yb.2) Tryz.underlying26 ⟨mb, by simpa [Value.cells] using tb⟩
  have bf := len_bulk (d := yf.1) (p := yf.2) Tryz.underlying40 ⟨mf, by simpa [Value.cells] using tf⟩
  obtain ⟨tbl, hT, hT64⟩ := table hL
  have hpos : 0 < W.heap.size := block_lt_of_cell (hT.2 0 (by decide))
  clear hA0
  refine (paintList_walk ⟨aN, ns.length, capN, qd, ns, a1, len1, cap1, z1, tbl, ab, lenb, capb, bs, W1, H1⟩ af lenf capf fs EW EH ED EP W
    { hn0 := rfl, nodes := hN, n0 := hNk, hl := hz1, hb := hbs, boxes := hbh, looks := hh1, tab := hT, pos := hpos, l64 := fun z hz => bounds_i64 (hw1 z hz), t64 := hT64, nb0 := by show lenb ≤ _; omega, nl0 := by show len1 ≤ _; omega } hfs hfh (by omega)).mono fun e W' ⟨he, bel⟩ => ?_
  subst he
  exact ⟨_, rfl, _, _, _, [], _, [], hW', trodAll_mk1 (shut_bool Tryz.underlying4 _), (trodAll_cons_mk (Below.trod laidOut (by kernel_rfl) (of_decide_eq_true (by kernel_rfl)) k0 bel lt0) (trodAll_cons_mk (Below.trod laidOut (by kernel_rfl) (of_decide_eq_true (by kernel_rfl)) k1 bel lt1) (trodAll_cons_mk (Below.trod laidOut (by kernel_rfl) (of_decide_eq_true (by kernel_rfl)) k2 bel lt2) (trodAll_cons_mk (Below.trod laidOut (by kernel_rfl) (of_decide_eq_true (by kernel_rfl)) k3 bel lt3) trodAll_mk0)))), rfl, bel.frame _, fun h => by cases h⟩

/-- A world for the witness: the settled one, the three tables holding what the row lists. -/
noncomputable def laidHeap0 (os : Os) : Array Obj :=
  (World.holding Tryz.prog os ⟨#[], #[], []⟩).heap.modify 0 fun
    | .cells _ t frozen => .cells #[.int .i64 1, .int .i64 1, .int .i64 1, .int .i64 0, .int .i64 1, .int .i64 0, .int .i64 1, .int .i64 0, .int .i64 1, .int .i64 0, .int .i64 6, .int .i64 0, .int .i64 6, .int .i64 0, .int .i64 6, .int .i64 0, .int .i64 6, .int .i64 0, .int .i64 6, .int .i64 0, .int .i64 6, .int .i64 0, .int .i64 2, .int .i64 0, .int .i64 2, .int .i64 0, .int .i64 2, .int .i64 0, .int .i64 2, .int .i64 0, .int .i64 2, .int .i64 0, .int .i64 2, .int .i64 0, .int .i64 2, .int .i64 0, .int .i64 2, .int .i64 0, .int .i64 2, .int .i64 0, .int .i64 2, .int .i64 0, .int .i64 2, .int .i64 0, .int .i64 2, .int .i64 0, .int .i64 5, .int .i64 255, .int .i64 5, .int .i64 255, .int .i64 5, .int .i64 255, .int .i64 5, .int .i64 255, .int .i64 6, .int .i64 0, .int .i64 6, .int .i64 0, .int .i64 6, .int .i64 0, .int .i64 6, .int .i64 0, .int .i64 6, .int .i64 0, .int .i64 1, .int .i64 0, .int .i64 1, .int .i64 0, .int .i64 4, .int .i64 1000, .int .i64 5, .int .i64 255, .int .i64 5, .int .i64 0, .int .i64 2, .int .i64 1024, .int .i64 6, .int .i64 0, .int .i64 1, .int .i64 0, .int .i64 2, .int .i64 0, .int .i64 1, .int .i64 0, .int .i64 1, .int .i64 0, .int .i64 1, .int .i64 0, .int .i64 6, .int .i64 0, .int .i64 1, .int .i64 0, .int .i64 1, .int .i64 0, .int .i64 1, .int .i64 0, .int .i64 1, .int .i64 6, .int .i64 6, .int .i64 0, .int .i64 4, .int .i64 0, .int .i64 4, .int .i64 1000, .int .i64 6, .int .i64 0, .int .i64 4, .int .i64 0, .int .i64 2, .int .i64 0, .int .i64 1, .int .i64 0, .int .i64 2, .int .i64 0, .int .i64 1, .int .i64 1, .int .i64 1, .int .i64 0] t frozen
    | o => o
noncomputable def laidHeap (os : Os) : Array Obj :=
  (laidHeap0 os).modify 2 fun
    | .cells _ t frozen => .cells ((List.replicate 128 (240 : Int) ++ List.replicate 66 241 ++ List.replicate 30 2 ++ [19] ++ List.replicate 12 3 ++ [35, 3, 3, 52, 4, 4, 4, 68] ++ List.replicate 11 241).map (Value.int .u8)).toArray t frozen
    | o => o
noncomputable def laidWorld (os : Os) : World :=
  { World.holding Tryz.prog os ⟨#[], #[], []⟩ with heap := (laidHeap os).modify 3 fun
      | .cells _ t frozen => .cells (([(128 : Int), 191, 160, 191, 128, 159, 144, 191, 128, 143] ++ List.replicate 22 0).map (Value.int .u8)).toArray t frozen
      | o => o }
theorem laid_met (os : Os) : laidMet Tryz.prog Rows.paintListUptoRow.laid ((laidWorld os).forCall (fun _ _ => 0) ⟨#[], #[.agg #[.slice none 0 0, .bool false], .slice none 0 0, .agg #[.int .i64 0, .int .i64 0, .bool false, .bool false], .agg #[.slice none 0 0, .slice none 0 0, .int .i64 0, .int .i64 0]], []⟩).memory :=
  laidMet_of_run' 8 (by kernel_rfl) (by kernel_rfl)
theorem reads (os : Os) {H : Type} (enc : TypeId × Value → H) : ∃ places, DataW.whole enc Tryz.prog ((laidWorld os).forCall (fun _ _ => 0) ⟨#[], #[.agg #[.slice none 0 0, .bool false], .slice none 0 0, .agg #[.int .i64 0, .int .i64 0, .bool false, .bool false], .agg #[.slice none 0 0, .slice none 0 0, .int .i64 0, .int .i64 0]], []⟩).memory Tryz.f5.params.toList Rows.paintListSpec.vars false #[Value.agg #[.slice none 0 0, .bool false], .slice none 0 0, .agg #[.int .i64 0, .int .i64 0, .bool false, .bool false], .agg #[.slice none 0 0, .slice none 0 0, .int .i64 0, .int .i64 0]].toList 8 = some ([.agg [.nil, .lit (.bool false)], .nil, .agg [.lit (.int .i64 0), .lit (.int .i64 0), .lit (.bool false), .lit (.bool false)], .agg [.nil, .nil, .lit (.int .i64 0), .lit (.int .i64 0)]], [], places) :=
  ⟨[], by kernel_rfl⟩
set_option maxRecDepth 100000 in
theorem liftedUpto (os : Os) (started : os.Started) (H : Type) (enc : TypeId × Value → H) (F : Stop.Interp) :
    ReturnsInHanded {} Tryz.checked os 5 .any ((Rows.OpenSpec.upto Rows.paintListSpec).preRow enc Tryz.prog Tryz.f5 Rows.paintListUptoRow.domain false Rows.paintListUptoRow.laid) (((Rows.OpenSpec.upto Rows.paintListSpec).at F).post enc Tryz.prog Tryz.f5 false true false false) := by
  obtain ⟨places, hx⟩ := reads os enc
  refine returnsInHanded_of_row (C := Tryz.checked) (s := Rows.OpenSpec.upto Rows.paintListSpec) own started (by kernel_rfl) Tryz.func5
    (witness_row_at (enc := enc) (C := Tryz.checked) false (laidWorld os) #[.agg #[.slice none 0 0, .bool false], .slice none 0 0, .agg #[.int .i64 0, .int .i64 0, .bool false, .bool false], .agg #[.slice none 0 0, .slice none 0 0, .int .i64 0, .int .i64 0]] rfl (by kernel_rfl) (by kernel_rfl) (by kernel_rfl)
      (OpenSpec.preRow_of_cond 8 hx (by kernel_rfl) (fun k hk => by cases hk; kernel_rfl) (by kernel_rfl) (laid_met os))) ?_
  intro W base args ds gs before hval hW _ hcond hsz hL _ _
  exact contract H enc W base args ds gs before hval hW (hcond _ rfl) hL hsz
theorem saidUpto : Rows.PaintListUptoSaid :=
  OpenClaim.holds_of_cond 5 Tryz.f5 rfl rfl rfl rfl rfl rfl rfl ⟨rfl, rfl, rfl, rfl, rfl⟩ rfl rfl rfl rfl rfl (by kernel_rfl) Tryz.func5 (by kernel_rfl)
    (of_decide_eq_true (by kernel_rfl)) (by unfold Func.isWrapper; first | (rw [if_pos (by decide +kernel)]; kernel_rfl) | (rw [if_neg (by decide +kernel)]; exact ⟨rfl, rfl⟩))
    (fun os started H enc _ F => by rw [OpenClaim.pre_eq_preRow]; exact liftedUpto os started H enc F)
theorem plain (f : FuncId) (fn : Func) (hf : Tryz.pinned.checked.prog.funcNamed "clerestory/clerestorylaw3.PaintList" = some f) (hfn : Tryz.pinned.checked.prog.funcs[f]? = some fn) :
    false = Tryz.pinned.checked.prog.looks [] ∧ ∀ (j : Nat) t, fn.params[j]? = some t → Tryz.pinned.checked.prog.wantsStandIn t = false := by
  obtain rfl : f = 5 := Option.some.inj ((show Tryz.prog.funcNamed "clerestory/clerestorylaw3.PaintList" = some 5 by kernel_rfl).symm.trans hf) |>.symm
  obtain rfl : fn = Tryz.f5 := (Option.some.inj (Tryz.func5.symm.trans hfn)).symm
  refine ⟨by kernel_rfl, fun j t ht => ?_⟩
  rw [Tryz.params5] at ht
  have hm := Array.mem_of_getElem? ht
  simp only [List.mem_toArray, List.mem_cons, List.mem_nil_iff, or_false] at hm
  rcases hm with rfl | rfl | rfl | rfl
  · exact (show Tryz.prog.wantsStandIn 24 = false by kernel_rfl)
  · exact (show Tryz.prog.wantsStandIn 25 = false by kernel_rfl)
  · exact (show Tryz.prog.wantsStandIn 56 = false by kernel_rfl)
  · exact (show Tryz.prog.wantsStandIn 42 = false by kernel_rfl)
theorem proved : Rows.PaintListUptoCardSaid :=
  Claim7.holds_tied_plain_at .later [] _ _ _ _ saidUpto (fun _ h => by cases h) (by kernel_rfl) (fun _ h => by cases h) paintListUpto_row_tie rfl ⟨rfl, rfl⟩ (by kernel_rfl) rfl plain (by kernel_rfl)
#print axioms proved
end Go.Proofs.YtkmmlcnoeeaekaaGreatDoor.paintList
