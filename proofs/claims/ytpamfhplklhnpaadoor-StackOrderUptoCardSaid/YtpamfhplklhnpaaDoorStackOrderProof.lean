/- Proved: StackOrder returns true, and its arguments read as they did, where the arguments hold together at most 1048576 values and letters (the form '..UptoCardSaid'). The row lists the table of initial values; the card ties it to the program's text. No other condition. -/
import Derived.Test.YtpamfhplklhnpaaDoorCards
import Derived.Test.YtpamfhplklhnpaaDoorTie
import Derived.Test.YtpamfhplklhnpaaDoorOpenLay
import Derived.Test.YtpamfhplklhnpaaDoorStkLaw
import Derived.WalkKit
import Derived.ProofKit
import Derived.OpenShut
import Derived.ShutString
import Derived.ChangeOld
import Derived.Below
import Derived.SizedLaws
import Derived.Deep.DeepHandedRow
import Derived.Lib.LaidTab
namespace Go.Proofs.YtpamfhplklhnpaaDoor.stackOrder
open Go.ChangeShapes Go.WideShapes Go.ChangeAt Go.RowKit Go.Deep
open Go.ChangeMaps (open_string shut_string)
set_option linter.unusedVariables false

theorem own : ownKnob Tryd.prog.godebug = none := by kernel_rfl
theorem laidOut : laidOutB Tryd.prog = true := by kernel_rfl
theorem gTab : Tryd.prog.globalNamed "clerestory/style.initial" = some 0 := by kernel_rfl
theorem gTabType : (Tryd.prog.globals[0]?).map (·.type) = some 28 := by kernel_rfl
theorem fineTab : ((Rows.laid_clerestory_style_initial : DataW Unit).weights Tryd.prog 28).all (· ≤ reachBytes) = true := by kernel_rfl
theorem flatTab : flat Tryd.prog 6 28 = some (List.replicate 118 3) := by kernel_rfl
theorem intsTab : allInts Tryd.prog (List.replicate 118 3) = true := by kernel_rfl
/-- What the row's list gives: block 0 holds 118 ints. -/
theorem table {W : World} (h : laidMetH Tryd.prog Rows.stackOrderUptoRow.laid W) : ∃ tbl, TabAt W tbl ∧ In64 tbl := by
  have h' : laidMet Tryd.prog [("clerestory/style.initial", Rows.laid_clerestory_style_initial)] W := h
  obtain ⟨ps, ⟨g, t, cs, fuel, p, q, hg, ht, hvar, hd, _, _⟩, _⟩ := h'
  obtain rfl := Option.some.inj (gTab.symm.trans hg)
  obtain rfl := Option.some.inj (gTabType.symm.trans ht)
  have hfine : Fine Tryd.prog 28 (Rows.laid_clerestory_style_initial : DataW Unit) := fun n hn => by
    have := List.all_eq_true.1 fineTab n hn
    simpa using this
  obtain ⟨hl, hleaf⟩ := open_flat 6 28 _ fuel _ _ flatTab hd hfine
  obtain ⟨zs, h1, h2, hwz⟩ := ints_of_leaves intsTab hl hleaf
  simp only [List.length_replicate] at h1
  refine ⟨zs, ⟨h1, fun i hi => ?_⟩, fun z hz => bounds_i64 (hwz z hz)⟩
  have h3 := World.var?_cell gTab hvar i
  have hi' : i < zs.length := by omega
  rw [h3, show cs[i]? = cs.toList[i]? by simp, h2]
  simp [List.getD, hi']
theorem bulk_one {H : Type} (d : DataW H) : 1 ≤ Rows.uptoBulk d := by
  cases d with
  | lit l => cases l <;> simp [Rows.uptoBulk]
  | _ => simp [Rows.uptoBulk]
theorem bulk_len {H : Type} : ∀ ds : List (DataW H), ds.length ≤ Rows.uptoBulkAll ds
  | [] => by simp [Rows.uptoBulkAll]
  | d :: ds => by
    have := bulk_one d
    have := bulk_len ds
    simp [Rows.uptoBulkAll]; omega
theorem len_bulk {H : Type} {enc : TypeId × Value → H} {P : Program} {w : World} {base : Nat} {sp : Nat → Bool} {held : Bool} {T e : TypeId} {a : Option Addr} {len cap : Nat} {d : DataW H} {p : List MemPlace}
    (hu : P.underlying T = some (.slice e)) (h : DataW.Trod enc P w base sp held T (.slice a len cap) d p) : len ≤ Rows.uptoBulk d := by
  obtain ⟨m, h⟩ := h
  have h : DataW.trod enc P w base sp held m T [Value.slice a len cap] = some (d, p) := by simpa [Value.cells] using h
  rcases open_slice hu h with ⟨hc, _⟩ | ⟨a', len', cap', m', k, D, Pl, hc, hb, hl, hm, hmm, hx, hi⟩
  · simp at hc; omega
  · have hx2 := congrArg Prod.fst hx
    simp at hx2 hc
    rw [hx2]
    simp only [Rows.uptoBulk]
    have h1 := bulk_len ((List.range len').map D)
    simp only [List.length_map, List.length_range] at h1
    omega
set_option maxRecDepth 100000 in
theorem contract (H : Type) (enc : TypeId × Value → H) (W : World) (base : Nat) (args : Array Value) (ds gs : List (DataW H)) (before : List MemPlace)
    (hval : ∀ (j : Nat) t v, Tryd.f4.params[j]? = some t → args[j]? = some v → Value.okWide Tryd.prog W .any base t v)
    (hW : DataW.Whole enc Tryd.prog Tryd.f4.params.toList Rows.stackOrderSpec.vars false W args.toList ds gs before) (hk : Rows.uptoSmall H (ds ++ gs) = true) (hL : laidMetH Tryd.prog Rows.stackOrderUptoRow.laid W)
    (hsz : (DataW.weightsEach Tryd.prog (Tryd.f4.params.toList ++ Rows.stackOrderSpec.plain.varTypes Tryd.prog) (ds ++ gs)).all (· ≤ reachBytes) = true) :
    Calls Tryd.prog 4 args W fun e W' => ∃ v, e = .returned v ∧ Rows.stackOrderSpec.post enc Tryd.prog Tryd.f4 false true false false W args v W' := by
  have hW' := hW
  obtain ⟨p, q, hA0, hV, rfl, hfz, hnd⟩ := hW
  have hA : DataW.TrodAll enc Tryd.prog W 0 (fun _ => true) true Tryd.f4.params.toList args.toList ds p := hA0
  rw [Tryd.params4] at hA hval hsz
  obtain ⟨v0, vs0, d0, ds0, p0, q0, hargs, rfl, rfl, h0, r0⟩ := trodAll_cons hA
  obtain ⟨v1, vs1, d1, ds1, p1, q1, rfl, rfl, rfl, h1, r1⟩ := trodAll_cons r0
  obtain ⟨rfl, rfl, rfl⟩ := trodAll_nil r1
  obtain rfl : args = #[v0, v1] := by cases args; simp_all
  obtain ⟨rfl, rfl⟩ := trodVars_none hV
  have g0 := arg_of h0 (fine_of_each hsz (j := 0) rfl rfl)
  have k0 := h0
  have lt0 : ∀ x ∈ p0, x.block < W.heap.size := by obtain ⟨m, hm⟩ := k0; exact DataW.trod_lt m _ _ _ hm
  have g1 := arg_of h1 (fine_of_each hsz (j := 1) rfl rfl)
  have k1 := h1
  have lt1 : ∀ x ∈ p1, x.block < W.heap.size := by obtain ⟨m, hm⟩ := k1; exact DataW.trod_lt m _ _ _ hm
  obtain ⟨a0, len0, cap0, rfl⟩ := okWide_slice Tryd.underlying23 (hval 0 23 v0 rfl rfl)
  obtain ⟨z0, hz0, hh0, hr0, hc0, hm0, hw0⟩ := slice_ints (n := 6) (L := 118) Tryd.underlying23 (by kernel_rfl) (by kernel_rfl) (by decide) g0
  obtain ⟨cs, rfl⟩ := okWide_agg (by rw [Tryd.underlying45]) (hval 1 45 v1 rfl rfl)
  obtain ⟨c0, c1, c2, c3, rfl, ⟨mb, yb, tb, fb, kb⟩, ⟨mf, yf, tf, ff, kf⟩, lw, lh⟩ := open_four Tryd.underlying45 (by rfl) (by kernel_rfl) (by kernel_rfl) (by kernel_rfl) (by kernel_rfl) (by kernel_rfl) h1 (fine_of_each hsz (j := 1) rfl rfl)
  obtain ⟨W1, rfl, _⟩ := leaf_int Tryd.underlying3 lw
  obtain ⟨H1, rfl, _⟩ := leaf_int Tryd.underlying3 lh
  have lb : Leaf enc Tryd.prog W 0 (fun _ => true) true 22 c0 := ⟨mb, yb, tb, fb⟩
  have lf : Leaf enc Tryd.prog W 0 (fun _ => true) true 43 c1 := ⟨mf, yf, tf, ff⟩
  have fbx : flat Tryd.prog 6 37 = some [3, 3, 3, 35, 9] := by kernel_rfl
  have ffr : flat Tryd.prog 6 79 = some [3, 3, 3, 3, 3, 3, 3, 9] := by kernel_rfl
  obtain ⟨ab, lenb, capb, rfl⟩ := slice_val Tryd.underlying22 fbx (by kernel_rfl) lb
  obtain ⟨af, lenf, capf, rfl⟩ := slice_val Tryd.underlying43 ffr (by kernel_rfl) lf
  obtain ⟨bs, hbs, hbh, _⟩ := open_boxes (n := 6) (I := 3) (K := 35) (S := 9) Tryd.underlying22 fbx (by kernel_rfl) (by kernel_rfl) Tryd.underlying3 Tryd.underlying35 Tryd.underlying9 (by kernel_rfl) (by kernel_rfl) lb.arg
  obtain ⟨fs, hfs, hfh⟩ := open_frags (n := 6) (I := 3) (S := 9) Tryd.underlying43 ffr (by kernel_rfl) Tryd.underlying3 Tryd.underlying9 lf.arg
  have b0 := len_bulk Tryd.underlying23 h0
  have bb := len_bulk (d := yb.1) (p := yb.2) Tryd.underlying22 ⟨mb, by simpa [Value.cells] using tb⟩
  have bf := len_bulk (d := yf.1) (p := yf.2) Tryd.underlying43 ⟨mf, by simpa [Value.cells] using tf⟩
  have hk' := of_decide_eq_true hk
  simp only [List.append_nil, Rows.uptoBulkAll] at hk'
  obtain ⟨tbl, hT, hT64⟩ := table hL
  have hpos : 0 < W.heap.size := block_lt_of_cell (hT.2 0 (by decide))
  clear hA0
  refine (stackOrder_calls a0 len0 cap0 z0 tbl ab lenb capb bs af lenf capf fs W1 H1 W hz0 hbs hfs hbh hfh hh0 hT hpos (fun z hz => bounds_i64 (hw0 z hz)) hT64 (by omega) (by omega) (by omega)).mono fun e W' ⟨he, bel⟩ => ?_
  subst he
  exact ⟨_, rfl, _, _, _, [], _, [], hW', trodAll_mk1 (shut_bool Tryd.underlying4 _), (trodAll_cons_mk (Below.trod laidOut (by kernel_rfl) (of_decide_eq_true (by kernel_rfl)) k0 bel lt0) (trodAll_cons_mk (Below.trod laidOut (by kernel_rfl) (of_decide_eq_true (by kernel_rfl)) k1 bel lt1) trodAll_mk0)), rfl, bel.frame _, fun h => by cases h⟩

/-- A world for the witness: the settled one, the table holding what the row lists. -/
noncomputable def laidWorld (os : Os) : World :=
  { World.holding Tryd.prog os ⟨#[], #[], []⟩ with heap := (World.holding Tryd.prog os ⟨#[], #[], []⟩).heap.modify 0 fun
      | .cells _ t frozen => .cells #[.int .i64 1, .int .i64 1, .int .i64 1, .int .i64 0, .int .i64 1, .int .i64 0, .int .i64 1, .int .i64 0, .int .i64 1, .int .i64 0, .int .i64 6, .int .i64 0, .int .i64 6, .int .i64 0, .int .i64 6, .int .i64 0, .int .i64 6, .int .i64 0, .int .i64 6, .int .i64 0, .int .i64 6, .int .i64 0, .int .i64 2, .int .i64 0, .int .i64 2, .int .i64 0, .int .i64 2, .int .i64 0, .int .i64 2, .int .i64 0, .int .i64 2, .int .i64 0, .int .i64 2, .int .i64 0, .int .i64 2, .int .i64 0, .int .i64 2, .int .i64 0, .int .i64 2, .int .i64 0, .int .i64 2, .int .i64 0, .int .i64 2, .int .i64 0, .int .i64 2, .int .i64 0, .int .i64 5, .int .i64 255, .int .i64 5, .int .i64 255, .int .i64 5, .int .i64 255, .int .i64 5, .int .i64 255, .int .i64 6, .int .i64 0, .int .i64 6, .int .i64 0, .int .i64 6, .int .i64 0, .int .i64 6, .int .i64 0, .int .i64 6, .int .i64 0, .int .i64 1, .int .i64 0, .int .i64 1, .int .i64 0, .int .i64 4, .int .i64 1000, .int .i64 5, .int .i64 255, .int .i64 5, .int .i64 0, .int .i64 2, .int .i64 1024, .int .i64 6, .int .i64 0, .int .i64 1, .int .i64 0, .int .i64 2, .int .i64 0, .int .i64 1, .int .i64 0, .int .i64 1, .int .i64 0, .int .i64 1, .int .i64 0, .int .i64 6, .int .i64 0, .int .i64 1, .int .i64 0, .int .i64 1, .int .i64 0, .int .i64 1, .int .i64 0, .int .i64 1, .int .i64 6, .int .i64 6, .int .i64 0, .int .i64 4, .int .i64 0, .int .i64 4, .int .i64 1000, .int .i64 6, .int .i64 0, .int .i64 4, .int .i64 0, .int .i64 2, .int .i64 0, .int .i64 1, .int .i64 0, .int .i64 2, .int .i64 0, .int .i64 1, .int .i64 1, .int .i64 1, .int .i64 0] t frozen
      | o => o }
theorem laid_met (os : Os) : laidMet Tryd.prog Rows.stackOrderUptoRow.laid ((laidWorld os).forCall (fun _ _ => 0) ⟨#[], #[.slice none 0 0, .agg #[.slice none 0 0, .slice none 0 0, .int .i64 0, .int .i64 0]], []⟩).memory :=
  laidMet_of_run' 8 (by kernel_rfl) (by kernel_rfl)
theorem reads (os : Os) {H : Type} (enc : TypeId × Value → H) : ∃ places, DataW.whole enc Tryd.prog ((laidWorld os).forCall (fun _ _ => 0) ⟨#[], #[.slice none 0 0, .agg #[.slice none 0 0, .slice none 0 0, .int .i64 0, .int .i64 0]], []⟩).memory Tryd.f4.params.toList Rows.stackOrderSpec.vars false #[Value.slice none 0 0, .agg #[.slice none 0 0, .slice none 0 0, .int .i64 0, .int .i64 0]].toList 8 = some ([.nil, .agg [.nil, .nil, .lit (.int .i64 0), .lit (.int .i64 0)]], [], places) :=
  ⟨[], by kernel_rfl⟩
set_option maxRecDepth 100000 in
theorem liftedUpto (os : Os) (started : os.Started) (H : Type) (enc : TypeId × Value → H) (F : Stop.Interp) :
    ReturnsInHanded {} Tryd.checked os 4 .any ((Rows.OpenSpec.upto Rows.stackOrderSpec).preRow enc Tryd.prog Tryd.f4 Rows.stackOrderUptoRow.domain false Rows.stackOrderUptoRow.laid) (((Rows.OpenSpec.upto Rows.stackOrderSpec).at F).post enc Tryd.prog Tryd.f4 false true false false) := by
  obtain ⟨places, hx⟩ := reads os enc
  refine returnsInHanded_of_row (C := Tryd.checked) (s := Rows.OpenSpec.upto Rows.stackOrderSpec) own started (by kernel_rfl) Tryd.func4
    (witness_row_at (enc := enc) (C := Tryd.checked) false (laidWorld os) #[.slice none 0 0, .agg #[.slice none 0 0, .slice none 0 0, .int .i64 0, .int .i64 0]] rfl (by kernel_rfl) (by kernel_rfl) (by kernel_rfl)
      (OpenSpec.preRow_of_cond 8 hx (by kernel_rfl) (fun k hk => by cases hk; kernel_rfl) (by kernel_rfl) (laid_met os))) ?_
  intro W base args ds gs before hval hW _ hcond hsz hL _ _
  exact contract H enc W base args ds gs before hval hW (hcond _ rfl) hL hsz
theorem saidUpto : Rows.StackOrderUptoSaid :=
  OpenClaim.holds_of_cond 4 Tryd.f4 rfl rfl rfl rfl rfl rfl rfl ⟨rfl, rfl, rfl, rfl, rfl⟩ rfl rfl rfl rfl rfl (by kernel_rfl) Tryd.func4 (by kernel_rfl)
    (of_decide_eq_true (by kernel_rfl)) (by unfold Func.isWrapper; first | (rw [if_pos (by decide +kernel)]; kernel_rfl) | (rw [if_neg (by decide +kernel)]; exact ⟨rfl, rfl⟩))
    (fun os started H enc _ F => by rw [OpenClaim.pre_eq_preRow]; exact liftedUpto os started H enc F)
theorem plain (f : FuncId) (fn : Func) (hf : Tryd.pinned.checked.prog.funcNamed "clerestory/clerestorylaw3.StackOrder" = some f) (hfn : Tryd.pinned.checked.prog.funcs[f]? = some fn) :
    false = Tryd.pinned.checked.prog.looks [] ∧ ∀ (j : Nat) t, fn.params[j]? = some t → Tryd.pinned.checked.prog.wantsStandIn t = false := by
  obtain rfl : f = 4 := Option.some.inj ((show Tryd.prog.funcNamed "clerestory/clerestorylaw3.StackOrder" = some 4 by kernel_rfl).symm.trans hf) |>.symm
  obtain rfl : fn = Tryd.f4 := (Option.some.inj (Tryd.func4.symm.trans hfn)).symm
  refine ⟨by kernel_rfl, fun j t ht => ?_⟩
  rw [Tryd.params4] at ht
  have hm := Array.mem_of_getElem? ht
  simp only [List.mem_toArray, List.mem_cons, List.mem_nil_iff, or_false] at hm
  rcases hm with rfl | rfl
  · exact (show Tryd.prog.wantsStandIn 23 = false by kernel_rfl)
  · exact (show Tryd.prog.wantsStandIn 45 = false by kernel_rfl)
theorem proved : Rows.StackOrderUptoCardSaid :=
  Claim7.holds_tied_plain_at .later [] _ _ _ _ saidUpto (fun _ h => by cases h) (by kernel_rfl) (fun _ h => by cases h) stackOrderUpto_row_tie rfl ⟨rfl, rfl⟩ (by kernel_rfl) rfl plain (by kernel_rfl)
#print axioms proved
end Go.Proofs.YtpamfhplklhnpaaDoor.stackOrder
