/- The closed fact lined: slices.Backward of a group of one part. -/
import Derived.Test.YtabbpdlnlibngaaLinE
import Derived.RangeFuncNested
import Derived.RangeFuncBound
import Derived.RangeFuncCalls
import Derived.RangeFuncBox
import Derived.RangeFuncLeaves
import Derived.Shelf.Abstract
import Derived.Shelf.RegionOpen
import Derived.OwnWalkIn
import Derived.TacticsInMore
import Derived.LoopNIn
import Derived.LoopIn
namespace Go.Proofs.Ytabbpdlnlibngaa
open Go.RowKit Go.Shelf
set_option linter.unusedVariables false
set_option linter.unusedSimpArgs false
attribute [local go_sem] Oper.semAt_some

set_option maxRecDepth 100000 in
set_option maxHeartbeats 2000000 in
theorem back1_in (F : Fence) (n : Nat) (hf : F.fn 57) (hro : F.round = none) (hn : 1 ≤ n) (l Bs n₀ b o c gL : Nat) (t : ByteArray) (wd : Int) (last : Bool) (J Jx : List Unit → World → Prop)
    (hY : ∀ pre x W, J pre W → pre.length < 1 → YieldAt F (n - 1) Try.prog l #[.int .i64 0, .agg #[.pointer (some ⟨gL, 0, none⟩), .int .i64 0, .string t, .int .i64 wd, .bool last]] W fun e W' =>
      (e = .returned (.bool true) ∧ J (pre ++ [x]) W' ∧ RowKit.Below n₀ W W') ∨ (e = .returned (.bool false) ∧ Jx (pre ++ [x]) W'))
    (W : World) (hBs : W.cell? ⟨Bs, 0, none⟩ = some (.slice (some ⟨b, o, none⟩) 1 c)) (hP : PartAt W b o gL t wd last) (h0 : J [] W) :
    CallsIn F n Try.prog 57 #[.func (.yield l) #[] #[], .pointer (some ⟨Bs, 0, none⟩)] W fun e W' => (∃ v, e = .returned v) ∧
      ((∃ ys, ys = [()] ∧ J ys W') ∨ (∃ pre, pre = [()] ∧ Jx pre W')) := by
  obtain ⟨c0, c1, c2, c3, c4, hlt⟩ := hP
  obtain ⟨fn, tmps, assign, body, hy, hR⟩ := hY [] () W h0 (by simp)
  refine callsIn_of_wp Try.func57 rfl hf ?_ hro
  simp only [Try.ntmps57, List.size_toArray, List.length_cons, List.length_nil, Nat.reduceAdd, Nat.reduceSub, Array.replicate_succ, Array.replicate_zero, List.push_toArray, List.append_toArray, List.nil_append, List.cons_append]
  gi_wp2
  gi_loopw [3] (fun i wr => (i = .int .i64 0 ∧ wr = W) ∨ (i = .int .i64 (-1) ∧ J [()] wr)) (fun i _ => (intOf i + 1).toNat)
  case atStart => exact .inl ⟨rfl, rfl⟩
  case round =>
    rcases hrel with ⟨rfl, hwr⟩ | ⟨rfl, hJ⟩
    · obtain rfl := hwr.symm
      gi_wp2
      refine hR.mono ?_
      rintro e W3 (⟨rfl, hJ3, hk3⟩ | ⟨rfl, hJx3⟩)
      · gi_wp2
        go_roundw
        case rel => exact .inr ⟨rfl, hJ3⟩
        case measure => simp [intOf]
      · gi_wp2
        refine bodyPost_ret (results_none rfl _ _ _) rfl ?_
        exact ⟨⟨_, rfl⟩, .inr ⟨_, rfl, hJx3⟩⟩
    · gi_wp2
      go_end0
      exact ⟨⟨_, rfl⟩, .inl ⟨_, rfl, hJ⟩⟩
set_option maxHeartbeats 1000000 in
theorem backward_in (F : Fence) (n : Nat) (hf : F.fn 44) (hro : F.round = none) (a : Option Addr) (k c : Nat) (w : World) :
    CallsIn F n Try.prog 44 #[.slice a k c] w fun e w' => e = .returned (.func (.func 57) #[] #[.pointer (some ⟨w.heap.size, 0, none⟩)]) ∧ w' = w.alloc (.cells #[.slice a k c] 41) := by
  refine callsIn_of_wp Try.func44 rfl hf ?_ hro
  simp only [Try.ntmps44, List.size_toArray, List.length_cons, List.length_nil, Nat.reduceAdd, Nat.reduceSub, Array.replicate_succ, Array.replicate_zero, List.push_toArray, List.append_toArray, List.nil_append, List.cons_append]
  gi_wp2
  go_ret
  exact ⟨rfl, rfl⟩
theorem own_blkF (B : Nat) (g : Nat) (T : TypeId) (cs : Array Value) {β : Type} : OwnFrom B (fun (_ : β) W => Blk W g T cs) := fun s X Y row hs hg hr =>
  (hg.block g hs.lt (fun e => by
    obtain ⟨_, o, ho, hc⟩ := hr g e.symm
    have h1 : X.heap[g]? = some (.cells cs T (0, 0)) := hs
    rw [h1] at ho
    injection ho with ho
    subst ho
    cases hc)).trans hs
theorem back_stops (F : Fence) (n : Nat) (hf : F.fn 57) (hro : F.round = none) (hn : 1 ≤ n) (Bs n₀ b o c gL : Nat) (t : ByteArray) (wd : Int) (last : Bool) (w : World) (hB : Bs < w.heap.size)
    (hBs : w.cell? ⟨Bs, 0, none⟩ = some (.slice (some ⟨b, o, none⟩) 1 c)) (hP : PartAt w b o gL t wd last) :
    SeqStopsK F n Try.prog 57 #[.pointer (some ⟨Bs, 0, none⟩)] (fun _ : Unit => #[.int .i64 0, .agg #[.pointer (some ⟨gL, 0, none⟩), .int .i64 0, .string t, .int .i64 wd, .bool last]]) (RowKit.Below n₀) (fun ys => ys = [()]) (fun pre => pre = [()]) 1 w := fun l J Jx W hW _ _ hY h0 =>
  back1_in F n hf hro hn l Bs n₀ b o c gL t wd last J Jx hY W ((hW.cell (p := ⟨Bs, 0, none⟩) hB).trans hBs) (hP.below hW) h0
set_option maxRecDepth 100000 in
set_option maxHeartbeats 4000000 in
theorem tail1_calls (b o c gL : Nat) (t : ByteArray) (wd : Int) (last : Bool) (tl : Int) (w : World) (h : PartAt w b o gL t wd last) (hI : Blk w gL 28 itemC)
    (hT : ∀ X, Blk X gL 28 itemC → Calls Try.prog 45 #[.agg #[.pointer (some ⟨gL, 0, none⟩), .int .i64 0, .string t, .int .i64 wd, .bool last]] X fun e w' => e = .returned (.int .i64 tl) ∧ RowKit.Below X.heap.size X w') :
    Calls Try.prog 31 #[.slice (some ⟨b, o, none⟩) 1 c] w fun e w' => e = .returned (.int .i64 tl) ∧ RowKit.Below w.heap.size w w' := by
  refine (callsIn_wide (n := 4)).1 ?_
  refine callsIn_of_wp_marks Try.func31 rfl trivial ?_ rfl
  simp only [Try.ntmps31, List.size_toArray, List.length_cons, List.length_nil, Nat.reduceAdd, Nat.reduceSub, Array.replicate_succ, Array.replicate_zero, List.push_toArray, List.append_toArray, List.nil_append, List.cons_append]
  gi_wp2_with (refine ⟨trivial, ?_⟩; gi_at_call 44; refine (backward_in _ _ trivial rfl _ _ _ _).mono ?_; rintro e w' ⟨rfl, rfl⟩)
  have bR := (Blk.new w 3 #[.int .i64 0]).alloc (.cells #[.slice (some ⟨b, o, none⟩) 1 c] 41)
  have bG := Blk.new (w.alloc (.cells #[.int .i64 0] 3)) 41 #[.slice (some ⟨b, o, none⟩) 1 c]
  rw [alloc_size] at bG
  have hB0 : RowKit.Below w.heap.size w ((w.alloc (.cells #[.int .i64 0] 3)).alloc (.cells #[.slice (some ⟨b, o, none⟩) 1 c] 41)) := below_alloc (below_alloc (Below.refl _ _) _) _
  have hsz : ((w.alloc (.cells #[.int .i64 0] 3)).alloc (.cells #[.slice (some ⟨b, o, none⟩) 1 c] 41)).heap.size = w.heap.size + 1 + 1 := by rw [alloc_size, alloc_size]
  have hgl := hI.lt
  have hpl := h.lt
  obtain ⟨W0, hW0⟩ : ∃ W0, (w.alloc (.cells #[.int .i64 0] 3)).alloc (.cells #[.slice (some ⟨b, o, none⟩) 1 c] 41) = W0 := ⟨_, rfl⟩
  rw [hW0] at bR bG hB0 hsz ⊢
  clear hW0
  have h1 := h.below hB0
  refine wpIn_rangeFunc_ownH rfl (by omega) (gf := 57) (lb := #[.pointer (some ⟨w.heap.size + 1, 0, none⟩)]) rfl trivial (enters_of Try.func57 (by kernel_rfl) rfl)
    (back_stops _ _ trivial rfl (by omega) (w.heap.size + 1) w.heap.size b o c gL t wd last W0 (by omega) (bG.cell 0) h1) belowK_t (belowK_b (by omega)) (Below.refl _ _) (fun _ => rfl)
    (fun pre W => pre = [] ∧ (Blk W w.heap.size 3 #[.int .i64 0] ∧ RowKit.Below w.heap.size w W))
    (fun cc pre W => cc = .ret ∧ (Blk W w.heap.size 3 #[.int .i64 tl] ∧ RowKit.Below w.heap.size w W))
    (OwnFrom.and (ownFrom_pure _ _) (OwnFrom.and (own_blkF _ _ _ _) (ownFrom_below (Nat.le_refl _) (by omega))))
    (fun cc => OwnFrom.and (ownFrom_pure _ _) (OwnFrom.and (own_blkF _ _ _ _) (ownFrom_below (Nat.le_refl _) (by omega))))
    ⟨rfl, bR, hB0⟩
    (fun x a' W => ∃ Bx, w.heap.size < Bx ∧ Blk W Bx 54 #[.pointer (some ⟨gL, 0, none⟩), .int .i64 0, .string t, .int .i64 wd, .bool last] ∧ a' = { tmps := #[.slice (some ⟨b, o, none⟩) 1 c, undef, .pointer (some ⟨w.heap.size, 0, none⟩), undef, .pointer (some ⟨Bx, 0, none⟩), .slice (some ⟨b, o, none⟩) 1 c, .func (.func 57) #[] #[.pointer (some ⟨w.heap.size + 1, 0, none⟩)], .int .i64 0, .agg #[.pointer (some ⟨gL, 0, none⟩), .int .i64 0, .string t, .int .i64 wd, .bool last], undef, undef, undef, undef, undef, undef, undef, undef, undef, undef, undef], defers := [] })
    (fun x a' _ X Y row hs hg hr => by obtain ⟨Bx, h1, h2, h3⟩ := hs; exact ⟨Bx, h1, own_blkF _ Bx _ _ () X Y row h2 hg hr, h3⟩)
    ?assign ?body ?done ?stop
  case assign =>
    rintro l pre x W K ⟨hpre, bR1, hB1⟩ hK
    gi_wp2
    exact hK _ _ ((KeepsOthers.alloc _ _).from _) ((Below.refl _ W).alloc hB1.size _) ⟨hpre, bR1.alloc _, hB1.alloc hB1.size _⟩ ⟨W.heap.size, bR1.lt, Blk.new W _ _, rfl⟩
  case body =>
    rintro l pre x a' W hl ⟨r, hr⟩ ⟨hpre, bR1, hB1⟩ ⟨Bx, hBx, bX, rfl⟩ hlt
    have hI1 : Blk W gL 28 itemC := hI.below hB1 hgl
    have k0 : W.cell? ⟨gL, 0, none⟩ = some (.int .i64 1) := hI1.cell 0
    have x0 : W.cell? ⟨Bx, 0, none⟩ = some (.pointer (some ⟨gL, 0, none⟩)) := bX.cell 0
    have x1 : W.cell? ⟨Bx, 1, none⟩ = some (.int .i64 0) := bX.cell 1
    have x2 : W.cell? ⟨Bx, 2, none⟩ = some (.string t) := bX.cell 2
    have x3 : W.cell? ⟨Bx, 3, none⟩ = some (.int .i64 wd) := bX.cell 3
    have x4 : W.cell? ⟨Bx, 4, none⟩ = some (.bool last) := bX.cell 4
    gi_wp2_with (refine ⟨trivial, ?_⟩; gi_at_call 45; refine (CallsIn.inRound l (callsIn_wide.2 (hT _ hI1))).mono ?_; rintro e w' ⟨rfl, hbT⟩; have bR2 := bR1.below hbT bR1.lt; have r0 : w'.cell? ⟨w.heap.size, 0, none⟩ = some (.int .i64 0) := bR2.cell 0; have rf : w'.frozen? ⟨w.heap.size, 0, none⟩ = false := bR2.free 0)
    refine ⟨(KeepsFrom.of_grownBy (row := none) (grow_below hbT none) (fun j e => by cases e)).trans ((KeepsOthers.setCell _ _ _).from _), rfl, bR2.stored 0 _, below_set (below_then hB1 hbT) (Nat.le_refl _) _⟩
  case done =>
    rintro D xs W hD rfl ⟨hne, _⟩ hK
    cases hne
  case stop =>
    rintro D cc pre W hD rfl ⟨rfl, bR1, hB1⟩ hK
    have hcr : W.cell? ⟨w.heap.size, 0, none⟩ = some (.int .i64 tl) := bR1.cell 0
    gi_wp2
    refine ⟨by simp, .inl ⟨_, _, rfl, run_takeDeferred hK, ?_⟩⟩
    have hc5 := cell_kept hcr (grownBy_putObj' _ D (.deferred none)) (fun r e => by cases e; exact ⟨_, hK, rfl⟩)
    refine ⟨.int .i64 tl, ?_, rfl, hB1.trans (belowK_b (w := w) (Nat.le_refl _) W D _ _ (by omega) hK rfl rfl)⟩
    simp [results, Try.f31, go_sem, hc5]
end Go.Proofs.Ytabbpdlnlibngaa
