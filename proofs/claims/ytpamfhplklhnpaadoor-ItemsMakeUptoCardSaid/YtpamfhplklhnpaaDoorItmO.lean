/- Contracts of the reference's Items (from that of its closure) and of its Eq at items. -/
import Derived.Test.YtpamfhplklhnpaaDoorItmP
import Derived.Test.YtpamfhplklhnpaaDoorItmK
import Derived.Test.YtpamfhplklhnpaaDoorItmPlain
import Derived.Test.YtpamfhplklhnpaaDoorStkG
import Derived.Deep.QuietTactic
import Derived.BigQuiet
import Derived.Laws.StructEq
namespace Go.Proofs.YtpamfhplklhnpaaDoor
open Go.RowKit
set_option linter.unusedVariables false
set_option linter.unusedSimpArgs false

theorem run_store_func {P : Program} {w : World} {a : Addr} {m : Mode} (f : Fn) (x c : Array Value) : (store a (.func f x c) m).run P w = stored P w a (.func f x c) m := run_store P w a _ m rfl
attribute [local go_sem] run_store_func
theorem six_laid (w : World) (c0 c1 c2 c3 c4 c5 : Array Value) (t0 t1 t2 t3 t4 t5 : TypeId) :
    ∃ w6, ((((((w.alloc (.cells c0 t0)).alloc (.cells c1 t1)).alloc (.cells c2 t2)).alloc (.cells c3 t3)).alloc (.cells c4 t4)).alloc (.cells c5 t5)) = w6 ∧
      Blk w6 w.heap.size t0 c0 ∧ Blk w6 (w.heap.size + 1) t1 c1 ∧ Blk w6 (w.heap.size + 1 + 1) t2 c2 ∧ Blk w6 (w.heap.size + 1 + 1 + 1) t3 c3 ∧ Blk w6 (w.heap.size + 1 + 1 + 1 + 1) t4 c4 ∧ Blk w6 (w.heap.size + 1 + 1 + 1 + 1 + 1) t5 c5 ∧ Below w.heap.size w w6 := by
  have b0 := Blk.new w t0 c0
  have b1 := Blk.new (w.alloc (.cells c0 t0)) t1 c1
  have b2 := Blk.new ((w.alloc (.cells c0 t0)).alloc (.cells c1 t1)) t2 c2
  have b3 := Blk.new (((w.alloc (.cells c0 t0)).alloc (.cells c1 t1)).alloc (.cells c2 t2)) t3 c3
  have b4 := Blk.new ((((w.alloc (.cells c0 t0)).alloc (.cells c1 t1)).alloc (.cells c2 t2)).alloc (.cells c3 t3)) t4 c4
  have b5 := Blk.new (((((w.alloc (.cells c0 t0)).alloc (.cells c1 t1)).alloc (.cells c2 t2)).alloc (.cells c3 t3)).alloc (.cells c4 t4)) t5 c5
  simp only [alloc_size] at b1 b2 b3 b4 b5
  exact ⟨_, rfl, ((((b0.alloc _).alloc _).alloc _).alloc _).alloc _, (((b1.alloc _).alloc _).alloc _).alloc _, ((b2.alloc _).alloc _).alloc _, (b3.alloc _).alloc _, b4.alloc _, b5, below_alloc (below_alloc (below_alloc (below_alloc (below_alloc (below_alloc (Below.refl _ _) _) _) _) _) _) _⟩
set_option maxRecDepth 1000000 in
set_option maxHeartbeats 4000000 in
theorem ritems_of (M : MkV) (k : Nat) (w : World) (hI : ∀ (B : Nat) (G : GR) (u : Nat), ItemsC M B G u) (hM : MOk M) (hk : k < M.nb) (ht : textAll M.bs ≤ 1048576) (hb : Boxes w w.heap.size M.Ab M.bs) (hL : Holds w w.heap.size M.Al (ints M.lz)) :
    Calls Tryd.prog 11 #[.slice M.Ab M.nb M.cb, .slice M.Al M.nl M.cl, .int .i64 (k : Nat), .int .i64 M.room] w fun e w' => ∃ A c, e = .returned (.slice A (itemsL M k).length c) ∧ Below w.heap.size w w' ∧ w'.ownsRow w.heap.size 40 11 (.slice A (itemsL M k).length c) (itemsL M k).length (items (itemsL M k)) := by
  obtain ⟨w6, hw6, b0, b1, b2, b3, b4, b5, hbw⟩ := six_laid w #[.slice M.Ab M.nb M.cb] #[.slice M.Al M.nl M.cl] #[.int .i64 M.room] #[.slice none 0 0] #[.bool true] #[.nilFunc] 22 23 3 30 4 64
  have hst : WSt M w.heap.size ⟨w.heap.size, w.heap.size + 1, w.heap.size + 1 + 1, w.heap.size + 1 + 1 + 1, w.heap.size + 1 + 1 + 1 + 1 + 1, w.heap.size + 1 + 1 + 1 + 1⟩ true (.slice none 0 0) [] (w6.setCell ⟨w.heap.size + 1 + 1 + 1 + 1 + 1, 0, none⟩ (.func (.func 27) #[] #[.pointer (some ⟨w.heap.size, 0, none⟩), .pointer (some ⟨w.heap.size + 1, 0, none⟩), .pointer (some ⟨w.heap.size + 1 + 1, 0, none⟩), .pointer (some ⟨w.heap.size + 1 + 1 + 1, 0, none⟩), .pointer (some ⟨w.heap.size + 1 + 1 + 1 + 1 + 1, 0, none⟩), .pointer (some ⟨w.heap.size + 1 + 1 + 1 + 1, 0, none⟩)])) := by
    have hbs := below_set hbw (b := w.heap.size + 1 + 1 + 1 + 1 + 1) (off := 0) (by omega) (.func (.func 27) #[] #[.pointer (some ⟨w.heap.size, 0, none⟩), .pointer (some ⟨w.heap.size + 1, 0, none⟩), .pointer (some ⟨w.heap.size + 1 + 1, 0, none⟩), .pointer (some ⟨w.heap.size + 1 + 1 + 1, 0, none⟩), .pointer (some ⟨w.heap.size + 1 + 1 + 1 + 1 + 1, 0, none⟩), .pointer (some ⟨w.heap.size + 1 + 1 + 1 + 1, 0, none⟩)])
    refine ⟨b0.far (show w.heap.size ≠ w.heap.size + 1 + 1 + 1 + 1 + 1 by omega) _, b1.far (show w.heap.size + 1 ≠ w.heap.size + 1 + 1 + 1 + 1 + 1 by omega) _, b2.far (show w.heap.size + 1 + 1 ≠ w.heap.size + 1 + 1 + 1 + 1 + 1 by omega) _, b3.far (show w.heap.size + 1 + 1 + 1 ≠ w.heap.size + 1 + 1 + 1 + 1 + 1 by omega) _, b5.stored 0 _, b4.far (show w.heap.size + 1 + 1 + 1 + 1 ≠ w.heap.size + 1 + 1 + 1 + 1 + 1 by omega) _, World.ownsRow_nil _ _ _ _, hb.below hbs (Nat.le_refl _), hL.below hbs (Nat.le_refl _), hbs.size, ?_⟩
    show w.heap.size ≤ w.heap.size + 1 + 1 + 1 ∧ w.heap.size ≤ w.heap.size + 1 + 1 + 1 + 1
    omega
  have hbs : Below w.heap.size w (w6.setCell ⟨w.heap.size + 1 + 1 + 1 + 1 + 1, 0, none⟩ (.func (.func 27) #[] #[.pointer (some ⟨w.heap.size, 0, none⟩), .pointer (some ⟨w.heap.size + 1, 0, none⟩), .pointer (some ⟨w.heap.size + 1 + 1, 0, none⟩), .pointer (some ⟨w.heap.size + 1 + 1 + 1, 0, none⟩), .pointer (some ⟨w.heap.size + 1 + 1 + 1 + 1 + 1, 0, none⟩), .pointer (some ⟨w.heap.size + 1 + 1 + 1 + 1, 0, none⟩)])) :=
    below_set hbw (b := w.heap.size + 1 + 1 + 1 + 1 + 1) (off := 0) (by omega) _
  have hcall := hI w.heap.size ⟨w.heap.size, w.heap.size + 1, w.heap.size + 1 + 1, w.heap.size + 1 + 1 + 1, w.heap.size + 1 + 1 + 1 + 1 + 1, w.heap.size + 1 + 1 + 1 + 1⟩ M.nb k true (.slice none 0 0) [] _ hst hk (by omega) (by rw [List.length_nil, Nat.zero_add]; exact cost_kids hM ht hk)
  have s5 : w6.cell? ⟨w.heap.size + 1 + 1 + 1 + 1 + 1, 0, none⟩ = some .nilFunc := b5.cell 0
  have z5 : w6.frozen? ⟨w.heap.size + 1 + 1 + 1 + 1 + 1, 0, none⟩ = false := b5.free 0
  have HCALL := Lib.hid hcall
  have HST := Lib.hid hst
  have HBS := Lib.hid hbs
  have HW6 := Lib.hid hw6
  clear hcall hst hbs hw6 hI hb hL b0 b1 b2 b3 b4 b5 hbw
  go_enter Tryd.func11, Tryd.ntmps11
  go_upto_region 4 with fail
  rw [HW6.out]
  go_upto_region 5 with fail
  clear s5 z5
  have s5 := HST.out.bW.cell' 0 rfl
  unfold GR.caps at s5
  generalize World.setCell w6 _ _ = w7 at HCALL HST HBS s5 ⊢
  go_upto_region 6 with (go_at_call 27; refine HCALL.out.mono ?_; rintro e w8 ⟨rfl, v8, hm8, hf8, -⟩; obtain ⟨A8, c8, rfl⟩ := own_open hm8.own; have HM8 := Lib.hid hm8; have HF8 := Lib.hid hf8; have s8 : w8.cell? ⟨w.heap.size + 1 + 1 + 1, 0, none⟩ = some (.slice A8 _ c8) := hm8.bO.cell 0; clear hm8 hf8)
  go_wp2_with fail
  go_ret
  refine ⟨A8, c8, rfl, HBS.out.trans (HST.out.under HF8.out), ?_⟩
  have := HM8.out.own
  simpa [itemsL] using this
end Go.Proofs.YtpamfhplklhnpaaDoor

namespace Go.Proofs.YtpamfhplklhnpaaDoor
open Go.RowKit
set_option linter.unusedVariables false
set_option linter.unusedSimpArgs false

set_option maxRecDepth 100000 in
set_option maxHeartbeats 4000000 in
theorem eqItem_calls (A A' : Option Addr) (n c c' B B' : Nat) (l : List ItemV) (w : World) (hn : l.length = n) (h : Holds w B A (items l)) (h' : Holds w B' A' (items l)) (hm : n ≤ 9223372036854775807) (hB : B ≤ w.heap.size) (hB' : B' ≤ w.heap.size) :
    Calls Tryd.prog 10 #[.slice A n c, .slice A' n c'] w fun e w' => e = .returned (.bool true) ∧ Below w.heap.size w w' := by
  have H := Lib.hid h
  have H' := Lib.hid h'
  have HN := Lib.hid hn
  clear h h' hn
  go_enter Tryd.func10, Tryd.ntmps10
  go_wp2_with fail
  go_loopw [14] (fun i wr => ∃ k : Nat, k ≤ n ∧ i = .int .i64 k ∧ Below w.heap.size w wr) (fun i _ => n - (intOf i).toNat)
  case atStart => exact ⟨0, Nat.zero_le _, rfl, Below.refl _ _⟩
  case round =>
    obtain ⟨k, hk, rfl, hbel⟩ := hrel
    by_cases hlt : k < n
    · obtain ⟨b, off, rfl, hb, hc⟩ := Holds.flatL (f := itemF) (H.out.below hbel hB) 11 (fun _ => rfl) (by decide) ItemV.zero (by rw [HN.out]; exact hlt)
      obtain ⟨b', off', rfl, hb', hc'⟩ := Holds.flatL (f := itemF) (H'.out.below hbel hB') 11 (fun _ => rfl) (by decide) ItemV.zero (by rw [HN.out]; exact hlt)
      obtain ⟨⟨x0, x1, x2, x3, x4, x5, x6, x7, x8, x9, x10⟩, hx⟩ : ∃ x, x = l.getD k ItemV.zero := ⟨_, rfl⟩
      rw [← hx] at hc hc'
      have c0 := hc 0 _ rfl
      have c1 := hc 1 _ rfl
      have c2 := hc 2 _ rfl
      have c3 := hc 3 _ rfl
      have c4 := hc 4 _ rfl
      have c5 := hc 5 _ rfl
      have c6 := hc 6 _ rfl
      have c7 := hc 7 _ rfl
      have c8 := hc 8 _ rfl
      have c9 := hc 9 _ rfl
      have c10 := hc 10 _ rfl
      have hw := hbel.size
      have HC' := Lib.hid hc'
      clear hc hc' hx
      simp only [Nat.add_zero] at c0
      have KK := Lib.hid (show k ≤ n ∧ k < n from ⟨hk, hlt⟩)
      go_wp2_with fail
      have hb1 := (Below.refl wr.heap.size wr).alloc (Nat.le_refl _) (.cells #[.int .i64 x0, .int .i64 x1, .string x2, .int .i64 x3, .int .i64 x4, .int .i64 x5, .int .i64 x6, .int .i64 x7, .int .i64 x8, .int .i64 x9, .int .i64 x10] 40)
      have hB2 := Blk.new wr 40 #[.int .i64 x0, .int .i64 x1, .string x2, .int .i64 x3, .int .i64 x4, .int .i64 x5, .int .i64 x6, .int .i64 x7, .int .i64 x8, .int .i64 x9, .int .i64 x10]
      have hd : ∀ j v, (itemF ⟨x0, x1, x2, x3, x4, x5, x6, x7, x8, x9, x10⟩)[j]? = some v → (wr.alloc (.cells #[.int .i64 x0, .int .i64 x1, .string x2, .int .i64 x3, .int .i64 x4, .int .i64 x5, .int .i64 x6, .int .i64 x7, .int .i64 x8, .int .i64 x9, .int .i64 x10] 40)).cell? ⟨b', off' + k * 11 + j, none⟩ = some v := fun j v hj => (hb1.cell (p := ⟨b', off' + k * 11 + j, none⟩) (by show b' < _; omega)).trans (HC'.out j v hj)
      have hbel := below_alloc hbel (.cells #[.int .i64 x0, .int .i64 x1, .string x2, .int .i64 x3, .int .i64 x4, .int .i64 x5, .int .i64 x6, .int .i64 x7, .int .i64 x8, .int .i64 x9, .int .i64 x10] 40)
      clear hb1 c0 c1 c2 c3 c4 c5 c6 c7 c8 c9 c10 HC'
      generalize hW2 : World.alloc wr _ = w2 at hd hB2 hbel ⊢
      have e0 := hd 0 _ rfl
      have e1 := hd 1 _ rfl
      have e2 := hd 2 _ rfl
      have e3 := hd 3 _ rfl
      have e4 := hd 4 _ rfl
      have e5 := hd 5 _ rfl
      have e6 := hd 6 _ rfl
      have e7 := hd 7 _ rfl
      have e8 := hd 8 _ rfl
      have e9 := hd 9 _ rfl
      have e10 := hd 10 _ rfl
      have f0 : w2.cell? ⟨wr.heap.size, 0, none⟩ = some (.int .i64 x0) := hB2.cell 0
      have f1 : w2.cell? ⟨wr.heap.size, 1, none⟩ = some (.int .i64 x1) := hB2.cell 1
      have f2 : w2.cell? ⟨wr.heap.size, 2, none⟩ = some (.string x2) := hB2.cell 2
      have f3 : w2.cell? ⟨wr.heap.size, 3, none⟩ = some (.int .i64 x3) := hB2.cell 3
      have f4 : w2.cell? ⟨wr.heap.size, 4, none⟩ = some (.int .i64 x4) := hB2.cell 4
      have f5 : w2.cell? ⟨wr.heap.size, 5, none⟩ = some (.int .i64 x5) := hB2.cell 5
      have f6 : w2.cell? ⟨wr.heap.size, 6, none⟩ = some (.int .i64 x6) := hB2.cell 6
      have f7 : w2.cell? ⟨wr.heap.size, 7, none⟩ = some (.int .i64 x7) := hB2.cell 7
      have f8 : w2.cell? ⟨wr.heap.size, 8, none⟩ = some (.int .i64 x8) := hB2.cell 8
      have f9 : w2.cell? ⟨wr.heap.size, 9, none⟩ = some (.int .i64 x9) := hB2.cell 9
      have f10 : w2.cell? ⟨wr.heap.size, 10, none⟩ = some (.int .i64 x10) := hB2.cell 10
      simp only [Nat.add_zero] at e0
      clear hd hB2
      go_quiet (fail)
      go_wp2_with fail
      go_roundw
      case rel => exact ⟨k + 1, by have := KK.out; omega, by go_num, below_drewN hbel _⟩
      case measure => have := KK.out; simp [intOf]; omega
    · go_wp2_with fail
      go_ret
      exact ⟨rfl, hbel⟩
end Go.Proofs.YtpamfhplklhnpaaDoor
