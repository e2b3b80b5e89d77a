/- Contracts of the reference's Tell and Stack. -/
import Derived.Test.YtpamfhplklhnpaaDoorStkI
namespace Go.Proofs.YtpamfhplklhnpaaDoor
open Go.RowKit
set_option linter.unusedVariables false
set_option linter.unusedSimpArgs false

theorem rtell_calls (L : LayV) (B gS : Nat) : ∀ u, TellSays L B gS u
  | 0 => fun f v xs w hT hf _ hn _ => absurd hn (by omega)
  | u + 1 => rtell_step L B gS u (rtell_calls L B gS u)
theorem below_then' {B : Nat} {w w1 w2 : World} (h : Below B w w1) (h' : Below B w1 w2) : Below B w w2 := h.trans h'
theorem LayV.ok.more {L : LayV} {w : World} {B B' : Nat} (h : L.ok w B) (hB : B ≤ B') : L.ok w B' :=
  { h with
    boxes := fun i hi => by
      obtain ⟨b, off, e, hlt, c0, c1, c2, c3, c4, hk, hl⟩ := h.boxes i hi
      exact ⟨b, off, e, by omega, c0, c1, c2, c3, c4, hk.more hB, hl⟩
    frags := Holds.more h.frags hB
    gl := Nat.lt_of_lt_of_le h.gl hB }
/-- The steps of a layout. -/
def LayV.steps (L : LayV) : List (Nat × Nat) := tellN L.ownF L.nf 0 0
theorem steps_le {L : LayV} {w : World} {B : Nat} (h : L.ok w B) (h0 : 0 < L.nf) : L.steps.length ≤ L.nf := by
  have hp : ∀ k, 0 < k → k < L.nf → L.par k < k := fun k a b => (par_lt h a b).1
  exact tell_count hp (by unfold LayV.flatF LayV.pocketF; simp) (own_phase L) h0 0
set_option maxRecDepth 100000 in
set_option maxHeartbeats 1000000 in
theorem rstack_calls (L : LayV) (B : Nat) (w : World) (h : L.ok w B) (hB : B ≤ w.heap.size) (h0 : 0 < L.nf) :
    Calls Tryd.prog 18 #[.slice (some ⟨L.gL, 0, none⟩) L.nb L.cl, .agg #[.slice L.Ab L.nb L.cb, .slice L.Af L.nf L.cf, .int .i64 L.W1, .int .i64 L.H1]] w fun e w' => ∃ v, e = .returned v ∧ w'.ownsRow w.heap.size 55 2 v L.steps.length (steps L.steps) ∧ Below w.heap.size w w' := by
  have h1 := h.more hB
  have hsl := steps_le h h0
  have hnf := h.nf0
  have hb2 := below_alloc (below_alloc (Below.refl w.heap.size w) (.cells #[.slice L.Ab L.nb L.cb, .slice L.Af L.nf L.cf, .int .i64 L.W1, .int .i64 L.H1] 45)) (.cells (stC L (.slice none 0 0)) 86)
  have bl := Blk.new (w.alloc (.cells #[.slice L.Ab L.nb L.cb, .slice L.Af L.nf L.cf, .int .i64 L.W1, .int .i64 L.H1] 45)) 86 (stC L (.slice none 0 0))
  rw [alloc_size] at bl
  have hT : TSt L w.heap.size (w.heap.size + 1) (.slice none 0 0) [] ((w.alloc (.cells #[.slice L.Ab L.nb L.cb, .slice L.Af L.nf L.cf, .int .i64 L.W1, .int .i64 L.H1] 45)).alloc (.cells (stC L (.slice none 0 0)) 86)) :=
    ⟨⟨h1.below hb2 (Nat.le_refl _), bl, hb2.size⟩, World.ownsRow_nil _ _ _ _, by omega⟩
  have hc : Calls Tryd.prog 38 #[.pointer (some ⟨w.heap.size + 1, 0, none⟩), .int .i64 0] _ _ := rtell_calls L w.heap.size (w.heap.size + 1) L.nf 0 _ [] _ hT h0 (by unfold LayV.flatF LayV.pocketF; simp) (by omega) (by show 0 + L.steps.length ≤ _; omega)
  have HC := Lib.hid hc
  have HT := Lib.hid hT
  have HB2 := Lib.hid hb2
  clear hc hT bl hb2 h1 h
  unfold stC at HC HT HB2
  go_enter Tryd.func18, Tryd.ntmps18
  go_wp2_with (go_at_call 38; refine HC.out.mono ?_; rintro e w5 hpost; obtain ⟨rfl, v5, hT5, hF5, hO5⟩ := hpost; obtain ⟨A5, c5, rfl⟩ := own_open hT5.own; have s5 : w5.cell? ⟨w.heap.size + 1, 5, none⟩ = some (.slice A5 _ c5) := hT5.rst.blk.cell 5; have HT5 := Lib.hid hT5; have HF5 := Lib.hid hF5; clear hT5 hF5 hO5)
  go_ret
  exact ⟨_, rfl, by have := HT5.out.own; rw [List.nil_append] at this; exact this, below_then' HB2.out (HT.out.under HF5.out)⟩
end Go.Proofs.YtpamfhplklhnpaaDoor
