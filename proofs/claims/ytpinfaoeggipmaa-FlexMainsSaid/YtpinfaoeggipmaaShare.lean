/- Contracts of fix.Share, of the reference's Share, and of Eq on ints; the walk of FixShares. -/
import Derived.Test.YtpinfaoeggipmaaFix
import Derived.Test.YtpinfaoeggipmaaPlainB
import Derived.Test.YtpinfaoeggipmaaMem
import Derived.Outline
import Derived.Deep.QuietTactic
import Derived.BigQuiet
import Derived.StillTailTactics
namespace Go.Proofs.Ytpinfaoeggipmaa
open Go.RowKit
set_option linter.unusedVariables false
attribute [local go_sem high] run_min2 run_max2

def ints (zs : List Int) : List Value := zs.map (Value.int .i64)
theorem ints_len (zs : List Int) : (ints zs).length = zs.length := by simp [ints]
theorem ret_bool' {a b : Bool} (h : a = b) : Ending.returned (.bool a) = .returned (.bool b) := by rw [h]

theorem share0_calls (n s a : Int) (w : World) (h1 : -16777216 ≤ n) (h2 : n ≤ 16777216) (h3 : 0 ≤ s) (h4 : s ≤ 16777216000) (h5 : 0 < a) (h6 : a ≤ 16777216000) :
    Calls Try.prog 61 #[.int .i64 n, .int .i64 s, .int .i64 a] w fun e w' => e = .returned (.int .i64 ((n * s).fdiv a)) ∧ w = w' := by
  have m := mul_psum n s h1 h2 h3 h4
  obtain ⟨p, hp⟩ : ∃ p, n * s = p := ⟨_, rfl⟩
  have m1 : IntKind.i64.wrap (n * s) = p := by rw [hp]; exact IntWalk.i64_in _ (by omega)
  rw [hp] at m
  have HP := Lib.hid hp
  clear hp
  go_enter Try.func61, Try.ntmps61
  go_wp2_with (go_at_call 58; refine (floor_calls _ _ _ (by omega) (by omega) (by omega) (by omega) (by omega)).mono ?_; rintro e w' ⟨rfl, rfl⟩)
  go_ret
  exact ⟨ret_int (by rw [HP.out]), rfl⟩

set_option maxRecDepth 100000 in
set_option maxHeartbeats 400000 in
theorem weight_calls (k : Nat) (A : Option Addr) (n c g B : Nat) (ws : List Int) (w : World) (hn : ws.length = n) (hk : k < n) (hg : w.cell? ⟨g, 0, none⟩ = some (.slice A n c)) (h : Holds w B A (ints ws)) (hm : n ≤ 9223372036854775807) :
    Calls Try.prog 60 #[.int .i64 k, .pointer (some ⟨g, 0, none⟩)] w fun e w' => e = .returned (.int .i64 (wt k (ws.getD k 0))) ∧ w = w' := by
  subst hn
  obtain ⟨b, off, rfl, hb, hc⟩ := h.ints hk
  obtain ⟨z, hz⟩ : ∃ z, z = ws.getD k 0 := ⟨_, rfl⟩
  rw [← hz] at hc ⊢
  clear hz h
  by_cases h1 : 1000 ≤ k
  · have e : wt k z = 0 := by unfold wt; rw [if_pos h1]
    go_enter Try.func60, Try.ntmps60
    go_wp2
    go_ret
    exact ⟨ret_int e.symm, rfl⟩
  · have e : wt k z = max 0 (cut z) := by unfold wt; rw [if_neg h1]
    have E := Lib.hid e
    clear e
    go_enter Try.func60, Try.ntmps60
    go_wp2_with (go_at_call 19; refine (cut_calls _ _).mono ?_; rintro e w' ⟨rfl, rfl⟩)
    go_ret
    exact ⟨ret_int (by rw [E.out]), rfl⟩

set_option maxHeartbeats 400000 in
theorem eqInt_calls (A A' : Option Addr) (n c c' B B' : Nat) (zs : List Int) (w : World) (hn : zs.length = n) (h : Holds w B A (ints zs)) (h' : Holds w B' A' (ints zs)) (hm : n ≤ 9223372036854775807) :
    Calls Try.prog 27 #[.slice A n c, .slice A' n c'] w fun e w' => e = .returned (.bool true) ∧ w = w' := by
  subst hn
  go_enter Try.func27, Try.ntmps27
  go_wp2
  go_loop [14] (fun i => ∃ k : Nat, k ≤ zs.length ∧ i = .int .i64 k) (fun i => zs.length - (intOf i).toNat)
  case atStart => exact ⟨0, Nat.zero_le _, rfl⟩
  case round =>
    obtain ⟨k, hk, rfl⟩ := hrel
    by_cases hlt : k < zs.length
    · obtain ⟨b, off, rfl, hb, hc⟩ := h.ints hlt
      obtain ⟨b', off', rfl, hb', hc'⟩ := h'.ints hlt
      obtain ⟨z, hz⟩ : ∃ z, z = zs.getD k 0 := ⟨_, rfl⟩
      rw [← hz] at hc hc'
      clear hz h h'
      go_wp2
      go_round
      case rel => exact ⟨k + 1, by omega, by go_num⟩
      case measure => simp [intOf]; omega
    · clear h h'
      go_wp2
      go_ret
      exact ⟨rfl, rfl⟩
theorem info_int : (Try.prog.info? 3).map (fun i => (i.zero, i.size, i.bytes)) = some (some (.int .i64 0), 1, 8) := by kernel_rfl

/-- What is told of the first k shares; the others 0. -/
def sofar (n : Int) (ws : List Int) (k : Nat) : List Int := (share n ws).take k ++ List.replicate (ws.length - k) 0
theorem sofar_step (n : Int) (ws : List Int) (k : Nat) (h : k < ws.length) : (ints (sofar n ws k)).set k (.int .i64 (shareAt n ws k)) = ints (sofar n ws (k + 1)) := by
  have hl : ((share n ws).take k).length = k := by simp [share_length]; omega
  unfold sofar
  rw [show ws.length - k = (ws.length - (k + 1)) + 1 by omega, List.replicate_succ, take_snoc (share n ws) 0 k (by rw [share_length]; exact h)]
  unfold ints
  rw [List.map_append, List.set_append_right _ _ (by rw [List.length_map, hl]; omega), List.length_map, hl]
  simp [share, List.getD, h]
theorem sofar_zero (n : Int) (ws : List Int) : sofar n ws 0 = List.replicate ws.length 0 := by simp [sofar]
theorem sofar_all (n : Int) (ws : List Int) : sofar n ws ws.length = share n ws := by
  unfold sofar
  rw [List.take_of_length_le (by rw [share_length]; omega)]
  simp
theorem share_none (n : Int) (ws : List Int) (h : psum ws ws.length = 0) : share n ws = List.replicate ws.length 0 := by
  unfold share
  apply List.ext_getElem
  · simp
  · intro i h1 h2; simp [shareAt, h]

theorem psum_pos (ws : List Int) (h : ¬ psum ws ws.length = 0) : 0 < psum ws ws.length := by have := (psum_bd ws ws.length).1; omega
set_option maxRecDepth 100000 in
set_option maxHeartbeats 1000000 in
theorem share_own (x : Int) (A : Option Addr) (n c B : Nat) (ws : List Int) (w : World) (hn : ws.length = n) (h : Holds w B A (ints ws)) (hB : B ≤ w.heap.size) (hr : n * 8 ≤ 281474976710656) :
    Calls Try.prog 28 #[.int .i64 x, .slice A n c] w fun e w' => ∃ g, e = .returned (.slice (some ⟨g, 0, none⟩) n n) ∧ w'.ownsRow w.heap.size 3 1 (.slice (some ⟨g, 0, none⟩) n n) n (ints (share x ws)) ∧ Below w.heap.size w w' := by
  obtain ⟨i0, hi, hz0, hz1, hz2⟩ := info_parts info_int
  have HN := Lib.hid hn
  have H := Lib.hid h
  clear h hn
  go_enter Try.func28, Try.ntmps28
  go_wp2_with (first | (go_at_call 19; refine (cut_calls _ _).mono ?_; rintro e w' ⟨rfl, rfl⟩) | (at_make; refine wpList_make_full _ rfl (.tmp 16) (.tmp 16) 22 rfl w.heap.size 3 i0 (.int .i64 0) 1 Try.underlying22 hi hz0 hz1 .i64 .i64 _ _ n rfl rfl rfl rfl (by rw [hz2]; omega) (by unfold maxLen; omega) (by simp) ?_; intro w2 hown hg; rw [alloc_size] at hown; have hcell : w2.cell? ⟨w.heap.size, 0, none⟩ = some (.slice A n c) := (grown_cell hg (by simp)).trans (new_cell _ _ _ _); have hb2 := below_made (below_alloc (Below.refl _ w) _) hg; have hsz : w.heap.size + 1 < w2.heap.size := by have := (hown.lt (w.heap.size + 1) rfl).2; omega))
  have H2 := Lib.hid (H.out.below hb2 hB)
  have HOWN := Lib.hid hown
  have HG := Lib.hid hg
  clear hown hg
  go_loop [7, 21] (fun s i => ∃ k : Nat, k ≤ n ∧ i = .int .i64 k ∧ s = .int .i64 (psum ws k)) (fun _ i => n - (intOf i).toNat)
  case atStart => exact ⟨0, Nat.zero_le _, rfl, rfl⟩
  case round =>
    obtain ⟨k, hk, rfl, rfl⟩ := hrel
    have p1 := (psum_bd ws k).1
    have p2 := psum_hi ws k
    by_cases hlt : k < n
    · have HS := Lib.hid (show psum ws (k + 1) = psum ws k + wt k (ws.getD k 0) from rfl)
      have q := wt_bd k (ws.getD k 0)
      have HC := Lib.hid (weight_calls k A n c w.heap.size B ws w2 HN.out hlt hcell H2.out (by omega))
      obtain ⟨z, hz⟩ : ∃ z, z = wt k (ws.getD k 0) := ⟨_, rfl⟩
      obtain ⟨p, hp⟩ : ∃ p, p = psum ws k := ⟨_, rfl⟩
      rw [← hz] at HS HC q
      rw [← hp] at HS p1 p2
      rw [← hp]
      clear hz hp hcell
      go_wp2_with (go_at_call 60; refine HC.out.mono ?_; rintro e w' ⟨rfl, rfl⟩)
      go_round
      case rel => exact ⟨k + 1, by omega, by go_num, by rw [HS.out]⟩
      case measure => simp [intOf]; omega
    · obtain rfl : n = k := by omega
      by_cases h0 : psum ws n = 0
      · have hres : w2.ownsRow w.heap.size 3 1 (.slice (some ⟨w.heap.size + 1, 0, none⟩) n n) n (ints (share x ws)) := by
          have hh := HOWN.out
          have e : (madeCells (Value.int IntKind.i64 0).cells (n * 1)).toList = ints (share x ws) := by
            rw [share_none x ws (by rw [HN.out]; exact h0), HN.out]
            show (madeCells #[Value.int IntKind.i64 0] (n * 1)).toList = _
            rw [toList_madeCells_one]
            simp [ints]
          rw [e] at hh
          exact hh
        have HRES := Lib.hid hres
        clear hres
        rw [h0]
        clear h0 p1 p2 hcell
        go_wp2
        go_ret
        exact ⟨_, rfl, HRES.out, hb2⟩
      · obtain ⟨t, ht⟩ : ∃ t, t = psum ws n := ⟨_, rfl⟩
        have t1 : 0 < t := by omega
        have t2 : t ≤ 16777216000 := by omega
        have t3 : (t == 0) = false := by simp; omega
        have HU : ∀ k, Hid (upto x ws k = (cut x * psum ws k).fdiv t) := fun k => by show _ = _; rw [ht, ← HN.out]; rfl
        have HS : ∀ k, Hid (shareAt x ws k = upto x ws (k + 1) - upto x ws k) := fun k => by show _ = _; unfold shareAt; rw [if_neg (by rw [HN.out, ← ht]; omega)]
        have HB : ∀ k, Hid (-281474976710656000 ≤ upto x ws k ∧ upto x ws k ≤ 281474976710656000) := fun k => upto_bd x ws k (by rw [HN.out, ← ht]; exact t1)
        have HS' := Lib.hid HS
        have HU' := Lib.hid HU
        have HB' := Lib.hid HB
        have own0 : w2.ownsRow w.heap.size 3 1 (.slice (some ⟨w.heap.size + 1, 0, none⟩) n n) n (ints (sofar x ws 0)) := by
          have hh := HOWN.out
          have e : (madeCells (Value.int IntKind.i64 0).cells (n * 1)).toList = ints (sofar x ws 0) := by
            rw [sofar_zero, HN.out]
            show (madeCells #[Value.int IntKind.i64 0] (n * 1)).toList = _
            rw [toList_madeCells_one]
            simp [ints]
          rw [e] at hh
          exact hh
        have OWN0 := Lib.hid own0
        clear HS HU HB own0 h0
        rw [← ht]
        rw [← ht] at p1 p2
        have HT := Lib.hid ht
        clear ht p1 p2
        go_wp2_with fail
        go_loopw [9, 10, 35] (fun s d i wr => ∃ k : Nat, k ≤ n ∧ i = .int .i64 k ∧ s = .int .i64 (psum ws k) ∧ d = .int .i64 (upto x ws k) ∧ wr.ownsRow w.heap.size 3 1 (.slice (some ⟨w.heap.size + 1, 0, none⟩) n n) n (ints (sofar x ws k)) ∧ Below w.heap.size w wr ∧ wr.cell? ⟨w.heap.size, 0, none⟩ = some (.slice A n c)) (fun _ _ i _ => n - (intOf i).toNat)
        case atStart => exact ⟨0, Nat.zero_le _, rfl, rfl, by rw [upto_zero], OWN0.out, hb2, hcell⟩
        case round =>
          clear hcell H2 OWN0 HOWN HG hb2 hsz
          obtain ⟨k, hk, rfl, rfl, rfl, hown, hbel, hcell⟩ := hrel
          by_cases hlt : k < n
          · have hH := Lib.hid (H.out.below hbel hB)
            have HSS := Lib.hid (show psum ws (k + 1) = psum ws k + wt k (ws.getD k 0) from rfl)
            have q := wt_bd k (ws.getD k 0)
            have p1 := (psum_bd ws k).1
            have p2 := psum_hi ws k
            have r1 := (psum_bd ws (k + 1)).1
            have r2 := psum_hi ws (k + 1)
            have b1 := (HB'.out k).out
            have b2 := (HB'.out (k + 1)).out
            have HC := Lib.hid (weight_calls k A n c w.heap.size B ws wr HN.out hlt hcell hH.out (by omega))
            have HC2 := Lib.hid (share0_calls (cut x) (psum ws (k + 1)) t wr (cut_lo x) (cut_hi x) r1 r2 t1 t2)
            rw [← (HU'.out (k + 1)).out] at HC2
            obtain ⟨old, hold⟩ : ∃ old, wr.cell? ⟨w.heap.size + 1, k, none⟩ = some old := by
              have := hown.cellAt k (by omega)
              rw [this]
              have hl : k < (ints (sofar x ws k)).length := by have := hown.1; omega
              exact ⟨_, List.getElem?_eq_getElem hl⟩
            have hfz := hown.frozenAt k
            have HST := hown.stored k (.int .i64 (shareAt x ws k))
            rw [sofar_step x ws k (by rw [HN.out]; exact hlt)] at HST
            rw [(HS'.out k).out] at HST
            have HST' := Lib.hid HST.1
            obtain ⟨z, hz⟩ : ∃ z, z = wt k (ws.getD k 0) := ⟨_, rfl⟩
            obtain ⟨p, hp⟩ : ∃ p, p = psum ws k := ⟨_, rfl⟩
            obtain ⟨u, hu⟩ : ∃ u, u = upto x ws k := ⟨_, rfl⟩
            obtain ⟨u', hu'⟩ : ∃ u', u' = upto x ws (k + 1) := ⟨_, rfl⟩
            rw [← hz] at HSS HC q
            rw [← hp] at HSS p1 p2
            rw [HSS.out] at HC2 r1 r2
            rw [← hu] at b1 HST'
            rw [← hu'] at b2 HST' HC2
            rw [← hp, ← hu]
            have HU1 := Lib.hid hu'
            clear hz hp hu hu' HST hown
            go_wp2_with (first | (go_at_call 60; refine HC.out.mono ?_; rintro e w' ⟨rfl, rfl⟩) | (go_at_call 61; refine HC2.out.mono ?_; rintro e w' ⟨rfl, rfl⟩))
            go_roundw
            case rel => exact ⟨k + 1, by omega, by go_num, by rw [HSS.out], by rw [HU1.out], HST'.out, below_set hbel (by omega) _, by rw [World.cell?_setCell_other _ _ _ _ (by simp)]; exact hcell⟩
            case measure => simp [intOf]; omega
          · obtain rfl : n = k := by omega
            have hh := hown
            rw [show sofar x ws n = share x ws from by rw [← HN.out]; exact sofar_all x ws] at hh
            have HH := Lib.hid hh
            clear hh hown hcell
            go_wp2
            go_ret
            exact ⟨_, rfl, HH.out, hbel⟩
theorem share_calls (x : Int) (A : Option Addr) (n c B : Nat) (ws : List Int) (w : World) (hn : ws.length = n) (h : Holds w B A (ints ws)) (hB : B ≤ w.heap.size) (hr : n * 8 ≤ 281474976710656) :
    Calls Try.prog 28 #[.int .i64 x, .slice A n c] w fun e w' => ∃ g, e = .returned (.slice (some ⟨g, 0, none⟩) n n) ∧ Holds w' w'.heap.size (some ⟨g, 0, none⟩) (ints (share x ws)) ∧ Below w.heap.size w w' :=
  (share_own x A n c B ws w hn h hB hr).mono fun e w' ⟨g, h1, h2, h3⟩ => ⟨g, h1, Holds.of_own h2, h3⟩
end Go.Proofs.Ytpinfaoeggipmaa
