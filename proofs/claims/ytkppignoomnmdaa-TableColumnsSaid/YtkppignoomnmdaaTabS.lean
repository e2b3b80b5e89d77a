/- The stable sort of few cells that lie in order already: nothing is turned. -/
import Derived.Test.YtkppignoomnmdaaColB
namespace Go.Proofs.Ytkppignoomnmdaa
open Go.RowKit
set_option linter.unusedVariables false
set_option linter.unusedSimpArgs false
attribute [local go_sem high] run_min2 run_max2

set_option maxRecDepth 100000 in
set_option maxHeartbeats 2000000 in
theorem insSorted_calls (L : List CellV) (base n : Nat) (A : Option Addr) (c : Nat) (w : World) (hn : L.length = n) (h : w.ownsRow base 107 4 (.slice A n c) n (L.flatMap cellF)) (hs : ∀ i, i + 1 < L.length → (L.getD i CellV.zero).span ≤ (L.getD (i + 1) CellV.zero).span) (hb : ∀ c ∈ L, c.span ≤ 50) (hm : n ≤ 1000) :
    Calls Try.prog 115 #[.slice A n c, .int .i64 0, .int .i64 n, .func (.func 76) #[] #[]] w fun e w' => e = .returned (.tuple #[]) ∧ Below w.heap.size w w' := by
  subst hn
  have H := Lib.hid h
  have HS := Lib.hid hs
  have HB := Lib.hid hb
  clear h hs hb
  go_enter Try.func115, Try.ntmps115
  go_wp2_with fail
  go_loopw [8] (fun i wr => ∃ k : Nat, 1 ≤ k ∧ i = .int .i64 k ∧ Below w.heap.size w wr) (fun i _ => L.length - (intOf i).toNat)
  case atStart => exact ⟨1, Nat.le_refl _, rfl, Below.refl _ _⟩
  case round =>
    obtain ⟨k, hk, rfl, hbel⟩ := hrel
    by_cases hlt : k < L.length
    · obtain ⟨q, hq⟩ : ∃ q, q = k - 1 := ⟨_, rfl⟩
      have hq1 : q < L.length := by omega
      have hso := HS.out q (by omega)
      rw [show q + 1 = k by omega] at hso
      have hbk := HB.out (L.getD k CellV.zero) (by simp [List.getD, hlt])
      have hbq := HB.out (L.getD q CellV.zero) (by simp [List.getD, hq1])
      have hO := own_below H.out hbel
      obtain ⟨bA, oA, hA, hbA, hc⟩ := cells_flat L wr _ A (Holds.of_own hO) hlt
      obtain ⟨bA2, oA2, hA2, _, hc2⟩ := cells_flat L wr _ A (Holds.of_own hO) hq1
      have hA3 := hA.symm.trans hA2
      injection hA3 with hA3
      injection hA3 with hA4 hA5
      subst hA4
      subst hA5
      subst hA
      obtain ⟨⟨al, am, ap, asp⟩, hx⟩ : ∃ x, x = L.getD k CellV.zero := ⟨_, rfl⟩
      obtain ⟨⟨bl, bm, bp, bsp⟩, hy⟩ : ∃ x, x = L.getD q CellV.zero := ⟨_, rfl⟩
      rw [← hx] at hc hso hbk
      rw [← hy] at hc2 hso hbq
      simp only at hso hbk hbq
      have hS0 : (fun w' : World => w'.cell? ⟨bA, oA + k * 4, none⟩ = some (.int .i64 al) ∧ w'.cell? ⟨bA, oA + k * 4 + 1, none⟩ = some (.int .i64 am) ∧ w'.cell? ⟨bA, oA + k * 4 + 2, none⟩ = some (.int .i64 ap) ∧ w'.cell? ⟨bA, oA + k * 4 + 3, none⟩ = some (.int .i64 asp) ∧ w'.cell? ⟨bA, oA + q * 4, none⟩ = some (.int .i64 bl) ∧ w'.cell? ⟨bA, oA + q * 4 + 1, none⟩ = some (.int .i64 bm) ∧ w'.cell? ⟨bA, oA + q * 4 + 2, none⟩ = some (.int .i64 bp) ∧ w'.cell? ⟨bA, oA + q * 4 + 3, none⟩ = some (.int .i64 bsp)) wr.drew := ⟨hc 0 _ rfl, hc 1 _ rfl, hc 2 _ rfl, hc 3 _ rfl, hc2 0 _ rfl, hc2 1 _ rfl, hc2 2 _ rfl, hc2 3 _ rfl⟩
      have QQ := Lib.hid (show 1 ≤ k ∧ k < L.length from ⟨hk, hlt⟩)
      have HBE := Lib.hid hbel.drew
      have hqk : (k : Int) - 1 = (q : Int) := by omega
      have hk0 : 0 < k := hk
      have hneg : decide ((asp : Int) - (bsp : Int) < 0) = false := by simp; omega
      have hkk : IntKind.i64.wrap (q : Int) = (q : Int) := IntWalk.i64_in _ (by omega)
      have hqq : (0 : Int) ≤ (q : Int) := by omega
      have hqn : ((q : Int)).toNat = q := by omega
      have hql : (q : Int) < (L.length : Int) := by omega
      clear hA2 hx hy hc hc2 hO hbel hq
      have HS0 := Lib.hid hS0
      clear hS0
      obtain ⟨wo, rfl⟩ : ∃ wo : World, wo = wr := ⟨_, rfl⟩
      go_wp2_with fail
      go_loopw [9] (fun j wr => j = .int .i64 k ∧ wo = wr) (fun _ _ => 0)
      case atStart => exact ⟨rfl, rfl⟩
      case round =>
        obtain ⟨rfl, rfl⟩ := hrel
        have hS0 := HS0.out
        go_wp2_with fail
        refine wp_region_noPanic ?_
        refine region_M (S := fun w' => w'.cell? ⟨bA, oA + k * 4, none⟩ = some (.int .i64 al) ∧ w'.cell? ⟨bA, oA + k * 4 + 1, none⟩ = some (.int .i64 am) ∧ w'.cell? ⟨bA, oA + k * 4 + 2, none⟩ = some (.int .i64 ap) ∧ w'.cell? ⟨bA, oA + k * 4 + 3, none⟩ = some (.int .i64 asp) ∧ w'.cell? ⟨bA, oA + q * 4, none⟩ = some (.int .i64 bl) ∧ w'.cell? ⟨bA, oA + q * 4 + 1, none⟩ = some (.int .i64 bm) ∧ w'.cell? ⟨bA, oA + q * 4 + 2, none⟩ = some (.int .i64 bp) ∧ w'.cell? ⟨bA, oA + q * 4 + 3, none⟩ = some (.int .i64 bsp)) (T := [14]) (by kernel_rfl) ?_
        refine anyM_free (i := 0) (oi := { dst := some 18, op := _, type := _, pos := _, after := _, guard := _ }) (v := ?_) rfl (by kernel_rfl) (fun _ _ _ h => h) (Or.inl ⟨by kernel_rfl, ?_⟩) (fun _ => hS0) ?_
        rotate_left 1
        · (intro w hSw; (try dsimp only at hSw); go_simp; try with_reducible rfl)
        try simp only [Act.put, Array.toArray_toList, List.setIfInBounds_toArray, List.set_cons_zero, List.set_cons_succ]
        refine anyM_free (i := 1) (oi := { dst := some 19, op := _, type := _, pos := _, after := _, guard := _ }) (v := ?_) rfl (by kernel_rfl) (fun _ _ _ h => h) (Or.inl ⟨by kernel_rfl, ?_⟩) (fun _ => hS0) ?_
        rotate_left 1
        · (intro w hSw; (try dsimp only at hSw); go_simp; try with_reducible rfl)
        try simp only [Act.put, Array.toArray_toList, List.setIfInBounds_toArray, List.set_cons_zero, List.set_cons_succ]
        refine anyM_free (i := 2) (oi := { dst := some 20, op := _, type := _, pos := _, after := _, guard := _ }) (v := ?_) rfl (by kernel_rfl) (fun _ _ _ h => h) (Or.inl ⟨by kernel_rfl, ?_⟩) (fun _ => hS0) ?_
        rotate_left 1
        · (intro w hSw; (try dsimp only at hSw); go_simp; try with_reducible rfl)
        try simp only [Act.put, Array.toArray_toList, List.setIfInBounds_toArray, List.set_cons_zero, List.set_cons_succ]
        refine anyM_free (i := 3) (oi := { dst := some 21, op := _, type := _, pos := _, after := _, guard := _ }) (v := ?_) rfl (by kernel_rfl) (fun _ _ _ h => h) (Or.inl ⟨by kernel_rfl, ?_⟩) (fun _ => hS0) ?_
        rotate_left 1
        · (intro w hSw; (try dsimp only at hSw); go_simp; try with_reducible rfl)
        try simp only [Act.put, Array.toArray_toList, List.setIfInBounds_toArray, List.set_cons_zero, List.set_cons_succ]
        refine anyM_free (i := 4) (oi := { dst := some 22, op := _, type := _, pos := _, after := _, guard := _ }) (v := ?_) rfl (by kernel_rfl) (fun _ _ _ h => h) (Or.inl ⟨by kernel_rfl, ?_⟩) (fun _ => hS0) ?_
        rotate_left 1
        · (intro w hSw; (try dsimp only at hSw); go_simp; try with_reducible rfl)
        try simp only [Act.put, Array.toArray_toList, List.setIfInBounds_toArray, List.set_cons_zero, List.set_cons_succ]
        refine anyM_free (i := 5) (oi := { dst := some 23, op := _, type := _, pos := _, after := _, guard := _ }) (v := ?_) rfl (by kernel_rfl) (fun _ _ _ h => h) (Or.inl ⟨by kernel_rfl, ?_⟩) (fun _ => hS0) ?_
        rotate_left 1
        · (intro w hSw; (try dsimp only at hSw); go_simp; try with_reducible rfl)
        try simp only [Act.put, Array.toArray_toList, List.setIfInBounds_toArray, List.set_cons_zero, List.set_cons_succ]
        refine anyM_free (i := 6) (oi := { dst := some 24, op := _, type := _, pos := _, after := _, guard := _ }) (v := ?_) rfl (by kernel_rfl) (fun _ _ _ h => h) (Or.inl ⟨by kernel_rfl, ?_⟩) (fun _ => hS0) ?_
        rotate_left 1
        · (intro w hSw; (try dsimp only at hSw); go_simp; try with_reducible rfl)
        try simp only [Act.put, Array.toArray_toList, List.setIfInBounds_toArray, List.set_cons_zero, List.set_cons_succ]
        refine anyM_free (i := 7) (oi := { dst := some 25, op := _, type := _, pos := _, after := _, guard := _ }) (v := ?_) rfl (by kernel_rfl) (fun _ _ _ h => h) (Or.inl ⟨by kernel_rfl, ?_⟩) (fun _ => hS0) ?_
        rotate_left 1
        · (intro w hSw; (try dsimp only at hSw); go_simp; try with_reducible rfl)
        try simp only [Act.put, Array.toArray_toList, List.setIfInBounds_toArray, List.set_cons_zero, List.set_cons_succ]
        refine anyM_take (i := 8) (oi := { dst := some 26, op := _, type := _, pos := _, after := _, guard := _ }) (v := ?_) rfl (by kernel_rfl) (fun _ _ _ h => h) (Or.inl ⟨by kernel_rfl, ?_⟩) hS0 ?_
        rotate_left 1
        · (intro w hSw; (try dsimp only at hSw); go_simp; try with_reducible rfl)
        try simp only [Act.put, Array.toArray_toList, List.setIfInBounds_toArray, List.set_cons_zero, List.set_cons_succ]
        refine anyM_free (i := 9) (oi := { dst := some 27, op := _, type := _, pos := _, after := _, guard := _ }) (v := ?_) rfl (by kernel_rfl) (fun _ _ _ h => h) (Or.inl ⟨by kernel_rfl, ?_⟩) (fun _ => hS0) ?_
        rotate_left 1
        · (intro w hSw; (try dsimp only at hSw); go_simp; try with_reducible rfl)
        try simp only [Act.put, Array.toArray_toList, List.setIfInBounds_toArray, List.set_cons_zero, List.set_cons_succ]
        refine anyM_free (i := 10) (oi := { dst := some 28, op := _, type := _, pos := _, after := _, guard := _ }) (v := ?_) rfl (by kernel_rfl) (fun _ _ _ h => h) (Or.inl ⟨by kernel_rfl, ?_⟩) (fun _ => hS0) ?_
        rotate_left 1
        · (intro w hSw; (try dsimp only at hSw); go_simp; try with_reducible rfl)
        try simp only [Act.put, Array.toArray_toList, List.setIfInBounds_toArray, List.set_cons_zero, List.set_cons_succ]
        refine anyM_free (i := 11) (oi := { dst := some 29, op := _, type := _, pos := _, after := _, guard := _ }) (v := ?_) rfl (by kernel_rfl) (fun _ _ _ h => h) (Or.inl ⟨by kernel_rfl, ?_⟩) (fun _ => hS0) ?_
        rotate_left 1
        · (intro w hSw; (try dsimp only at hSw); go_simp; try with_reducible rfl)
        try simp only [Act.put, Array.toArray_toList, List.setIfInBounds_toArray, List.set_cons_zero, List.set_cons_succ]
        refine anyM_free (i := 12) (oi := { dst := some 30, op := _, type := _, pos := _, after := _, guard := _ }) (v := ?_) rfl (by kernel_rfl) (fun _ _ _ h => h) (Or.inl ⟨by kernel_rfl, ?_⟩) (fun _ => hS0) ?_
        rotate_left 1
        · (intro w hSw; (try dsimp only at hSw); go_simp; try with_reducible rfl)
        try simp only [Act.put, Array.toArray_toList, List.setIfInBounds_toArray, List.set_cons_zero, List.set_cons_succ]
        refine anyM_take (i := 13) (oi := { dst := some 31, op := _, type := _, pos := _, after := _, guard := _ }) (v := ?_) rfl (by kernel_rfl) (fun _ _ _ h => h) (Or.inl ⟨by kernel_rfl, ?_⟩) hS0 ?_
        rotate_left 1
        · (intro w hSw; (try dsimp only at hSw); go_simp; try with_reducible rfl)
        try simp only [Act.put, Array.toArray_toList, List.setIfInBounds_toArray, List.set_cons_zero, List.set_cons_succ]
        refine anyM_one (i := 14) (by kernel_rfl) rfl (fun K hK => ?_)
        go_simp
        refine (cmp_calls al am bl bm ap asp bp bsp _ (by omega) (by omega)).mono ?_
        rintro e w5 ⟨rfl, hb5⟩
        have hbel5 := below_then HBE.out hb5
        refine hK.out _ _ (fun h => late_no h (by kernel_rfl)) ?_
        clear hK K
        try simp only [Act.put, Array.toArray_toList, List.setIfInBounds_toArray, List.set_cons_zero, List.set_cons_succ]
        refine anyM_freeL (i := 15) (oi := { dst := some 33, op := _, type := _, pos := _, after := _, guard := _ }) (v := ?_) rfl (by kernel_rfl) (fun _ _ _ h => h) (Or.inl ⟨by kernel_rfl, ?_⟩) ?_
        rotate_left 1
        · (intro w hSw; (try dsimp only at hSw); go_simp; try with_reducible rfl)
        try simp only [Act.put, Array.toArray_toList, List.setIfInBounds_toArray, List.set_cons_zero, List.set_cons_succ]
        refine anyM_freeL (i := 16) (oi := { dst := some 34, op := _, type := _, pos := _, after := _, guard := _ }) (v := ?_) rfl (by kernel_rfl) (fun _ _ _ h => h) (Or.inl ⟨by kernel_rfl, ?_⟩) ?_
        rotate_left 1
        · (intro w hSw; (try dsimp only at hSw); go_simp; try with_reducible rfl)
        try simp only [Act.put, Array.toArray_toList, List.setIfInBounds_toArray, List.set_cons_zero, List.set_cons_succ]
        refine anyM_done (by kernel_rfl) ?_ _
        refine NoPanic.normal ?_
        have HB5 := Lib.hid hbel5
        clear hS0 hb5 hbel5 hqk hk0 hneg hkk hqq hqn hql
        go_wp2_with fail
        go_roundw
        case rel => exact ⟨k + 1, by omega, by go_num, HB5.out⟩
        case measure => have := QQ.out; simp [intOf]; omega
    · go_wp2_with fail
      go_end0
      exact ⟨rfl, hbel⟩
set_option maxHeartbeats 1000000 in
theorem stableSorted_calls (L : List CellV) (base n : Nat) (A : Option Addr) (c : Nat) (w : World) (hn : L.length = n) (h : w.ownsRow base 107 4 (.slice A n c) n (L.flatMap cellF)) (hs : ∀ i, i + 1 < L.length → (L.getD i CellV.zero).span ≤ (L.getD (i + 1) CellV.zero).span) (hb : ∀ c ∈ L, c.span ≤ 50) (hm : n < 20) :
    Calls Try.prog 102 #[.slice A n c, .int .i64 n, .func (.func 76) #[] #[]] w fun e w' => e = .returned (.tuple #[]) ∧ Below w.heap.size w w' := by
  have HC := Lib.hid (insSorted_calls L base n A c w hn h hs hb (by omega))
  clear h hs hb
  go_enter Try.func102, Try.ntmps102
  go_wp2_with fail
  go_loop [7, 8] (fun a b => a = .int .i64 0 ∧ b = .int .i64 20) (fun _ _ => 0)
  case atStart => exact ⟨rfl, rfl⟩
  case round =>
    obtain ⟨rfl, rfl⟩ := hrel
    have hn20 : decide (20 ≤ n) = false := by simp; omega
    have hn21 : ¬ 20 ≤ n := by omega
    have hn22 : ¬ 20 < n := by omega
    go_wp2_with (go_at_call 115; refine HC.out.mono ?_; rintro e w1 ⟨rfl, hb1⟩)
    go_loop [6, 7, 8, 9] (fun a b c d => a = .int .i64 20 ∧ b = .int .i64 0 ∧ c = .int .i64 20 ∧ d = undef) (fun _ _ _ _ => 0)
    case atStart => exact ⟨rfl, rfl, rfl, rfl⟩
    case round =>
      obtain ⟨rfl, rfl, rfl, rfl⟩ := hrel
      go_wp2_with fail
      go_end0
      exact ⟨rfl, hb1⟩
theorem sortSorted_calls (L : List CellV) (base n : Nat) (A : Option Addr) (c : Nat) (w : World) (hn : L.length = n) (h : w.ownsRow base 107 4 (.slice A n c) n (L.flatMap cellF)) (hs : ∀ i, i + 1 < L.length → (L.getD i CellV.zero).span ≤ (L.getD (i + 1) CellV.zero).span) (hb : ∀ c ∈ L, c.span ≤ 50) (hm : n < 20) :
    Calls Try.prog 75 #[.slice A n c, .func (.func 76) #[] #[]] w fun e w' => e = .returned (.tuple #[]) ∧ Below w.heap.size w w' := by
  have HC := Lib.hid (stableSorted_calls L base n A c w hn h hs hb hm)
  clear h hs hb
  go_enter Try.func75, Try.ntmps75
  go_wp2_with (go_at_call 102; refine HC.out.mono ?_; rintro e w1 ⟨rfl, hb1⟩)
  go_end0
  exact ⟨rfl, hb1⟩
theorem sortsTo_sorted (L : List CellV) (hs : ∀ i, i + 1 < L.length → (L.getD i CellV.zero).span ≤ (L.getD (i + 1) CellV.zero).span) (hb : ∀ c ∈ L, c.span ≤ 50) (hm : L.length < 20) : SortsTo L L := fun w base A c h =>
  (sortSorted_calls L base L.length A c w rfl h hs hb hm).mono fun e w' ⟨h1, h2⟩ => ⟨h1, own_below h h2, grown_of_below h2 _⟩
end Go.Proofs.Ytkppignoomnmdaa
