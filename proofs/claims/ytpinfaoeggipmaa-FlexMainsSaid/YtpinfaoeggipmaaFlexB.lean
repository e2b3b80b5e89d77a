/- Rows of flexible items in memory: contracts of flex's free, now, factor, near. -/
import Derived.Test.YtpinfaoeggipmaaFlexA
import Derived.Test.YtpinfaoeggipmaaFlexTurn
import Derived.Deep.QuietTactic
import Derived.BigQuiet
namespace Go.Proofs.Ytpinfaoeggipmaa
open Go.RowKit
set_option linter.unusedVariables false
set_option linter.unusedSimpArgs false
attribute [local go_sem high] run_min2 run_max2

/-- The cells of item i. -/
def frow (xs : Nat → FlexV) (st : Nat → FxSt) (i : Nat) : List Value := itemF (xs i) (long (xs i)) (st i).settled (st i).is
theorem frow_len (xs : Nat → FlexV) (st : Nat → FxSt) (i : Nat) : (frow xs st i).length = 9 := rfl
/-- A row in memory. -/
structure RowAt (w : World) (g0 gr gi n : Nat) (room : Int) (gw : Bool) (xs : Nat → FlexV) (st : Nat → FxSt) : Prop where
  row : Blk w gr 100 #[.int .i64 room, .slice (some ⟨gi, 0, none⟩) n n, .bool gw]
  own : w.ownsRow g0 103 9 (.slice (some ⟨gi, 0, none⟩) n n) n (rows n (frow xs st))
  low : g0 ≤ gr
theorem RowAt.below {w w' : World} {g0 gr gi n : Nat} {room : Int} {gw : Bool} {xs : Nat → FlexV} {st : Nat → FxSt} (h : RowAt w g0 gr gi n room gw xs st) (hb : Below w.heap.size w w') : RowAt w' g0 gr gi n room gw xs st :=
  ⟨h.row.below hb h.row.lt, own_below h.own hb, h.low⟩
theorem RowAt.alloc {w : World} {g0 gr gi n : Nat} {room : Int} {gw : Bool} {xs : Nat → FlexV} {st : Nat → FxSt} (h : RowAt w g0 gr gi n room gw xs st) (o : Obj) : RowAt (w.alloc o) g0 gr gi n room gw xs st :=
  ⟨h.row.alloc o, h.own.alloc o, h.low⟩
theorem RowAt.drew {w : World} {g0 gr gi n : Nat} {room : Int} {gw : Bool} {xs : Nat → FlexV} {st : Nat → FxSt} (h : RowAt w g0 gr gi n room gw xs st) : RowAt w.drew g0 gr gi n room gw xs st := ⟨h.row, h.own, h.low⟩
theorem RowAt.at {w : World} {g0 gr gi n : Nat} {room : Int} {gw : Bool} {xs : Nat → FlexV} {st : Nat → FxSt} (h : RowAt w g0 gr gi n room gw xs st) {k : Nat} (hk : k < n) :
    ∀ j u, (frow xs st k)[j]? = some u → w.cell? ⟨gi, k * 9 + j, none⟩ = some u := fun j u hu => own_rowAt (frow_len xs st) h.own hk hu
theorem near_calls (a b : Int) (w : World) (ha : -68719476736000 ≤ a ∧ a ≤ 68719476736000) (hb : -68719476736000 ≤ b ∧ b ≤ 68719476736000) :
    Calls Try.prog 93 #[.int .i64 a, .int .i64 b] w fun e w' => e = .returned (.int .i64 (nearF a b)) ∧ w = w' := by
  obtain ⟨a0, a1⟩ := ha
  obtain ⟨b0, b1⟩ := hb
  by_cases h : max b (-b) < max a (-a)
  · have E := Lib.hid (show nearF a b = b from if_pos h)
    go_enter Try.func93, Try.ntmps93
    go_wp2_with fail
    go_ret
    exact ⟨by rw [E.out]; rfl, rfl⟩
  · have E := Lib.hid (show nearF a b = a from if_neg h)
    go_enter Try.func93, Try.ntmps93
    go_wp2_with fail
    go_ret
    exact ⟨by rw [E.out]; rfl, rfl⟩
theorem mains1_calls (b lo hi g s e lg is : Int) (sd : Bool) (w : World) : Calls Try.prog 74 #[.agg #[.int .i64 b, .int .i64 lo, .int .i64 hi, .int .i64 g, .int .i64 s, .int .i64 e, .int .i64 lg, .bool sd, .int .i64 is]] w fun e w' => e = .returned (.int .i64 lg) ∧ Below w.heap.size w w' := by
  have hbel := below_alloc (Below.refl _ w) (.cells #[.int .i64 b, .int .i64 lo, .int .i64 hi, .int .i64 g, .int .i64 s, .int .i64 e, .int .i64 lg, .bool sd, .int .i64 is] 103)
  go_enter Try.func74, Try.ntmps74
  go_wp2_with fail
  go_ret
  exact ⟨rfl, hbel⟩
theorem mains2_calls (b lo hi g s e lg is : Int) (sd : Bool) (w : World) : Calls Try.prog 78 #[.agg #[.int .i64 b, .int .i64 lo, .int .i64 hi, .int .i64 g, .int .i64 s, .int .i64 e, .int .i64 lg, .bool sd, .int .i64 is]] w fun e w' => e = .returned (.bool (!sd)) ∧ Below w.heap.size w w' := by
  have hbel := below_alloc (Below.refl _ w) (.cells #[.int .i64 b, .int .i64 lo, .int .i64 hi, .int .i64 g, .int .i64 s, .int .i64 e, .int .i64 lg, .bool sd, .int .i64 is] 103)
  go_enter Try.func78, Try.ntmps78
  go_wp2_with fail
  go_ret
  exact ⟨rfl, hbel⟩
theorem now1_calls (b lo hi g s e lg is : Int) (sd : Bool) (w : World) : Calls Try.prog 91 #[.agg #[.int .i64 b, .int .i64 lo, .int .i64 hi, .int .i64 g, .int .i64 s, .int .i64 e, .int .i64 lg, .bool sd, .int .i64 is]] w fun e w' => e = .returned (.int .i64 (if sd then is else b)) ∧ Below w.heap.size w w' := by
  have hbel := below_alloc (Below.refl _ w) (.cells #[.int .i64 b, .int .i64 lo, .int .i64 hi, .int .i64 g, .int .i64 s, .int .i64 e, .int .i64 lg, .bool sd, .int .i64 is] 103)
  cases sd
  · go_enter Try.func91, Try.ntmps91
    go_wp2_with fail
    go_ret
    exact ⟨rfl, hbel⟩
  · go_enter Try.func91, Try.ntmps91
    go_wp2_with fail
    go_ret
    exact ⟨rfl, hbel⟩
set_option maxRecDepth 100000 in
set_option maxHeartbeats 1000000 in
theorem factor_calls (b lo hi g s e lg is : Int) (sd gw : Bool) (gr : Nat) (room : Int) (v : Value) (w : World) (h : Blk w gr 100 #[.int .i64 room, v, .bool gw]) : Calls Try.prog 75 #[.pointer (some ⟨gr, 0, none⟩), .agg #[.int .i64 b, .int .i64 lo, .int .i64 hi, .int .i64 g, .int .i64 s, .int .i64 e, .int .i64 lg, .bool sd, .int .i64 is]] w fun e w' => e = .returned (.int .i64 (if gw then g else s)) ∧ Below w.heap.size w w' := by
  have hbel := below_alloc (Below.refl _ w) (.cells #[.int .i64 b, .int .i64 lo, .int .i64 hi, .int .i64 g, .int .i64 s, .int .i64 e, .int .i64 lg, .bool sd, .int .i64 is] 103)
  have c2 : (w.alloc (.cells #[.int .i64 b, .int .i64 lo, .int .i64 hi, .int .i64 g, .int .i64 s, .int .i64 e, .int .i64 lg, .bool sd, .int .i64 is] 103)).cell? ⟨gr, 2, none⟩ = some (.bool gw) := (h.alloc _).cell 2
  clear h
  cases gw
  · go_enter Try.func75, Try.ntmps75
    go_wp2_with fail
    go_ret
    exact ⟨rfl, hbel⟩
  · go_enter Try.func75, Try.ntmps75
    go_wp2_with fail
    go_ret
    exact ⟨rfl, hbel⟩
set_option maxRecDepth 100000 in
set_option maxHeartbeats 4000000 in
theorem freeLong_calls (g0 gr gi n : Nat) (room : Int) (gw : Bool) (xs : Nat → FlexV) (st : Nat → FxSt) (w : World) (h : RowAt w g0 gr gi n room gw xs st) (hx : ∀ i, FxOk (xs i)) (hs : StOk st) (hn : n ≤ 1000) (hr : -17179869184000 ≤ room ∧ room ≤ 17179869184000) :
    Calls Try.prog 73 #[.pointer (some ⟨gr, 0, none⟩), .func (.func 74) #[] #[]] w fun e w' => e = .returned (.int .i64 (freeF room n (fun i => long (xs i)) xs)) ∧ Below w.heap.size w w' := by
  have q0 : w.cell? ⟨gr, 0, none⟩ = some (.int .i64 room) := h.row.cell 0
  have q1 : w.cell? ⟨gr, 1, none⟩ = some (.slice (some ⟨gi, 0, none⟩) n n) := h.row.cell 1
  have H := Lib.hid h
  have HS := Lib.hid hs
  have HX := Lib.hid hx
  have HR := Lib.hid hr
  clear h hs hx hr
  go_enter Try.func73, Try.ntmps73
  go_wp2_with fail
  clear q0 q1
  go_loopw [5, 17] (fun v i wr => ∃ k : Nat, k ≤ n ∧ i = .int .i64 k ∧ v = .int .i64 (freeF room k (fun i => long (xs i)) xs) ∧ Below w.heap.size w wr) (fun _ i _ => n - (intOf i).toNat)
  case atStart => exact ⟨0, Nat.zero_le _, rfl, by simp [freeF, sumTo], Below.refl _ _⟩
  case round =>
    obtain ⟨k, hk, rfl, rfl, hbel⟩ := hrel
    by_cases hlt : k < n
    · have hR := H.out.below hbel
      have hat := hR.at hlt
      have hxk := HX.out k
      have hsk := HS.out k
      have hlk := long_bd (xs k)
      have hck := cur_bd (xs k) (st k) hxk hsk
      have hf := free_bd room k (fun i => long (xs i)) xs HX.out (fun i => by exact long_bd _) (by omega) HR.out
      have HSTEP := Lib.hid (show freeF room (k + 1) (fun i => long (xs i)) xs = freeF room k (fun i => long (xs i)) xs - ((long (xs k)) + (xs k).e) from by unfold freeF; simp only [sumTo]; omega)
      obtain ⟨p, hp⟩ : ∃ p, p = freeF room k (fun i => long (xs i)) xs := ⟨_, rfl⟩
      rw [← hp] at hf HSTEP ⊢
      obtain ⟨⟨b, lo, hi, g, s, e⟩, hxe⟩ : ∃ x, x = xs k := ⟨_, rfl⟩
      obtain ⟨⟨sd, is⟩, hse⟩ : ∃ x, x = st k := ⟨_, rfl⟩
      obtain ⟨lg, hle⟩ : ∃ x, x = long (xs k) := ⟨_, rfl⟩
      unfold frow at hat
      rw [← hle, ← hxe, ← hse] at hat
      rw [← hle] at hlk
      rw [← hxe, ← hse] at hck
      rw [← hxe] at hxk
      rw [← hle, ← hxe] at HSTEP
      obtain ⟨b0, b1, _, _, _, _, _, _, _, _, e0, e1⟩ := hxk
      simp only at b0 b1 e0 e1
      obtain ⟨f0, f1⟩ := hf
      have t0 : wr.cell? ⟨gi, k * 9, none⟩ = some (.int .i64 b) := hat 0 _ rfl
      have t1 : wr.cell? ⟨gi, k * 9 + 1, none⟩ = some (.int .i64 lo) := hat 1 _ rfl
      have t2 : wr.cell? ⟨gi, k * 9 + 2, none⟩ = some (.int .i64 hi) := hat 2 _ rfl
      have t3 : wr.cell? ⟨gi, k * 9 + 3, none⟩ = some (.int .i64 g) := hat 3 _ rfl
      have t4 : wr.cell? ⟨gi, k * 9 + 4, none⟩ = some (.int .i64 s) := hat 4 _ rfl
      have t5 : wr.cell? ⟨gi, k * 9 + 5, none⟩ = some (.int .i64 e) := hat 5 _ rfl
      have t6 : wr.cell? ⟨gi, k * 9 + 6, none⟩ = some (.int .i64 lg) := hat 6 _ rfl
      have t7 : wr.cell? ⟨gi, k * 9 + 7, none⟩ = some (.bool sd) := hat 7 _ rfl
      have t8 : wr.cell? ⟨gi, k * 9 + 8, none⟩ = some (.int .i64 is) := hat 8 _ rfl
      have KK := Lib.hid (show k ≤ n ∧ k < n from ⟨hk, hlt⟩)
      have HR2 := Lib.hid (hR.alloc (.cells #[.int .i64 b, .int .i64 lo, .int .i64 hi, .int .i64 g, .int .i64 s, .int .i64 e, .int .i64 lg, .bool sd, .int .i64 is] 103))
      have HB2 := Lib.hid (below_alloc hbel (.cells #[.int .i64 b, .int .i64 lo, .int .i64 hi, .int .i64 g, .int .i64 s, .int .i64 e, .int .i64 lg, .bool sd, .int .i64 is] 103))
      have HX2 := Lib.hid (Blk.new wr 103 #[.int .i64 b, .int .i64 lo, .int .i64 hi, .int .i64 g, .int .i64 s, .int .i64 e, .int .i64 lg, .bool sd, .int .i64 is])
      clear hat hp hxe hse hle hR hbel hsk
      go_wp2_with fail
      have hX := HX2.out
      have hR := HR2.out
      have hbel := HB2.out
      generalize hwz : World.alloc wr _ = wz at hX hR hbel ⊢
      have hX := hX.drew
      have hR := hR.drew
      have hbel := hbel.drew
      have hS0 : (fun w' : World => w'.cell? ⟨wr.heap.size, 0, none⟩ = some (.int .i64 b) ∧ w'.cell? ⟨wr.heap.size, 1, none⟩ = some (.int .i64 lo) ∧ w'.cell? ⟨wr.heap.size, 2, none⟩ = some (.int .i64 hi) ∧ w'.cell? ⟨wr.heap.size, 3, none⟩ = some (.int .i64 g) ∧ w'.cell? ⟨wr.heap.size, 4, none⟩ = some (.int .i64 s) ∧ w'.cell? ⟨wr.heap.size, 5, none⟩ = some (.int .i64 e) ∧ w'.cell? ⟨wr.heap.size, 6, none⟩ = some (.int .i64 lg) ∧ w'.cell? ⟨wr.heap.size, 7, none⟩ = some (.bool sd) ∧ w'.cell? ⟨wr.heap.size, 8, none⟩ = some (.int .i64 is)) wz.drew := ⟨hX.cell 0, hX.cell 1, hX.cell 2, hX.cell 3, hX.cell 4, hX.cell 5, hX.cell 6, hX.cell 7, hX.cell 8⟩
      have hck := hck
      have m1 : IntKind.i64.wrap (lg + e) = lg + e := IntWalk.i64_in _ (by omega)
      have m2 : IntKind.i64.wrap (p - (lg + e)) = p - (lg + e) := IntWalk.i64_in _ (by omega)
      clear hwz
      refine wp_region_noPanic ?_
      refine region_M (S := fun w' => w'.cell? ⟨wr.heap.size, 0, none⟩ = some (.int .i64 b) ∧ w'.cell? ⟨wr.heap.size, 1, none⟩ = some (.int .i64 lo) ∧ w'.cell? ⟨wr.heap.size, 2, none⟩ = some (.int .i64 hi) ∧ w'.cell? ⟨wr.heap.size, 3, none⟩ = some (.int .i64 g) ∧ w'.cell? ⟨wr.heap.size, 4, none⟩ = some (.int .i64 s) ∧ w'.cell? ⟨wr.heap.size, 5, none⟩ = some (.int .i64 e) ∧ w'.cell? ⟨wr.heap.size, 6, none⟩ = some (.int .i64 lg) ∧ w'.cell? ⟨wr.heap.size, 7, none⟩ = some (.bool sd) ∧ w'.cell? ⟨wr.heap.size, 8, none⟩ = some (.int .i64 is)) (T := []) (by kernel_rfl) ?_
      refine anyM_free (i := 0) (oi := { dst := some 21, op := _, type := _, pos := _, after := _, guard := _ }) (v := ?_) rfl (by kernel_rfl) (fun _ _ _ h => h) (Or.inl ⟨by kernel_rfl, ?_⟩) (fun _ => hS0) ?_
      rotate_left 1
      · (intro w hSw; (try dsimp only at hSw); go_simp; try with_reducible rfl)
      try simp only [Act.put, Array.toArray_toList, List.setIfInBounds_toArray, List.set_cons_zero, List.set_cons_succ]
      refine anyM_free (i := 1) (oi := { dst := some 22, op := _, type := _, pos := _, after := _, guard := _ }) (v := ?_) rfl (by kernel_rfl) (fun _ _ _ h => h) (Or.inl ⟨by kernel_rfl, ?_⟩) (fun _ => hS0) ?_
      rotate_left 1
      · (intro w hSw; (try dsimp only at hSw); go_simp; try with_reducible rfl)
      try simp only [Act.put, Array.toArray_toList, List.setIfInBounds_toArray, List.set_cons_zero, List.set_cons_succ]
      refine anyM_take (i := 2) (oi := { dst := some 23, op := _, type := _, pos := _, after := _, guard := _ }) (v := ?_) rfl (by kernel_rfl) (fun _ _ _ h => h) (Or.inl ⟨by kernel_rfl, ?_⟩) hS0 ?_
      rotate_left 1
      · (intro w hSw; (try dsimp only at hSw); go_simp; try with_reducible rfl)
      try simp only [Act.put, Array.toArray_toList, List.setIfInBounds_toArray, List.set_cons_zero, List.set_cons_succ]
      refine anyM_free (i := 4) (oi := { dst := some 25, op := _, type := _, pos := _, after := _, guard := _ }) (v := ?_) rfl (by kernel_rfl) (fun _ _ _ h => h) (Or.inl ⟨by kernel_rfl, ?_⟩) (fun _ => hS0) ?_
      rotate_left 1
      · (intro w hSw; (try dsimp only at hSw); go_simp; try with_reducible rfl)
      try simp only [Act.put, Array.toArray_toList, List.setIfInBounds_toArray, List.set_cons_zero, List.set_cons_succ]
      refine anyM_free (i := 5) (oi := { dst := some 26, op := _, type := _, pos := _, after := _, guard := _ }) (v := ?_) rfl (by kernel_rfl) (fun _ _ _ h => h) (Or.inl ⟨by kernel_rfl, ?_⟩) (fun _ => hS0) ?_
      rotate_left 1
      · (intro w hSw; (try dsimp only at hSw); go_simp; try with_reducible rfl)
      try simp only [Act.put, Array.toArray_toList, List.setIfInBounds_toArray, List.set_cons_zero, List.set_cons_succ]
      refine anyM_take (i := 6) (oi := { dst := some 27, op := _, type := _, pos := _, after := _, guard := _ }) (v := ?_) rfl (by kernel_rfl) (fun _ _ _ h => h) (Or.inl ⟨by kernel_rfl, ?_⟩) hS0 ?_
      rotate_left 1
      · (intro w hSw; (try dsimp only at hSw); go_simp; try with_reducible rfl)
      try simp only [Act.put, Array.toArray_toList, List.setIfInBounds_toArray, List.set_cons_zero, List.set_cons_succ]
      refine anyM_one (i := 3) (by kernel_rfl) rfl (fun K hK => ?_)
      go_simp
      refine (mains1_calls _ _ _ _ _ _ _ _ _ _).mono ?_
      rintro e w3 ⟨rfl, hb3⟩
      have hX := hX.below hb3 hX.lt
      have hR := hR.below hb3
      have hbel := below_then hbel hb3
      have hS0 : (fun w' : World => w'.cell? ⟨wr.heap.size, 0, none⟩ = some (.int .i64 b) ∧ w'.cell? ⟨wr.heap.size, 1, none⟩ = some (.int .i64 lo) ∧ w'.cell? ⟨wr.heap.size, 2, none⟩ = some (.int .i64 hi) ∧ w'.cell? ⟨wr.heap.size, 3, none⟩ = some (.int .i64 g) ∧ w'.cell? ⟨wr.heap.size, 4, none⟩ = some (.int .i64 s) ∧ w'.cell? ⟨wr.heap.size, 5, none⟩ = some (.int .i64 e) ∧ w'.cell? ⟨wr.heap.size, 6, none⟩ = some (.int .i64 lg) ∧ w'.cell? ⟨wr.heap.size, 7, none⟩ = some (.bool sd) ∧ w'.cell? ⟨wr.heap.size, 8, none⟩ = some (.int .i64 is)) w3 := ⟨hX.cell 0, hX.cell 1, hX.cell 2, hX.cell 3, hX.cell 4, hX.cell 5, hX.cell 6, hX.cell 7, hX.cell 8⟩
      refine hK.out _ _ (fun _ => hS0) ?_
      clear hK K
      try simp only [Act.put, Array.toArray_toList, List.setIfInBounds_toArray, List.set_cons_zero, List.set_cons_succ]
      refine anyM_free (i := 7) (oi := { dst := some 28, op := _, type := _, pos := _, after := _, guard := _ }) (v := ?_) rfl (by kernel_rfl) (fun _ _ _ h => h) (Or.inl ⟨by kernel_rfl, ?_⟩) (fun _ => hS0) ?_
      rotate_left 1
      · (intro w hSw; (try dsimp only at hSw); go_simp; try with_reducible rfl)
      try simp only [Act.put, Array.toArray_toList, List.setIfInBounds_toArray, List.set_cons_zero, List.set_cons_succ]
      refine anyM_free (i := 8) (oi := { dst := some 29, op := _, type := _, pos := _, after := _, guard := _ }) (v := ?_) rfl (by kernel_rfl) (fun _ _ _ h => h) (Or.inl ⟨by kernel_rfl, ?_⟩) (fun _ => hS0) ?_
      rotate_left 1
      · (intro w hSw; (try dsimp only at hSw); go_simp; try with_reducible rfl)
      try simp only [Act.put, Array.toArray_toList, List.setIfInBounds_toArray, List.set_cons_zero, List.set_cons_succ]
      refine anyM_free (i := 9) (oi := { dst := some 5, op := _, type := _, pos := _, after := _, guard := _ }) (v := ?_) rfl (by kernel_rfl) (fun _ _ _ h => h) (Or.inl ⟨by kernel_rfl, ?_⟩) (fun _ => hS0) ?_
      rotate_left 1
      · (intro w hSw; (try dsimp only at hSw); go_simp; try with_reducible rfl)
      try simp only [Act.put, Array.toArray_toList, List.setIfInBounds_toArray, List.set_cons_zero, List.set_cons_succ]
      refine anyM_done (by kernel_rfl) ?_ _
      refine NoPanic.normal ?_
      have HB9 := Lib.hid hbel
      clear hX hR hbel hS0 HR2 HB2 HX2 m1 m2
      go_wp2_with fail
      go_roundw
      case rel => exact ⟨k + 1, by have := KK.out; omega, by go_num, by rw [HSTEP.out], HB9.out⟩
      case measure => have := KK.out; simp [intOf]; omega
    · obtain rfl : k = n := by omega
      go_wp2_with fail
      go_ret
      exact ⟨rfl, hbel⟩
set_option maxRecDepth 100000 in
set_option maxHeartbeats 4000000 in
theorem freeNow_calls (g0 gr gi n : Nat) (room : Int) (gw : Bool) (xs : Nat → FlexV) (st : Nat → FxSt) (w : World) (h : RowAt w g0 gr gi n room gw xs st) (hx : ∀ i, FxOk (xs i)) (hs : StOk st) (hn : n ≤ 1000) (hr : -17179869184000 ≤ room ∧ room ≤ 17179869184000) :
    Calls Try.prog 73 #[.pointer (some ⟨gr, 0, none⟩), .func (.func 91) #[] #[]] w fun e w' => e = .returned (.int .i64 (freeF room n (fun i => curF (xs i) (st i)) xs)) ∧ Below w.heap.size w w' := by
  have q0 : w.cell? ⟨gr, 0, none⟩ = some (.int .i64 room) := h.row.cell 0
  have q1 : w.cell? ⟨gr, 1, none⟩ = some (.slice (some ⟨gi, 0, none⟩) n n) := h.row.cell 1
  have H := Lib.hid h
  have HS := Lib.hid hs
  have HX := Lib.hid hx
  have HR := Lib.hid hr
  clear h hs hx hr
  go_enter Try.func73, Try.ntmps73
  go_wp2_with fail
  clear q0 q1
  go_loopw [5, 17] (fun v i wr => ∃ k : Nat, k ≤ n ∧ i = .int .i64 k ∧ v = .int .i64 (freeF room k (fun i => curF (xs i) (st i)) xs) ∧ Below w.heap.size w wr) (fun _ i _ => n - (intOf i).toNat)
  case atStart => exact ⟨0, Nat.zero_le _, rfl, by simp [freeF, sumTo], Below.refl _ _⟩
  case round =>
    obtain ⟨k, hk, rfl, rfl, hbel⟩ := hrel
    by_cases hlt : k < n
    · have hR := H.out.below hbel
      have hat := hR.at hlt
      have hxk := HX.out k
      have hsk := HS.out k
      have hlk := long_bd (xs k)
      have hck := cur_bd (xs k) (st k) hxk hsk
      have hf := free_bd room k (fun i => curF (xs i) (st i)) xs HX.out (fun i => by exact cur_bd _ _ (HX.out i) (HS.out i)) (by omega) HR.out
      have HSTEP := Lib.hid (show freeF room (k + 1) (fun i => curF (xs i) (st i)) xs = freeF room k (fun i => curF (xs i) (st i)) xs - ((curF (xs k) (st k)) + (xs k).e) from by unfold freeF; simp only [sumTo]; omega)
      obtain ⟨p, hp⟩ : ∃ p, p = freeF room k (fun i => curF (xs i) (st i)) xs := ⟨_, rfl⟩
      rw [← hp] at hf HSTEP ⊢
      obtain ⟨⟨b, lo, hi, g, s, e⟩, hxe⟩ : ∃ x, x = xs k := ⟨_, rfl⟩
      obtain ⟨⟨sd, is⟩, hse⟩ : ∃ x, x = st k := ⟨_, rfl⟩
      obtain ⟨lg, hle⟩ : ∃ x, x = long (xs k) := ⟨_, rfl⟩
      unfold frow at hat
      rw [← hle, ← hxe, ← hse] at hat
      rw [← hle] at hlk
      rw [← hxe, ← hse] at hck
      rw [← hxe] at hxk
      rw [← hxe, ← hse] at HSTEP
      obtain ⟨b0, b1, _, _, _, _, _, _, _, _, e0, e1⟩ := hxk
      simp only at b0 b1 e0 e1
      obtain ⟨f0, f1⟩ := hf
      have t0 : wr.cell? ⟨gi, k * 9, none⟩ = some (.int .i64 b) := hat 0 _ rfl
      have t1 : wr.cell? ⟨gi, k * 9 + 1, none⟩ = some (.int .i64 lo) := hat 1 _ rfl
      have t2 : wr.cell? ⟨gi, k * 9 + 2, none⟩ = some (.int .i64 hi) := hat 2 _ rfl
      have t3 : wr.cell? ⟨gi, k * 9 + 3, none⟩ = some (.int .i64 g) := hat 3 _ rfl
      have t4 : wr.cell? ⟨gi, k * 9 + 4, none⟩ = some (.int .i64 s) := hat 4 _ rfl
      have t5 : wr.cell? ⟨gi, k * 9 + 5, none⟩ = some (.int .i64 e) := hat 5 _ rfl
      have t6 : wr.cell? ⟨gi, k * 9 + 6, none⟩ = some (.int .i64 lg) := hat 6 _ rfl
      have t7 : wr.cell? ⟨gi, k * 9 + 7, none⟩ = some (.bool sd) := hat 7 _ rfl
      have t8 : wr.cell? ⟨gi, k * 9 + 8, none⟩ = some (.int .i64 is) := hat 8 _ rfl
      have KK := Lib.hid (show k ≤ n ∧ k < n from ⟨hk, hlt⟩)
      have HR2 := Lib.hid (hR.alloc (.cells #[.int .i64 b, .int .i64 lo, .int .i64 hi, .int .i64 g, .int .i64 s, .int .i64 e, .int .i64 lg, .bool sd, .int .i64 is] 103))
      have HB2 := Lib.hid (below_alloc hbel (.cells #[.int .i64 b, .int .i64 lo, .int .i64 hi, .int .i64 g, .int .i64 s, .int .i64 e, .int .i64 lg, .bool sd, .int .i64 is] 103))
      have HX2 := Lib.hid (Blk.new wr 103 #[.int .i64 b, .int .i64 lo, .int .i64 hi, .int .i64 g, .int .i64 s, .int .i64 e, .int .i64 lg, .bool sd, .int .i64 is])
      clear hat hp hxe hse hle hR hbel hsk
      go_wp2_with fail
      have hX := HX2.out
      have hR := HR2.out
      have hbel := HB2.out
      generalize hwz : World.alloc wr _ = wz at hX hR hbel ⊢
      have hX := hX.drew
      have hR := hR.drew
      have hbel := hbel.drew
      have hS0 : (fun w' : World => w'.cell? ⟨wr.heap.size, 0, none⟩ = some (.int .i64 b) ∧ w'.cell? ⟨wr.heap.size, 1, none⟩ = some (.int .i64 lo) ∧ w'.cell? ⟨wr.heap.size, 2, none⟩ = some (.int .i64 hi) ∧ w'.cell? ⟨wr.heap.size, 3, none⟩ = some (.int .i64 g) ∧ w'.cell? ⟨wr.heap.size, 4, none⟩ = some (.int .i64 s) ∧ w'.cell? ⟨wr.heap.size, 5, none⟩ = some (.int .i64 e) ∧ w'.cell? ⟨wr.heap.size, 6, none⟩ = some (.int .i64 lg) ∧ w'.cell? ⟨wr.heap.size, 7, none⟩ = some (.bool sd) ∧ w'.cell? ⟨wr.heap.size, 8, none⟩ = some (.int .i64 is)) wz.drew := ⟨hX.cell 0, hX.cell 1, hX.cell 2, hX.cell 3, hX.cell 4, hX.cell 5, hX.cell 6, hX.cell 7, hX.cell 8⟩
      have hck := hck
      obtain ⟨q, hq⟩ : ∃ q, q = (if sd then is else b) := ⟨_, rfl⟩
      have HQ := Lib.hid hq
      have hcq : -16777216 ≤ q ∧ q ≤ 16777216 := by rw [hq]; exact hck
      have m0 : (if sd then is else b) = q := hq.symm
      clear hq
      have m1 : IntKind.i64.wrap (q + e) = q + e := IntWalk.i64_in _ (by omega)
      have m2 : IntKind.i64.wrap (p - (q + e)) = p - (q + e) := IntWalk.i64_in _ (by omega)
      clear hwz
      refine wp_region_noPanic ?_
      refine region_M (S := fun w' => w'.cell? ⟨wr.heap.size, 0, none⟩ = some (.int .i64 b) ∧ w'.cell? ⟨wr.heap.size, 1, none⟩ = some (.int .i64 lo) ∧ w'.cell? ⟨wr.heap.size, 2, none⟩ = some (.int .i64 hi) ∧ w'.cell? ⟨wr.heap.size, 3, none⟩ = some (.int .i64 g) ∧ w'.cell? ⟨wr.heap.size, 4, none⟩ = some (.int .i64 s) ∧ w'.cell? ⟨wr.heap.size, 5, none⟩ = some (.int .i64 e) ∧ w'.cell? ⟨wr.heap.size, 6, none⟩ = some (.int .i64 lg) ∧ w'.cell? ⟨wr.heap.size, 7, none⟩ = some (.bool sd) ∧ w'.cell? ⟨wr.heap.size, 8, none⟩ = some (.int .i64 is)) (T := []) (by kernel_rfl) ?_
      refine anyM_free (i := 0) (oi := { dst := some 21, op := _, type := _, pos := _, after := _, guard := _ }) (v := ?_) rfl (by kernel_rfl) (fun _ _ _ h => h) (Or.inl ⟨by kernel_rfl, ?_⟩) (fun _ => hS0) ?_
      rotate_left 1
      · (intro w hSw; (try dsimp only at hSw); go_simp; try with_reducible rfl)
      try simp only [Act.put, Array.toArray_toList, List.setIfInBounds_toArray, List.set_cons_zero, List.set_cons_succ]
      refine anyM_free (i := 1) (oi := { dst := some 22, op := _, type := _, pos := _, after := _, guard := _ }) (v := ?_) rfl (by kernel_rfl) (fun _ _ _ h => h) (Or.inl ⟨by kernel_rfl, ?_⟩) (fun _ => hS0) ?_
      rotate_left 1
      · (intro w hSw; (try dsimp only at hSw); go_simp; try with_reducible rfl)
      try simp only [Act.put, Array.toArray_toList, List.setIfInBounds_toArray, List.set_cons_zero, List.set_cons_succ]
      refine anyM_take (i := 2) (oi := { dst := some 23, op := _, type := _, pos := _, after := _, guard := _ }) (v := ?_) rfl (by kernel_rfl) (fun _ _ _ h => h) (Or.inl ⟨by kernel_rfl, ?_⟩) hS0 ?_
      rotate_left 1
      · (intro w hSw; (try dsimp only at hSw); go_simp; try with_reducible rfl)
      try simp only [Act.put, Array.toArray_toList, List.setIfInBounds_toArray, List.set_cons_zero, List.set_cons_succ]
      refine anyM_free (i := 4) (oi := { dst := some 25, op := _, type := _, pos := _, after := _, guard := _ }) (v := ?_) rfl (by kernel_rfl) (fun _ _ _ h => h) (Or.inl ⟨by kernel_rfl, ?_⟩) (fun _ => hS0) ?_
      rotate_left 1
      · (intro w hSw; (try dsimp only at hSw); go_simp; try with_reducible rfl)
      try simp only [Act.put, Array.toArray_toList, List.setIfInBounds_toArray, List.set_cons_zero, List.set_cons_succ]
      refine anyM_free (i := 5) (oi := { dst := some 26, op := _, type := _, pos := _, after := _, guard := _ }) (v := ?_) rfl (by kernel_rfl) (fun _ _ _ h => h) (Or.inl ⟨by kernel_rfl, ?_⟩) (fun _ => hS0) ?_
      rotate_left 1
      · (intro w hSw; (try dsimp only at hSw); go_simp; try with_reducible rfl)
      try simp only [Act.put, Array.toArray_toList, List.setIfInBounds_toArray, List.set_cons_zero, List.set_cons_succ]
      refine anyM_take (i := 6) (oi := { dst := some 27, op := _, type := _, pos := _, after := _, guard := _ }) (v := ?_) rfl (by kernel_rfl) (fun _ _ _ h => h) (Or.inl ⟨by kernel_rfl, ?_⟩) hS0 ?_
      rotate_left 1
      · (intro w hSw; (try dsimp only at hSw); go_simp; try with_reducible rfl)
      try simp only [Act.put, Array.toArray_toList, List.setIfInBounds_toArray, List.set_cons_zero, List.set_cons_succ]
      refine anyM_one (i := 3) (by kernel_rfl) rfl (fun K hK => ?_)
      go_simp
      refine (now1_calls _ _ _ _ _ _ _ _ _ _).mono ?_
      rintro e w3 ⟨rfl, hb3⟩
      have hX := hX.below hb3 hX.lt
      have hR := hR.below hb3
      have hbel := below_then hbel hb3
      have hS0 : (fun w' : World => w'.cell? ⟨wr.heap.size, 0, none⟩ = some (.int .i64 b) ∧ w'.cell? ⟨wr.heap.size, 1, none⟩ = some (.int .i64 lo) ∧ w'.cell? ⟨wr.heap.size, 2, none⟩ = some (.int .i64 hi) ∧ w'.cell? ⟨wr.heap.size, 3, none⟩ = some (.int .i64 g) ∧ w'.cell? ⟨wr.heap.size, 4, none⟩ = some (.int .i64 s) ∧ w'.cell? ⟨wr.heap.size, 5, none⟩ = some (.int .i64 e) ∧ w'.cell? ⟨wr.heap.size, 6, none⟩ = some (.int .i64 lg) ∧ w'.cell? ⟨wr.heap.size, 7, none⟩ = some (.bool sd) ∧ w'.cell? ⟨wr.heap.size, 8, none⟩ = some (.int .i64 is)) w3 := ⟨hX.cell 0, hX.cell 1, hX.cell 2, hX.cell 3, hX.cell 4, hX.cell 5, hX.cell 6, hX.cell 7, hX.cell 8⟩
      refine hK.out _ _ (fun _ => hS0) ?_
      clear hK K
      try simp only [Act.put, Array.toArray_toList, List.setIfInBounds_toArray, List.set_cons_zero, List.set_cons_succ]
      refine anyM_free (i := 7) (oi := { dst := some 28, op := _, type := _, pos := _, after := _, guard := _ }) (v := ?_) rfl (by kernel_rfl) (fun _ _ _ h => h) (Or.inl ⟨by kernel_rfl, ?_⟩) (fun _ => hS0) ?_
      rotate_left 1
      · (intro w hSw; (try dsimp only at hSw); go_simp; try with_reducible rfl)
      try simp only [Act.put, Array.toArray_toList, List.setIfInBounds_toArray, List.set_cons_zero, List.set_cons_succ]
      refine anyM_free (i := 8) (oi := { dst := some 29, op := _, type := _, pos := _, after := _, guard := _ }) (v := ?_) rfl (by kernel_rfl) (fun _ _ _ h => h) (Or.inl ⟨by kernel_rfl, ?_⟩) (fun _ => hS0) ?_
      rotate_left 1
      · (intro w hSw; (try dsimp only at hSw); go_simp; try with_reducible rfl)
      try simp only [Act.put, Array.toArray_toList, List.setIfInBounds_toArray, List.set_cons_zero, List.set_cons_succ]
      refine anyM_free (i := 9) (oi := { dst := some 5, op := _, type := _, pos := _, after := _, guard := _ }) (v := ?_) rfl (by kernel_rfl) (fun _ _ _ h => h) (Or.inl ⟨by kernel_rfl, ?_⟩) (fun _ => hS0) ?_
      rotate_left 1
      · (intro w hSw; (try dsimp only at hSw); go_simp; try with_reducible rfl)
      try simp only [Act.put, Array.toArray_toList, List.setIfInBounds_toArray, List.set_cons_zero, List.set_cons_succ]
      refine anyM_done (by kernel_rfl) ?_ _
      refine NoPanic.normal ?_
      have HB9 := Lib.hid hbel
      clear hX hR hbel hS0 HR2 HB2 HX2 m0 m1 m2
      go_wp2_with fail
      go_roundw
      case rel => exact ⟨k + 1, by have := KK.out; omega, by go_num, by rw [HSTEP.out]; rw [HQ.out]; rfl, HB9.out⟩
      case measure => have := KK.out; simp [intOf]; omega
    · obtain rfl : k = n := by omega
      go_wp2_with fail
      go_ret
      exact ⟨rfl, hbel⟩
end Go.Proofs.Ytpinfaoeggipmaa
