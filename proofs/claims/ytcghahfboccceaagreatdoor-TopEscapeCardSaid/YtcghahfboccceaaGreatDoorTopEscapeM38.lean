/- Several texts in one: TfN. -/
import Derived.Test.YtcghahfboccceaaGreatDoorTopEscapeM36
/- Contracts of reopen with nothing to open, of inBody at a text and at the end, of take and one. Printed by genTfN.py. -/
namespace Go.Proofs.YtcghahfboccceaaGreatDoor
open Go.RowKit Go.Shelf
set_option linter.unusedVariables false
set_option linter.unusedSimpArgs false

set_option maxRecDepth 100000 in
theorem last_nil (w : World) : Calls Tryz.prog 234 #[.slice none 0 0] w fun e w' => e = .returned (.int .i64 0) ∧ w' = w := by
  go_enter Tryz.func234, Tryz.ntmps234
  go_wp2
  go_loopw [3] (fun i wr => i = .int .i64 0 ∧ wr = w) (fun _ _ => 0)
  case atStart => exact ⟨rfl, rfl⟩
  case round =>
    obtain ⟨rfl, rfl⟩ := hrel
    go_wp2
    go_ret
    exact ⟨rfl, rfl⟩
set_option maxRecDepth 100000 in
set_option maxHeartbeats 1000000 in
theorem missing_nil (A : Option Addr) (n c : Nat) (w : World) : Calls Tryz.prog 209 #[.slice none 0 0, .slice A n c] w fun e w' => e = .returned (.int .i64 0) ∧ w' = w := by
  go_enter Tryz.func209, Tryz.ntmps209
  go_wp2
  go_loopw [5] (fun i wr => i = .int .i64 0 ∧ wr = w) (fun _ _ => 0)
  case atStart => exact ⟨rfl, rfl⟩
  case round =>
    obtain ⟨rfl, rfl⟩ := hrel
    go_wp2_with (go_at_call 234; refine (last_nil _).mono ?_; rintro e w1 ⟨rfl, rfl⟩)
    go_ret
    exact ⟨rfl, rfl⟩
set_option maxRecDepth 100000 in
set_option maxHeartbeats 2000000 in
theorem reopen_nil (B b : Nat) (m : Int) (S : PS) (w : World) (h : RP B b m S w) : Calls Tryz.prog 176 #[.pointer (some ⟨b, 0, none⟩)] w fun e w' => e = .returned (.tuple #[]) ∧ Below w.heap.size w w' := by
  obtain ⟨v, vo, ns, h⟩ := h
  obtain ⟨A, c, rfl⟩ := own_open h.tree.open'
  have c1 : w.cell? ⟨b, 1, none⟩ = some (.slice A S.op.length c) := h.blk.cell 1
  have c2 : w.cell? ⟨b, 2, none⟩ = some (.slice none 0 0) := h.blk.cell 2
  generalize S.op.length = n at c1
  clear h
  go_enter Tryz.func176, Tryz.ntmps176
  go_wp2
  go_quiet (first | (go_at_call 209; refine Calls.quiet_of_same (missing_nil _ _ _ _)))
  go_wp2
  have c2' : (w.drewN nq).cell? ⟨b, 2, none⟩ = some (.slice none 0 0) := c2
  have HB := Lib.hid (below_drewN (Below.refl w.heap.size w) nq)
  generalize w.drewN nq = w1 at c2' HB ⊢
  go_loopw [2] (fun i wr => i = .int .i64 0 ∧ wr = w1) (fun _ _ => 0)
  case atStart => exact ⟨rfl, rfl⟩
  case round =>
    obtain ⟨rfl, rfl⟩ := hrel
    go_wp2
    go_end0
    exact ⟨rfl, HB.out⟩
set_option maxRecDepth 100000 in
set_option maxHeartbeats 4000000 in
theorem inBody_txt (B b : Nat) (m : Int) (S : PS) (i : Nat) (x : Nd) (f t : Int) (tx : ByteArray) (A : Option Addr) (n c : Nat) (w : World) (h : RP B b m S w) (hi : S.op.getLast? = some (i : Int)) (hx : S.ns[i]? = some x) (hkl : x.kids = []) (hi0 : i ≠ 0) (ht : tx.size ≠ 0) (hf : S.ns.length < 100000) (hop : S.op.length < 100000) :
    Calls Tryz.prog 133 #[.pointer (some ⟨b, 0, none⟩), .agg #[.int .i64 3, .string ⟨#[]⟩, .slice A n c, .string tx, .bool false, .int .i64 f, .int .i64 t]] w fun e w' => e = .returned (.bool false) ∧ RP B b m (S.text i tx) w' ∧ Left B w w' := by
  obtain ⟨g, hg⟩ : ∃ g, g = w.heap.size := ⟨_, rfl⟩
  obtain ⟨wa, hwa⟩ : ∃ wa, wa = w.alloc (.cells #[.int .i64 3, .string ⟨#[]⟩, .slice A n c, .string tx, .bool false, .int .i64 f, .int .i64 t] 114) := ⟨_, rfl⟩
  have TB : Hid (Blk wa g 114 #[.int .i64 3, .string ⟨#[]⟩, .slice A n c, .string tx, .bool false, .int .i64 f, .int .i64 t]) := by show Blk _ _ _ _; rw [hwa, hg]; exact Blk.new w _ _
  have hb0 : Below w.heap.size w wa := by rw [hwa]; exact (Below.refl _ w).alloc (Nat.le_refl _) _
  have RR := Lib.hid (h.below hb0)
  have LL := Lib.hid (Left.of_below hb0 h.bw)
  have HWA := Lib.hid hwa
  have HG := Lib.hid hg
  have HTX := Lib.hid (fun W (hR : RP B b m S W) => ttext_calls B b m S i x tx W hR hi hx hkl hi0 ht hf hop)
  obtain ⟨S2, hS2⟩ : ∃ S2, S2 = S.text i tx := ⟨_, rfl⟩
  rw [← hS2] at HTX ⊢
  have k0 : wa.cell? ⟨g, 0, none⟩ = some (.int .i64 3) := TB.out.cell 0
  clear h hwa hg hb0 hi hx hkl ht hS2
  go_enter Tryz.func133, Tryz.ntmps133
  go_wp2_with (go_at_call 176; rw [← HWA.out, ← HG.out]; refine (reopen_nil B b m S _ RR.out).mono ?_; rintro e w1 ⟨rfl, hb⟩; (have LL := Lib.hid (LL.out.trans (Left.of_below hb RR.out.bw))); (have RR := Lib.hid (RR.out.below hb)); (have TB := Lib.hid (TB.out.below hb TB.out.lt)); (obtain ⟨k0, k1, k2, k3, k4, k5, k6⟩ := tok7 TB.out); clear hb)
  have hS0 : (fun w' : World => w'.cell? ⟨g, 3, none⟩ = some (.string tx)) w1 := TB.out.cell 3
  refine wp_region_noPanic ?_
  refine region_M (S := fun w' => w'.cell? ⟨g, 3, none⟩ = some (.string tx)) (T := []) (by kernel_rfl) ?_
  have hS0 : (fun w' : World => w'.cell? ⟨g, 3, none⟩ = some (.string tx)) (World.drew w1) := hS0
  have LL : Hid (Left B w (World.drew w1)) := LL.out.trans (Left.of_below (below_drewN (Below.refl _ _) 1) (by have := RR.out.bw; exact this))
  have RR : Hid (RP B b m S (World.drew w1)) := RR.out.below (below_drewN (Below.refl _ _) 1)
  have TB : Hid (Blk (World.drew w1) g 114 #[.int .i64 3, .string ⟨#[]⟩, .slice A n c, .string tx, .bool false, .int .i64 f, .int .i64 t]) := TB.out
  clear k0 k1 k2 k3 k4 k5 k6
  generalize World.drew w1 = wd at LL RR TB hS0 ⊢
  refine anyM_free (i := 0) (oi := { dst := some 14, op := _, type := _, pos := _, after := _, guard := _ }) (v := ?_) rfl (by kernel_rfl) (fun _ _ _ h => h) (Or.inl ⟨by kernel_rfl, ?_⟩) (fun _ => hS0) ?_
  rotate_left 1
  · (intro w hSw; (try dsimp only at hSw); go_simp; try with_reducible rfl)
  try simp only [Act.put, Array.toArray_toList, List.setIfInBounds_toArray, List.set_cons_zero, List.set_cons_succ]
  refine anyM_free (i := 1) (oi := { dst := some 15, op := _, type := _, pos := _, after := _, guard := _ }) (v := ?_) rfl (by kernel_rfl) (fun _ _ _ h => h) (Or.inl ⟨by kernel_rfl, ?_⟩) (fun _ => hS0) ?_
  rotate_left 1
  · (intro w hSw; (try dsimp only at hSw); go_simp; try with_reducible rfl)
  try simp only [Act.put, Array.toArray_toList, List.setIfInBounds_toArray, List.set_cons_zero, List.set_cons_succ]
  refine anyM_free (i := 2) (oi := { dst := some 16, op := _, type := _, pos := _, after := _, guard := _ }) (v := ?_) rfl (by kernel_rfl) (fun _ _ _ h => h) (Or.inl ⟨by kernel_rfl, ?_⟩) (fun _ => hS0) ?_
  rotate_left 1
  · (intro w hSw; (try dsimp only at hSw); go_simp; try with_reducible rfl)
  try simp only [Act.put, Array.toArray_toList, List.setIfInBounds_toArray, List.set_cons_zero, List.set_cons_succ]
  refine anyM_free (i := 3) (oi := { dst := some 17, op := _, type := _, pos := _, after := _, guard := _ }) (v := ?_) rfl (by kernel_rfl) (fun _ _ _ h => h) (Or.inl ⟨by kernel_rfl, ?_⟩) (fun _ => hS0) ?_
  rotate_left 1
  · (intro w hSw; (try dsimp only at hSw); go_simp; try with_reducible rfl)
  try simp only [Act.put, Array.toArray_toList, List.setIfInBounds_toArray, List.set_cons_zero, List.set_cons_succ]
  refine anyM_free (i := 4) (oi := { dst := some 18, op := _, type := _, pos := _, after := _, guard := _ }) (v := ?_) rfl (by kernel_rfl) (fun _ _ _ h => h) (Or.inl ⟨by kernel_rfl, ?_⟩) (fun _ => hS0) ?_
  rotate_left 1
  · (intro w hSw; (try dsimp only at hSw); go_simp; try with_reducible rfl)
  try simp only [Act.put, Array.toArray_toList, List.setIfInBounds_toArray, List.set_cons_zero, List.set_cons_succ]
  refine anyM_take (i := 5) (oi := { dst := some 19, op := _, type := _, pos := _, after := _, guard := _ }) (v := ?_) rfl (by kernel_rfl) (fun _ _ _ h => h) (Or.inl ⟨by kernel_rfl, ?_⟩) hS0 ?_
  rotate_left 1
  · (intro w hSw; (try dsimp only at hSw); go_simp; try with_reducible rfl)
  try simp only [Act.put, Array.toArray_toList, List.setIfInBounds_toArray, List.set_cons_zero, List.set_cons_succ]
  refine anyM_one (i := 6) (by kernel_rfl) rfl (fun K hK => ?_)
  go_simp
  refine (HTX.out _ RR.out).mono ?_
  rintro e w9 ⟨rfl, hr9, hl9⟩
  have R9 := Lib.hid hr9
  have L9 := Lib.hid (LL.out.trans hl9)
  have T9 := Lib.hid (hl9.keep.blk TB.out (by decide) (by decide) (by decide))
  have hS0 : (fun w' : World => w'.cell? ⟨g, 3, none⟩ = some (.string tx)) w9 := T9.out.cell 3
  clear hr9 hl9
  refine hK.out _ _ (fun _ => hS0) ?_
  clear hK K
  try simp only [Act.put, Array.toArray_toList, List.setIfInBounds_toArray, List.set_cons_zero, List.set_cons_succ]
  refine anyM_done (by kernel_rfl) ?_ _
  refine NoPanic.normal ?_
  clear hS0
  go_wp2_with fail
  go_ret
  exact ⟨rfl, R9.out, L9.out⟩
set_option maxRecDepth 100000 in
set_option maxHeartbeats 4000000 in
theorem inBody_over (B b : Nat) (m : Int) (S : PS) (w : World) (h : RP B b m S w) :
    Calls Tryz.prog 133 #[.pointer (some ⟨b, 0, none⟩), .agg #[.int .i64 0, .string ⟨#[]⟩, .slice none 0 0, .string ⟨#[]⟩, .bool false, .int .i64 0, .int .i64 0]] w fun e w' => e = .returned (.bool false) ∧ RP B b m S w' ∧ Left B w w' := by
  obtain ⟨g, hg⟩ : ∃ g, g = w.heap.size := ⟨_, rfl⟩
  obtain ⟨wa, hwa⟩ : ∃ wa, wa = w.alloc (.cells #[.int .i64 0, .string ⟨#[]⟩, .slice none 0 0, .string ⟨#[]⟩, .bool false, .int .i64 0, .int .i64 0] 114) := ⟨_, rfl⟩
  have TB : Hid (Blk wa g 114 #[.int .i64 0, .string ⟨#[]⟩, .slice none 0 0, .string ⟨#[]⟩, .bool false, .int .i64 0, .int .i64 0]) := by show Blk _ _ _ _; rw [hwa, hg]; exact Blk.new w _ _
  have hb0 : Below w.heap.size w wa := by rw [hwa]; exact (Below.refl _ w).alloc (Nat.le_refl _) _
  have RR := Lib.hid (h.below hb0)
  have LL := Lib.hid (Left.of_below hb0 h.bw)
  have HWA := Lib.hid hwa
  have HG := Lib.hid hg
  clear h hwa hg hb0
  go_enter Tryz.func133, Tryz.ntmps133
  go_wp2_with (first
    | (go_at_call 168; rw [← HWA.out, ← HG.out]; refine (said_no b 0 0 0 ⟨#[]⟩ ⟨#[]⟩ none 0 0 false m (by decide) _ RR.out.mx (by decide) (by rfl)).mono ?_; rintro e w1 ⟨rfl, hb⟩; (have LL := Lib.hid (LL.out.trans (Left.of_below hb RR.out.bw))); (have RR := Lib.hid (RR.out.below hb)); (have TB := Lib.hid (TB.out.below hb TB.out.lt)); (obtain ⟨k0, k1, k2, k3, k4, k5, k6⟩ := tok7 TB.out); clear hb)
    | (go_at_call 174; refine (tover_calls 0 0 0 ⟨#[]⟩ ⟨#[]⟩ none 0 0 false _).mono ?_; rintro e w1 ⟨rfl, hb⟩; (have LL := Lib.hid (LL.out.trans (Left.of_below hb RR.out.bw))); (have RR := Lib.hid (RR.out.below hb)); (have TB := Lib.hid (TB.out.below hb TB.out.lt)); (obtain ⟨k0, k1, k2, k3, k4, k5, k6⟩ := tok7 TB.out); clear hb))
  go_ret
  exact ⟨rfl, RR.out, LL.out⟩
set_option maxRecDepth 100000 in
set_option maxHeartbeats 4000000 in
theorem take_0 (b : Nat) (kind f t : Int) (nm tx : ByteArray) (A : Option Addr) (n c : Nat) (sf q : Bool) (R : World → Prop) (w : World) (h : Calls Tryz.prog 127 #[.pointer (some ⟨b, 0, none⟩), .agg #[.int .i64 kind, .string nm, .slice A n c, .string tx, .bool sf, .int .i64 f, .int .i64 t]] (w.alloc (.cells #[.int .i64 kind, .string nm, .slice A n c, .string tx, .bool sf, .int .i64 f, .int .i64 t] 114)) fun e w' => e = .returned (.bool q) ∧ R w') :
    Calls Tryz.prog 92 #[.pointer (some ⟨b, 0, none⟩), .int .i64 0, .agg #[.int .i64 kind, .string nm, .slice A n c, .string tx, .bool sf, .int .i64 f, .int .i64 t]] w fun e w' => e = .returned (.bool q) ∧ R w' := by
  have H := Lib.hid h
  clear h
  go_enter Tryz.func92, Tryz.ntmps92
  go_wp2_with (go_at_call 127; refine H.out.mono ?_; rintro e w1 ⟨rfl, hr⟩)
  go_ret
  exact ⟨rfl, hr⟩
set_option maxRecDepth 100000 in
set_option maxHeartbeats 4000000 in
theorem take_1 (b : Nat) (kind f t : Int) (nm tx : ByteArray) (A : Option Addr) (n c : Nat) (sf q : Bool) (R : World → Prop) (w : World) (h : Calls Tryz.prog 128 #[.pointer (some ⟨b, 0, none⟩), .agg #[.int .i64 kind, .string nm, .slice A n c, .string tx, .bool sf, .int .i64 f, .int .i64 t]] (w.alloc (.cells #[.int .i64 kind, .string nm, .slice A n c, .string tx, .bool sf, .int .i64 f, .int .i64 t] 114)) fun e w' => e = .returned (.bool q) ∧ R w') :
    Calls Tryz.prog 92 #[.pointer (some ⟨b, 0, none⟩), .int .i64 1, .agg #[.int .i64 kind, .string nm, .slice A n c, .string tx, .bool sf, .int .i64 f, .int .i64 t]] w fun e w' => e = .returned (.bool q) ∧ R w' := by
  have H := Lib.hid h
  clear h
  go_enter Tryz.func92, Tryz.ntmps92
  go_wp2_with (go_at_call 128; refine H.out.mono ?_; rintro e w1 ⟨rfl, hr⟩)
  go_ret
  exact ⟨rfl, hr⟩
set_option maxRecDepth 100000 in
set_option maxHeartbeats 4000000 in
theorem take_2 (b : Nat) (kind f t : Int) (nm tx : ByteArray) (A : Option Addr) (n c : Nat) (sf q : Bool) (R : World → Prop) (w : World) (h : Calls Tryz.prog 129 #[.pointer (some ⟨b, 0, none⟩), .agg #[.int .i64 kind, .string nm, .slice A n c, .string tx, .bool sf, .int .i64 f, .int .i64 t]] (w.alloc (.cells #[.int .i64 kind, .string nm, .slice A n c, .string tx, .bool sf, .int .i64 f, .int .i64 t] 114)) fun e w' => e = .returned (.bool q) ∧ R w') :
    Calls Tryz.prog 92 #[.pointer (some ⟨b, 0, none⟩), .int .i64 2, .agg #[.int .i64 kind, .string nm, .slice A n c, .string tx, .bool sf, .int .i64 f, .int .i64 t]] w fun e w' => e = .returned (.bool q) ∧ R w' := by
  have H := Lib.hid h
  clear h
  go_enter Tryz.func92, Tryz.ntmps92
  go_wp2_with (go_at_call 129; refine H.out.mono ?_; rintro e w1 ⟨rfl, hr⟩)
  go_ret
  exact ⟨rfl, hr⟩
set_option maxRecDepth 100000 in
set_option maxHeartbeats 4000000 in
theorem take_3 (b : Nat) (kind f t : Int) (nm tx : ByteArray) (A : Option Addr) (n c : Nat) (sf q : Bool) (R : World → Prop) (w : World) (h : Calls Tryz.prog 130 #[.pointer (some ⟨b, 0, none⟩), .agg #[.int .i64 kind, .string nm, .slice A n c, .string tx, .bool sf, .int .i64 f, .int .i64 t]] (w.alloc (.cells #[.int .i64 kind, .string nm, .slice A n c, .string tx, .bool sf, .int .i64 f, .int .i64 t] 114)) fun e w' => e = .returned (.bool q) ∧ R w') :
    Calls Tryz.prog 92 #[.pointer (some ⟨b, 0, none⟩), .int .i64 3, .agg #[.int .i64 kind, .string nm, .slice A n c, .string tx, .bool sf, .int .i64 f, .int .i64 t]] w fun e w' => e = .returned (.bool q) ∧ R w' := by
  have H := Lib.hid h
  clear h
  go_enter Tryz.func92, Tryz.ntmps92
  go_wp2_with (go_at_call 130; refine H.out.mono ?_; rintro e w1 ⟨rfl, hr⟩)
  go_ret
  exact ⟨rfl, hr⟩
set_option maxRecDepth 100000 in
set_option maxHeartbeats 4000000 in
theorem take_5 (b : Nat) (kind f t : Int) (nm tx : ByteArray) (A : Option Addr) (n c : Nat) (sf q : Bool) (R : World → Prop) (w : World) (h : Calls Tryz.prog 132 #[.pointer (some ⟨b, 0, none⟩), .agg #[.int .i64 kind, .string nm, .slice A n c, .string tx, .bool sf, .int .i64 f, .int .i64 t]] (w.alloc (.cells #[.int .i64 kind, .string nm, .slice A n c, .string tx, .bool sf, .int .i64 f, .int .i64 t] 114)) fun e w' => e = .returned (.bool q) ∧ R w') :
    Calls Tryz.prog 92 #[.pointer (some ⟨b, 0, none⟩), .int .i64 5, .agg #[.int .i64 kind, .string nm, .slice A n c, .string tx, .bool sf, .int .i64 f, .int .i64 t]] w fun e w' => e = .returned (.bool q) ∧ R w' := by
  have H := Lib.hid h
  clear h
  go_enter Tryz.func92, Tryz.ntmps92
  go_wp2_with (go_at_call 132; refine H.out.mono ?_; rintro e w1 ⟨rfl, hr⟩)
  go_ret
  exact ⟨rfl, hr⟩
set_option maxRecDepth 100000 in
set_option maxHeartbeats 4000000 in
theorem take_6 (b : Nat) (kind f t : Int) (nm tx : ByteArray) (A : Option Addr) (n c : Nat) (sf q : Bool) (R : World → Prop) (w : World) (h : Calls Tryz.prog 133 #[.pointer (some ⟨b, 0, none⟩), .agg #[.int .i64 kind, .string nm, .slice A n c, .string tx, .bool sf, .int .i64 f, .int .i64 t]] (w.alloc (.cells #[.int .i64 kind, .string nm, .slice A n c, .string tx, .bool sf, .int .i64 f, .int .i64 t] 114)) fun e w' => e = .returned (.bool q) ∧ R w') :
    Calls Tryz.prog 92 #[.pointer (some ⟨b, 0, none⟩), .int .i64 6, .agg #[.int .i64 kind, .string nm, .slice A n c, .string tx, .bool sf, .int .i64 f, .int .i64 t]] w fun e w' => e = .returned (.bool q) ∧ R w' := by
  have H := Lib.hid h
  clear h
  go_enter Tryz.func92, Tryz.ntmps92
  go_wp2_with (go_at_call 133; refine H.out.mono ?_; rintro e w1 ⟨rfl, hr⟩)
  go_ret
  exact ⟨rfl, hr⟩
end Go.Proofs.YtcghahfboccceaaGreatDoor
