/- Several texts in one: TfG, TfH. -/
import Derived.Test.YtcghahfboccceaaGreatDoorTopEscapeM31
import Derived.Test.YtcghahfboccceaaGreatDoorTopEscapeM17
/- Contracts of the tree's start, text. Printed by genTfG.py. -/
namespace Go.Proofs.YtcghahfboccceaaGreatDoor
open Go.RowKit Go.Shelf
set_option linter.unusedVariables false
set_option linter.unusedSimpArgs false

theorem last_at {l : List Int} {k : Int} (h : l.getLast? = some k) : 0 < l.length := by cases l with | nil => cases h | cons => simp
set_option maxRecDepth 100000 in
set_option maxHeartbeats 4000000 in
theorem start_calls (B b : Nat) (m : Int) (S : PS) (i : Nat) (x : Nd) (nm : ByteArray) (av : Value) (attrs : List (ByteArray × ByteArray)) (w : World) (h : RP B b m S w) (hat : AttrsAt B av attrs w) (hi : S.op.getLast? = some (i : Int)) (hx : S.ns[i]? = some x) (hf : S.ns.length < 100000) (hkl : x.kids.length < 100000) (hal : attrs.length ≤ 100000) (hop : S.op.length < 100000) :
    Calls Tryz.prog 169 #[.pointer (some ⟨b, 0, none⟩), .string nm, av] w fun e w' => e = .returned (.int .i64 (S.ns.length : Int)) ∧ RP B b m (S.element i nm attrs) w' ∧ Left B w w' := by
  have hBw : B ≤ w.heap.size := by obtain ⟨_, _, _, h'⟩ := h; exact h'.bw
  obtain ⟨kl, hk⟩ : ∃ kl, kl = x.kids.length := ⟨_, rfl⟩
  obtain ⟨S', hS'⟩ : ∃ S', S' = S.element i nm attrs := ⟨_, rfl⟩
  obtain ⟨n, hn⟩ : ∃ n, n = S.ns.length := ⟨_, rfl⟩
  have HT := Lib.hid (top_calls B b m S (i : Int) w h hi (by omega))
  have HP := Lib.hid (fun w1 (hb : Below w.heap.size w w1) => place_calls B b m S i kl x w1 (h.below hb) hx hk.symm)
  have HE := Lib.hid (fun w1 (hb : Below w.heap.size w w1) => element_calls B b m S i kl x nm av attrs w1 (h.below hb) (own_below hat hb) hx hk.symm hf (by omega) hal hop)
  rw [← hS', ← hn] at HE
  rw [← hS', ← hn]
  have HBW := Lib.hid hBw
  obtain ⟨A1, c1, rfl⟩ := hat.open
  clear h hat hi hx hk hS' hn hBw
  go_enter Tryz.func169, Tryz.ntmps169
  go_wp2_with (first
    | (go_at_call 205; refine HT.out.mono ?_; rintro e w1 ⟨rfl, hb1⟩; (have HB1 := Lib.hid hb1))
    | (go_at_call 204; refine (HP.out _ HB1.out).mono ?_; rintro e w2 ⟨rfl, hb2⟩; (have HB2 := Lib.hid (below_then HB1.out hb2)))
    | (go_at_call 22; refine (HE.out _ HB2.out).mono ?_; rintro e w3 ⟨rfl, hr3, hl3⟩))
  go_ret
  exact ⟨rfl, hr3, (Left.of_below HB2.out HBW.out).trans hl3⟩
/-- A text put. -/
def PS.text (S : PS) (i : Nat) (t : ByteArray) : PS := ({ S with ns := S.ns ++ [⟨3, ⟨#[]⟩, [], t, -1, []⟩] } : PS).put i S.ns.length
set_option maxRecDepth 100000 in
set_option maxHeartbeats 8000000 in
theorem ttext_calls (B b : Nat) (m : Int) (S : PS) (i : Nat) (x : Nd) (t : ByteArray) (w : World) (h : RP B b m S w) (hi : S.op.getLast? = some (i : Int)) (hx : S.ns[i]? = some x) (hkl : x.kids = []) (hi0 : i ≠ 0) (ht : t.size ≠ 0) (hf : S.ns.length < 100000) (hop : S.op.length < 100000) :
    Calls Tryz.prog 170 #[.pointer (some ⟨b, 0, none⟩), .string t] w fun e w' => e = .returned (.tuple #[]) ∧ RP B b m (S.text i t) w' ∧ Left B w w' := by
  have hBw : B ≤ w.heap.size := by obtain ⟨_, _, _, h'⟩ := h; exact h'.bw
  obtain ⟨n, hn⟩ : ∃ n, n = S.ns.length := ⟨_, rfl⟩
  obtain ⟨S1, hS1⟩ : ∃ S1 : PS, S1 = { S with ns := S.ns ++ [⟨3, ⟨#[]⟩, [], t, -1, []⟩] } := ⟨_, rfl⟩
  have hx1 : S1.ns[i]? = some x := by rw [hS1]; exact own_nm hx
  have hn1 : n < S1.ns.length := by rw [hS1, hn]; simp
  have HE : Hid (S.text i t = S1.put i n) := by show _ = _; rw [hS1, hn]; rfl
  have HMK := Lib.hid (fun (W : World) (hR : RP B b m S W) => make_calls B b m S 3 0 ⟨#[]⟩ t (.slice none 0 0) [] W hR (AttrsAt.none B W) hf)
  rw [← hS1, ← hn] at HMK
  have HPT := Lib.hid (fun (W : World) (hR : RP B b m S1 W) => tput_calls B b m S1 i n 0 x W hR hx1 (by rw [hkl]; rfl) hn1 (by omega))
  have HT := Lib.hid (top_calls B b m S (i : Int) w h hi (by omega))
  have HP := Lib.hid (fun w1 (hb : Below w.heap.size w w1) => place_calls B b m S i 0 x w1 (h.below hb) hx (by rw [hkl]; rfl))
  have HR := Lib.hid h
  have HBW := Lib.hid hBw
  have e1 : ((i : Int) == 0) = false := by simp; omega
  have e2 : t.toList.isEmpty = false := by rw [isEmpty_size]; exact beq_eq_false_iff_ne.2 ht
  have HX := Lib.hid hx
  have HKL := Lib.hid hkl
  clear hS1 hx1 hn1 hn hi hx hkl hBw h ht
  go_enter Tryz.func170, Tryz.ntmps170
  go_wp2_with (first
    | (go_at_call 205; refine HT.out.mono ?_; rintro e w1 ⟨rfl, hb1⟩; (have HB1 := Lib.hid hb1))
    | (go_at_call 204; refine (HP.out _ HB1.out).mono ?_; rintro e w2 ⟨rfl, hb2⟩; (have HB2 := Lib.hid (below_then HB1.out hb2))))
  obtain ⟨g4, hg4⟩ : ∃ g4, g4 = w2.heap.size := ⟨_, rfl⟩
  obtain ⟨wa, hwa⟩ : ∃ wa, wa = w2.alloc (.cells #[.int .i64 (i : Int), .int .i64 0] 59) := ⟨_, rfl⟩
  have P0 : Hid (Blk wa g4 59 #[.int .i64 (i : Int), .int .i64 0]) := by show Blk _ _ _ _; rw [hwa, hg4]; exact Blk.new w2 _ _
  have B0 : Hid (Below w.heap.size w wa) := by show Below _ _ _; rw [hwa]; exact HB2.out.alloc HB2.out.size _
  rw [← hwa, ← hg4]
  have R0 := HR.out.below B0.out
  obtain ⟨v, vo, ns, hR0⟩ := R0
  obtain ⟨hil, hab⟩ := hR0.at_ HX.out
  obtain ⟨g, cap, rfl⟩ := hR0.nodes HX.out
  have c0 : wa.cell? ⟨b, 0, none⟩ = some (.slice (some ⟨g, 0, none⟩) ns.length cap) := hR0.blk.cell 0
  have c4 : wa.cell? ⟨g4, 0, none⟩ = some (.int .i64 (i : Int)) := P0.out.cell 0
  have c41 : wa.cell? ⟨g4, 1, none⟩ = some (.int .i64 0) := P0.out.cell 1
  have hkl0 : ns[i].kids.length = 0 := by
    have : (ns[i].abs).kids = [] := by rw [hab]; exact HKL.out
    rw [show ns[i].kids = [] from this]; rfl
  have c5 : wa.cell? ⟨g, i * 6 + 5, none⟩ = some (.slice ns[i].kidsA 0 ns[i].kcap) := by rw [← hkl0]; exact hR0.tree.cell hil rfl
  obtain ⟨nn, hnn⟩ : ∃ nn, nn = ns.length := ⟨_, rfl⟩
  rw [← hnn] at c0
  have hin : i < nn := by omega
  generalize ns[i].kidsA = kA at c5
  generalize ns[i].kcap = kc at c5
  have RR : Hid (RP B b m S wa) := ⟨_, _, _, hR0⟩
  clear hwa hg4 hb1 hb2 hR0 hab hkl0 hnn
  go_wp2
  go_quiet (fail)
  have RR : Hid (RP B b m S (wa.drewN nq)) := RR.out.below (below_drewN (Below.refl _ _) nq)
  have P0 : Hid (Blk (wa.drewN nq) g4 59 #[.int .i64 (i : Int), .int .i64 0]) := P0.out
  have B0 : Hid (Below w.heap.size w (wa.drewN nq)) := below_drewN B0.out nq
  have c0 : (wa.drewN nq).cell? ⟨b, 0, none⟩ = some (.slice (some ⟨g, 0, none⟩) nn cap) := c0
  have c4 : (wa.drewN nq).cell? ⟨g4, 0, none⟩ = some (.int .i64 (i : Int)) := c4
  have c41 : (wa.drewN nq).cell? ⟨g4, 1, none⟩ = some (.int .i64 0) := c41
  have c5 : (wa.drewN nq).cell? ⟨g, i * 6 + 5, none⟩ = some (.slice kA 0 kc) := c5
  generalize wa.drewN nq = wb at RR P0 B0 c0 c4 c41 c5 ⊢
  clear nq
  go_wp2
  go_quiet (fail)
  have RR : Hid (RP B b m S (wb.drewN nq)) := RR.out.below (below_drewN (Below.refl _ _) nq)
  have P0 : Hid (Blk (wb.drewN nq) g4 59 #[.int .i64 (i : Int), .int .i64 0]) := P0.out
  have B0 : Hid (Below w.heap.size w (wb.drewN nq)) := below_drewN B0.out nq
  have c0 : (wb.drewN nq).cell? ⟨b, 0, none⟩ = some (.slice (some ⟨g, 0, none⟩) nn cap) := c0
  have c4 : (wb.drewN nq).cell? ⟨g4, 0, none⟩ = some (.int .i64 (i : Int)) := c4
  have c41 : (wb.drewN nq).cell? ⟨g4, 1, none⟩ = some (.int .i64 0) := c41
  have c5 : (wb.drewN nq).cell? ⟨g, i * 6 + 5, none⟩ = some (.slice kA 0 kc) := c5
  generalize wb.drewN nq = wc at RR P0 B0 c0 c4 c41 c5 ⊢
  clear nq
  go_upto_region 2 with fail
  have hS0 : (fun w' : World => w'.cell? ⟨g4, 0, none⟩ = some (.int .i64 (i : Int)) ∧ w'.cell? ⟨g4, 1, none⟩ = some (.int .i64 0)) (World.drew wc) := ⟨c4, c41⟩
  have RR : Hid (RP B b m S (World.drew wc)) := RR.out.below (below_drewN (Below.refl _ _) 1)
  have P0 : Hid (Blk (World.drew wc) g4 59 #[.int .i64 (i : Int), .int .i64 0]) := P0.out
  have B0 : Hid (Below w.heap.size w (World.drew wc)) := B0.out.drew
  clear c0 c4 c41 c5
  refine wp_region_noPanic ?_
  refine region_M (S := fun w' => w'.cell? ⟨g4, 0, none⟩ = some (.int .i64 (i : Int)) ∧ w'.cell? ⟨g4, 1, none⟩ = some (.int .i64 0)) (T := []) (by kernel_rfl) ?_
  generalize World.drew wc = wd at RR P0 B0 hS0 ⊢
  refine anyM_free (i := 0) (oi := { dst := some 19, op := _, type := _, pos := _, after := _, guard := _ }) (v := ?_) rfl (by kernel_rfl) (fun _ _ _ h => h) (Or.inl ⟨by kernel_rfl, ?_⟩) (fun _ => hS0) ?_
  rotate_left 1
  · (intro w hSw; (try dsimp only at hSw); go_simp; try with_reducible rfl)
  try simp only [Act.put, Array.toArray_toList, List.setIfInBounds_toArray, List.set_cons_zero, List.set_cons_succ]
  refine anyM_take (i := 1) (oi := { dst := some 20, op := _, type := _, pos := _, after := _, guard := _ }) (v := ?_) rfl (by kernel_rfl) (fun _ _ _ h => h) (Or.inl ⟨by kernel_rfl, ?_⟩) hS0 ?_
  rotate_left 1
  · (intro w hSw; (try dsimp only at hSw); go_simp; try with_reducible rfl)
  try simp only [Act.put, Array.toArray_toList, List.setIfInBounds_toArray, List.set_cons_zero, List.set_cons_succ]
  refine anyM_free (i := 2) (oi := { dst := some 21, op := _, type := _, pos := _, after := _, guard := _ }) (v := ?_) rfl (by kernel_rfl) (fun _ _ _ h => h) (Or.inl ⟨by kernel_rfl, ?_⟩) (fun _ => hS0) ?_
  rotate_left 1
  · (intro w hSw; (try dsimp only at hSw); go_simp; try with_reducible rfl)
  try simp only [Act.put, Array.toArray_toList, List.setIfInBounds_toArray, List.set_cons_zero, List.set_cons_succ]
  refine anyM_free (i := 3) (oi := { dst := some 22, op := _, type := _, pos := _, after := _, guard := _ }) (v := ?_) rfl (by kernel_rfl) (fun _ _ _ h => h) (Or.inl ⟨by kernel_rfl, ?_⟩) (fun _ => hS0) ?_
  rotate_left 1
  · (intro w hSw; (try dsimp only at hSw); go_simp; try with_reducible rfl)
  try simp only [Act.put, Array.toArray_toList, List.setIfInBounds_toArray, List.set_cons_zero, List.set_cons_succ]
  refine anyM_free (i := 4) (oi := { dst := some 23, op := _, type := _, pos := _, after := _, guard := _ }) (v := ?_) rfl (by kernel_rfl) (fun _ _ _ h => h) (Or.inl ⟨by kernel_rfl, ?_⟩) (fun _ => hS0) ?_
  rotate_left 1
  · (intro w hSw; (try dsimp only at hSw); go_simp; try with_reducible rfl)
  try simp only [Act.put, Array.toArray_toList, List.setIfInBounds_toArray, List.set_cons_zero, List.set_cons_succ]
  refine anyM_one (i := 5) (by kernel_rfl) rfl (fun K hK => ?_)
  go_simp
  refine (HMK.out _ RR.out).mono ?_
  rintro e w7 ⟨rfl, hr7, hl7⟩
  have P7 := Lib.hid (hl7.keep.blk P0.out (by decide) (by decide) (by decide))
  have HP7 := Lib.hid (HPT.out _ hr7)
  have L7 := Lib.hid hl7
  have hS0 : (fun w' : World => w'.cell? ⟨g4, 0, none⟩ = some (.int .i64 (i : Int)) ∧ w'.cell? ⟨g4, 1, none⟩ = some (.int .i64 0)) w7 := ⟨P7.out.cell 0, P7.out.cell 1⟩
  clear hr7 hl7
  refine hK.out _ _ (fun _ => hS0) ?_
  clear hK K
  try simp only [Act.put, Array.toArray_toList, List.setIfInBounds_toArray, List.set_cons_zero, List.set_cons_succ]
  refine anyM_one (i := 6) (by kernel_rfl) rfl (fun K hK => ?_)
  go_simp
  refine HP7.out.mono ?_
  rintro e w8 ⟨rfl, hr8, hl8⟩
  have P8 := Lib.hid (hl8.keep.blk P7.out (by decide) (by decide) (by decide))
  have hS0 : (fun w' : World => w'.cell? ⟨g4, 0, none⟩ = some (.int .i64 (i : Int)) ∧ w'.cell? ⟨g4, 1, none⟩ = some (.int .i64 0)) w8 := ⟨P8.out.cell 0, P8.out.cell 1⟩
  have R8 := Lib.hid hr8
  have L8 := Lib.hid hl8
  clear hr8 hl8
  refine hK.out _ _ (fun _ => hS0) ?_
  clear hK K
  try simp only [Act.put, Array.toArray_toList, List.setIfInBounds_toArray, List.set_cons_zero, List.set_cons_succ]
  refine anyM_done (by kernel_rfl) ?_ _
  refine NoPanic.normal ?_
  clear hS0
  go_wp2_with fail
  go_end0
  refine ⟨rfl, by rw [HE.out]; exact R8.out, ?_⟩
  exact ((Left.of_below B0.out HBW.out).trans L7.out).trans L8.out
end Go.Proofs.YtcghahfboccceaaGreatDoor
/- Contracts of a token's start, end, over; of open.Has in a button's scope, the tree's names, in. -/
namespace Go.Proofs.YtcghahfboccceaaGreatDoor
open Go.RowKit Go.Shelf
set_option linter.unusedVariables false
set_option linter.unusedSimpArgs false

section
variable (kind f t : Int) (nm tx list : ByteArray) (A : Option Addr) (n c : Nat) (sf : Bool) (m : Int) (hs : nm.size ≤ 100000) (hl : list.size ≤ 100000) (w : World) (hm : w.cell? ⟨0, 0, none⟩ = some (.int .i64 m))
include hs hl hm
set_option maxRecDepth 100000 in
set_option maxHeartbeats 2000000 in
theorem tstart_calls : Calls Tryz.prog 165 #[.agg #[.int .i64 kind, .string nm, .slice A n c, .string tx, .bool sf, .int .i64 f, .int .i64 t], .string list] w fun e w' => e = .returned (.bool ((kind == 1) && oneP nm list)) ∧ Below w.heap.size w w' := by
  have hB := (Below.refl w.heap.size w).alloc (Nat.le_refl _) (.cells #[.int .i64 kind, .string nm, .slice A n c, .string tx, .bool sf, .int .i64 f, .int .i64 t] 114)
  have H := Lib.hid (oneOf_calls nm list m hs hl _ ((hB.cell (p := ⟨0, 0, none⟩) (block_lt_of_cell hm)).trans hm))
  have HB := Lib.hid hB
  clear hm hB hs hl
  cases h1 : (kind == 1)
  · go_enter Tryz.func165, Tryz.ntmps165
    go_wp2
    go_ret
    exact ⟨rfl, HB.out⟩
  · generalize oneP nm list = q at H ⊢
    cases q
    · go_enter Tryz.func165, Tryz.ntmps165
      go_wp2_with (go_at_call 68; refine H.out.mono ?_; rintro e w1 ⟨rfl, rfl⟩)
      go_ret
      exact ⟨rfl, HB.out⟩
    · go_enter Tryz.func165, Tryz.ntmps165
      go_wp2_with (go_at_call 68; refine H.out.mono ?_; rintro e w1 ⟨rfl, rfl⟩)
      go_ret
      exact ⟨rfl, HB.out⟩
set_option maxRecDepth 100000 in
set_option maxHeartbeats 2000000 in
theorem tend_calls : Calls Tryz.prog 167 #[.agg #[.int .i64 kind, .string nm, .slice A n c, .string tx, .bool sf, .int .i64 f, .int .i64 t], .string list] w fun e w' => e = .returned (.bool ((kind == 2) && oneP nm list)) ∧ Below w.heap.size w w' := by
  have hB := (Below.refl w.heap.size w).alloc (Nat.le_refl _) (.cells #[.int .i64 kind, .string nm, .slice A n c, .string tx, .bool sf, .int .i64 f, .int .i64 t] 114)
  have H := Lib.hid (oneOf_calls nm list m hs hl _ ((hB.cell (p := ⟨0, 0, none⟩) (block_lt_of_cell hm)).trans hm))
  have HB := Lib.hid hB
  clear hm hB hs hl
  cases h1 : (kind == 2)
  · go_enter Tryz.func167, Tryz.ntmps167
    go_wp2
    go_ret
    exact ⟨rfl, HB.out⟩
  · generalize oneP nm list = q at H ⊢
    cases q
    · go_enter Tryz.func167, Tryz.ntmps167
      go_wp2_with (go_at_call 68; refine H.out.mono ?_; rintro e w1 ⟨rfl, rfl⟩)
      go_ret
      exact ⟨rfl, HB.out⟩
    · go_enter Tryz.func167, Tryz.ntmps167
      go_wp2_with (go_at_call 68; refine H.out.mono ?_; rintro e w1 ⟨rfl, rfl⟩)
      go_ret
      exact ⟨rfl, HB.out⟩
omit hs hl hm in
set_option maxRecDepth 100000 in
theorem tover_calls : Calls Tryz.prog 174 #[.agg #[.int .i64 kind, .string nm, .slice A n c, .string tx, .bool sf, .int .i64 f, .int .i64 t]] w fun e w' => e = .returned (.bool (kind == 0)) ∧ Below w.heap.size w w' := by
  go_enter Tryz.func174, Tryz.ntmps174
  go_wp2
  go_ret
  exact ⟨rfl, (Below.refl w.heap.size w).alloc (Nat.le_refl _) _⟩
end
/-- open.Has in a button's scope, the last name first. -/
def hasB (name : ByteArray) : List ByteArray → Bool
  | [] => false
  | x :: r => if x = name then true else if oneP x barL then false else hasB name r
def strs (l : List ByteArray) : List Value := l.map Value.string
set_option maxRecDepth 100000 in
set_option maxHeartbeats 4000000 in
theorem has_calls (L : List ByteArray) (name : ByteArray) (g n : Nat) (m : Int) (w : World) (hn : L.length = n) (hL : ∀ x ∈ L, x.size ≤ 100000) (hg : ∀ k (h : k < L.length), w.cell? ⟨g, k, none⟩ = some (.string L[k])) (hm : w.cell? ⟨0, 0, none⟩ = some (.int .i64 m)) (hn0 : n < 1000000) :
    Calls Tryz.prog 221 #[.slice (some ⟨g, 0, none⟩) n n, .string name, .int .i64 3] w fun e w' => e = .returned (.bool (hasB name L.reverse)) ∧ w' = w := by
  obtain ⟨T, hT⟩ : ∃ T, T = hasB name L.reverse := ⟨_, rfl⟩
  rw [← hT]
  have HT : Hid (hasB name (L.take n).reverse = T) := by show _ = _; rw [hT, ← hn, List.take_length]
  have HC : Hid (∀ k (h : k < L.length), w.cell? ⟨g, k, none⟩ = some (.string L[k])) := hg
  have HL := Lib.hid hL
  have HN := Lib.hid hn
  have HM := Lib.hid hm
  clear hT hn hL hm hg
  go_enter Tryz.func221, Tryz.ntmps221
  go_wp2
  go_loopw [7] (fun i wr => ∃ k : Nat, i = .int .i64 ((k : Int) - 1) ∧ k ≤ n ∧ Hid (hasB name (L.take k).reverse = T) ∧ wr = w) (fun i _ => (intOf i + 1).toNat)
  case atStart => exact ⟨n, rfl, Nat.le_refl _, HT.out, rfl⟩
  case round =>
    obtain ⟨k, rfl, hk, HK, rfl⟩ := hrel
    rcases Nat.eq_zero_or_pos k with rfl | hp
    · have hT : T = false := HK.out.symm
      subst hT
      go_wp2
      go_ret
      exact ⟨rfl, rfl⟩
    · obtain ⟨k, rfl⟩ : ∃ j, k = j + 1 := ⟨k - 1, by omega⟩
      have hkL : k < L.length := by have := HN.out; omega
      have e1 : ((k + 1 : Nat) : Int) - 1 = (k : Int) := by omega
      obtain ⟨x, hx⟩ : ∃ x, x = L[k] := ⟨_, rfl⟩
      have c1 : wr.cell? ⟨g, k, none⟩ = some (.string x) := by rw [hx]; exact HC.out k hkL
      have HS : Hid (T = if x = name then true else if oneP x barL then false else hasB name (L.take k).reverse) := by
        show _ = _
        have e : L.take (k + 1) = L.take k ++ [L[k]] := by rw [List.take_add_one, List.getElem?_eq_getElem hkL]; rfl
        rw [← HK.out, e, List.reverse_append, hx]
        rfl
      have HB := Lib.hid (bar3_calls x m (HL.out x (by rw [hx]; exact List.getElem_mem _)) wr HM.out)
      have hkn : k < n := by omega
      have r1 : IntKind.i64.wrap ((k : Int) - 1) = (k : Int) - 1 := by rw [IntKind.wrap_i64]; omega
      clear hx
      by_cases hxe : x = name
      · have hT : T = true := by rw [HS.out, if_pos hxe]
        subst hT
        have q1 : (x.toList == name.toList) = true := by rw [str_eq]; exact decide_eq_true hxe
        rw [e1]
        clear e1 hxe
        go_wp2
        go_ret
        exact ⟨rfl, rfl⟩
      · have q1 : (x.toList == name.toList) = false := by rw [str_eq]; exact decide_eq_false hxe
        have HS2 : Hid (T = if oneP x barL then false else hasB name (L.take k).reverse) := by show _ = _; rw [HS.out, if_neg hxe]
        rw [e1]
        clear e1 hxe HS
        generalize oneP x barL = q at HB HS2
        cases q
        · have HS3 : Hid (hasB name (L.take k).reverse = T) := by show _ = _; rw [HS2.out]; rfl
          go_wp2_with (go_at_call 243; refine HB.out.mono ?_; rintro e w1 ⟨rfl, rfl⟩)
          go_roundw
          case rel => exact ⟨k, rfl, by omega, HS3, trivial⟩
          case measure => simp [intOf]
        · have hT : T = false := HS2.out
          subst hT
          go_wp2_with (go_at_call 243; refine HB.out.mono ?_; rintro e w1 ⟨rfl, rfl⟩)
          go_ret
          exact ⟨rfl, rfl⟩
end Go.Proofs.YtcghahfboccceaaGreatDoor
