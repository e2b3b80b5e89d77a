/- Several texts in one: TeS. -/
import Derived.Test.YtcghahfboccceaaGreatDoorTopEscapeM12
import Derived.Test.YtcghahfboccceaaGreatDoorTopEscapeM9
import Derived.BigQuiet
import Derived.Deep.Cut
import Derived.Deep.CutRange
/- Contract of token's put. Printed by genTePut.py. -/
namespace Go.Proofs.YtcghahfboccceaaGreatDoor
open Go.RowKit Go.Shelf
set_option linter.unusedVariables false
set_option linter.unusedSimpArgs false

/-- A token as it lies in memory. -/
structure TokV where
  kind : Int
  name : ByteArray
  av : Value
  text : ByteArray
  self : Bool
  from' : Int
  to' : Int
def tokL (t : TokV) : List Value := [.int .i64 t.kind, .string t.name, t.av, .string t.text, .bool t.self, .int .i64 t.from', .int .i64 t.to']
theorem toksL_len (ts : List TokV) : (ts.flatMap tokL).length = ts.length * 7 := by
  induction ts with
  | nil => rfl
  | cons r rs ih => rw [List.flatMap_cons, List.length_append, ih, List.length_cons]; show 7 + _ = _; omega
/-- The reader: its text, where it is, its tokens. -/
structure RdS (B b : Nat) (s : ByteArray) (a en : Int) (v : Value) (ts : List TokV) (w : World) : Prop where
  lo : B ≤ b
  blk : Blk w b 82 #[.string s, .int .i64 a, .int .i64 en, v]
  own : w.ownsRow B 49 7 v ts.length (ts.flatMap tokL)
theorem RdS.ne {B b : Nat} {s : ByteArray} {a en : Int} {v : Value} {ts : List TokV} {w : World} (h : RdS B b s a en v ts w) : v.ownBlock ≠ some b := blk_ne h.blk h.own (by decide)
/-- What was there stays, but for block b and the row of v. -/
structure FrR (b : Nat) (v : Value) (w w' : World) : Prop where
  os : w'.os = w.os
  tape : w'.tape = w.tape
  output : w'.output = w.output
  size : w.heap.size ≤ w'.heap.size
  block : ∀ k, k < w.heap.size → k ≠ b → v.ownBlock ≠ some k → w'.heap[k]? = w.heap[k]?
theorem FrR.blk {b : Nat} {v : Value} {w w' : World} (h : FrR b v w w') {g : Nat} (hg : g ≠ b) (hv : v.ownBlock ≠ some g) {t : TypeId} {cs : Array Value} (hb : Blk w g t cs) : Blk w' g t cs := (h.block g hb.lt hg hv).trans hb
theorem OnlyN.fr {b : Nat} {w w' : World} (h : OnlyN b w w') (v : Value) : FrR b v w w' := ⟨h.os, h.tape, h.output, h.size, fun k hk hb _ => h.block k hk hb⟩
theorem FrR.trans {b : Nat} {v : Value} {u w x : World} (h : FrR b v u w) (k : FrR b v w x) : FrR b v u x := ⟨k.os.trans h.os, k.tape.trans h.tape, k.output.trans h.output, Nat.le_trans h.size k.size, fun g hg h1 h2 => (k.block g (Nat.lt_of_lt_of_le hg h.size) h1 h2).trans (h.block g hg h1 h2)⟩
theorem FrR.trans' {b : Nat} {v v' : Value} {u w x : World} (h : FrR b v u w) (k : FrR b v' w x) (hv : ∀ g, v'.ownBlock = some g → v.ownBlock = some g ∨ u.heap.size ≤ g) : FrR b v u x := ⟨k.os.trans h.os, k.tape.trans h.tape, k.output.trans h.output, Nat.le_trans h.size k.size, fun g hg h1 h2 => (k.block g (Nat.lt_of_lt_of_le hg h.size) h1 (fun e => by rcases hv g e with h3 | h3; exact h2 h3; omega)).trans (h.block g hg h1 h2)⟩
theorem FrR.below {b B : Nat} {v : Value} {w w' : World} (h : FrR b v w w') (hB : B ≤ b) (hw : B ≤ w.heap.size) (hv : ∀ g, v.ownBlock = some g → B ≤ g) : Below B w w' := ⟨h.os, h.tape, h.output, h.size, fun k hk => h.block k (by omega) (by omega) (fun e => by have := hv k e; omega)⟩
theorem RdS.only {B b : Nat} {s : ByteArray} {a a' en : Int} {v : Value} {ts : List TokV} {w w' : World} (h : RdS B b s a en v ts w) (hb : Blk w' b 82 #[.string s, .int .i64 a', .int .i64 en, v]) (ho : OnlyN b w w') : RdS B b s a' en v ts w' :=
  ⟨h.lo, hb, own_heap h.own fun g hg => ho.block g (h.own.lt g hg).2 (fun e => h.ne (by rw [hg, e]))⟩
theorem infoTok : (Tryz.prog.info? 49).map (fun i => (i.zero, i.size, i.bytes)) = some (some (.agg #[.int .i64 0, .string ⟨#[]⟩, .slice none 0 0, .string ⟨#[]⟩, .bool false, .int .i64 0, .int .i64 0]), 7, 88) := by kernel_rfl
theorem own_fresh {v : Value} {A : Option Addr} {c m : Nat} {H : Nat} (hat : (Value.slice A m c).ownBlock = v.ownBlock ∨ (Value.slice A m c).ownBlock = some H) {W : World} (hH : W.heap.size ≤ H) : ∀ g, (Value.slice A m c).ownBlock = some g → v.ownBlock = some g ∨ W.heap.size ≤ g := fun g hg => by
  rcases hat with h | h
  · exact .inl (h.symm.trans hg)
  · rw [h] at hg; injection hg with hg; exact .inr (by omega)
set_option maxRecDepth 100000 in
set_option maxHeartbeats 8000000 in
theorem put_tok (B b : Nat) (s : ByteArray) (a en : Int) (v : Value) (ts : List TokV) (kind : Int) (nm tx : ByteArray) (av : Value) (sf : Bool) (fr f0 t0 : Int) (hav : av.oneCell' = true) (w : World) (h : RdS B b s a en v ts w) (hB : B ≤ w.heap.size) (hz : ts.length < 1000000) :
    Calls Tryz.prog 59 #[.pointer (some ⟨b, 0, none⟩), .agg #[.int .i64 kind, .string nm, av, .string tx, .bool sf, .int .i64 f0, .int .i64 t0], .int .i64 fr] w fun e w' =>
      e = .returned (.tuple #[]) ∧ ∃ v', RdS B b s a en v' (ts ++ [⟨kind, nm, av, tx, sf, fr, a⟩]) w' ∧ FrR b v w w' ∧ ∀ g, v'.ownBlock = some g → v.ownBlock = some g ∨ w.heap.size ≤ g := by
  obtain ⟨i0, hi, hz0, hz1, hz2⟩ := info_parts infoTok
  obtain ⟨n, hn⟩ : ∃ n, n = ts.length := ⟨_, rfl⟩
  have hown := h.own
  rw [← hn] at hown hz
  obtain ⟨A, cp, rfl⟩ : ∃ A cp, v = .slice A n cp := own_open hown
  have HN := Lib.hid hn
  have H := Lib.hid h
  have hbl := h.blk.lt
  obtain ⟨g, hg⟩ : ∃ g, g = w.heap.size := ⟨_, rfl⟩
  have hgb : g ≠ b := by omega
  have hvg : (Value.slice A n cp).ownBlock ≠ some g := fun e => by have := (hown.lt g e).2; omega
  obtain ⟨wa, hwa⟩ : ∃ wa, wa = w.alloc (.cells #[.int .i64 kind, .string nm, av, .string tx, .bool sf, .int .i64 f0, .int .i64 t0] 49) := ⟨_, rfl⟩
  have P1 : Hid (Blk wa g 49 #[.int .i64 kind, .string nm, av, .string tx, .bool sf, .int .i64 f0, .int .i64 t0]) := by show Blk _ _ _ _; rw [hwa, hg]; exact Blk.new w _ _
  have P2 : Hid (OnlyN b w wa) := by show OnlyN _ _ _; rw [hwa]; exact (OnlyN.refl b w).alloc _
  have P3 : Hid (Blk wa b 82 #[.string s, .int .i64 a, .int .i64 en, .slice A n cp]) := by show Blk _ _ _ _; rw [hwa]; exact h.blk.alloc _
  have P4 : Hid (wa.ownsRow B 49 7 (.slice A n cp) n (ts.flatMap tokL)) := by show World.ownsRow _ _ _ _ _ _ _; rw [hwa]; exact own_below hown ((Below.refl _ w).alloc (Nat.le_refl _) _)
  have HWA := Lib.hid hwa
  have HG := Lib.hid hg
  have HGB := Lib.hid hgb
  have HVG := Lib.hid hvg
  have HBW := Lib.hid hB
  clear hn h hown hg hwa hvg hB
  go_enter Tryz.func59, Tryz.ntmps59
  go_wp2
  rw [← HWA.out, ← HG.out]
  have hS0 : (fun w' : World => w'.cell? ⟨b, 1, none⟩ = some (.int .i64 a)) wa := P3.out.cell 1
  refine wp_region_noPanic ?_
  refine region_M (S := fun w' => w'.cell? ⟨b, 1, none⟩ = some (.int .i64 a)) (T := []) (by kernel_rfl) ?_
  have hS0 : (fun w' : World => w'.cell? ⟨b, 1, none⟩ = some (.int .i64 a)) (World.drew wa) := hS0
  have P1 : Hid (Blk (World.drew wa) g 49 #[.int .i64 kind, .string nm, av, .string tx, .bool sf, .int .i64 f0, .int .i64 t0]) := P1.out
  have P2 : Hid (OnlyN b w (World.drew wa)) := P2.out.drewN 1
  have P3 : Hid (Blk (World.drew wa) b 82 #[.string s, .int .i64 a, .int .i64 en, .slice A n cp]) := P3.out
  have P4 : Hid ((World.drew wa).ownsRow B 49 7 (.slice A n cp) n (ts.flatMap tokL)) := P4.out
  generalize World.drew wa = wd at P1 P2 P3 P4 hS0 ⊢
  have m5 : wd.cell? ⟨g, 5, none⟩ = some (.int .i64 f0) := P1.out.cell 5
  have f5 : wd.frozen? ⟨g, 5, none⟩ = false := P1.out.free 5
  refine anyM_free (i := 0) (oi := { dst := some 6, op := _, type := _, pos := _, after := _, guard := _ }) (v := ?_) rfl (by kernel_rfl) (fun _ _ _ h => h) (Or.inl ⟨by kernel_rfl, ?_⟩) (fun _ => hS0) ?_
  rotate_left 1
  · (intro w hSw; (try dsimp only at hSw); go_simp; try with_reducible rfl)
  try simp only [Act.put, Array.toArray_toList, List.setIfInBounds_toArray, List.set_cons_zero, List.set_cons_succ]
  refine anyM_free (i := 1) (oi := { dst := some 7, op := _, type := _, pos := _, after := _, guard := _ }) (v := ?_) rfl (by kernel_rfl) (fun _ _ _ h => h) (Or.inl ⟨by kernel_rfl, ?_⟩) (fun _ => hS0) ?_
  rotate_left 1
  · (intro w hSw; (try dsimp only at hSw); go_simp; try with_reducible rfl)
  try simp only [Act.put, Array.toArray_toList, List.setIfInBounds_toArray, List.set_cons_zero, List.set_cons_succ]
  refine anyM_free (i := 2) (oi := { dst := some 8, op := _, type := _, pos := _, after := _, guard := _ }) (v := ?_) rfl (by kernel_rfl) (fun _ _ _ h => h) (Or.inl ⟨by kernel_rfl, ?_⟩) (fun _ => hS0) ?_
  rotate_left 1
  · (intro w hSw; (try dsimp only at hSw); go_simp; try with_reducible rfl)
  try simp only [Act.put, Array.toArray_toList, List.setIfInBounds_toArray, List.set_cons_zero, List.set_cons_succ]
  refine anyM_free (i := 3) (oi := { dst := some 9, op := _, type := _, pos := _, after := _, guard := _ }) (v := ?_) rfl (by kernel_rfl) (fun _ _ _ h => h) (Or.inl ⟨by kernel_rfl, ?_⟩) (fun _ => hS0) ?_
  rotate_left 1
  · (intro w hSw; (try dsimp only at hSw); go_simp; try with_reducible rfl)
  try simp only [Act.put, Array.toArray_toList, List.setIfInBounds_toArray, List.set_cons_zero, List.set_cons_succ]
  refine anyM_take (i := 4) (oi := { dst := some 10, op := _, type := _, pos := _, after := _, guard := _ }) (v := ?_) rfl (by kernel_rfl) (fun _ _ _ h => h) (Or.inl ⟨by kernel_rfl, ?_⟩) hS0 ?_
  rotate_left 1
  · (intro w hSw; (try dsimp only at hSw); go_simp; try with_reducible rfl)
  try simp only [Act.put, Array.toArray_toList, List.setIfInBounds_toArray, List.set_cons_zero, List.set_cons_succ]
  refine anyM_free (i := 5) (oi := { dst := some 11, op := _, type := _, pos := _, after := _, guard := _ }) (v := ?_) rfl (by kernel_rfl) (fun _ _ _ h => h) (Or.inl ⟨by kernel_rfl, ?_⟩) (fun _ => hS0) ?_
  rotate_left 1
  · (intro w hSw; (try dsimp only at hSw); go_simp; try with_reducible rfl)
  try simp only [Act.put, Array.toArray_toList, List.setIfInBounds_toArray, List.set_cons_zero, List.set_cons_succ]
  refine anyM_one (i := 6) (by kernel_rfl) rfl (fun K hK => ?_)
  go_simp
  have hS0 : (fun w' : World => w'.cell? ⟨b, 1, none⟩ = some (.int .i64 a)) (wd.setCell ⟨g, 5, none⟩ (.int .i64 fr)) := (P3.out.far (Ne.symm HGB.out) (i := 5) (.int .i64 fr)).cell 1
  have m6 : (wd.setCell ⟨g, 5, none⟩ (.int .i64 fr)).cell? ⟨g, 6, none⟩ = some (.int .i64 t0) := (P1.out.stored 5 (.int .i64 fr)).cell 6
  have f6 : (wd.setCell ⟨g, 5, none⟩ (.int .i64 fr)).frozen? ⟨g, 6, none⟩ = false := (P1.out.stored 5 (.int .i64 fr)).free 6
  refine hK.out _ _ (fun _ => hS0) ?_
  clear hK K
  try simp only [Act.put, Array.toArray_toList, List.setIfInBounds_toArray, List.set_cons_zero, List.set_cons_succ]
  refine anyM_free (i := 7) (oi := { dst := some 12, op := _, type := _, pos := _, after := _, guard := _ }) (v := ?_) rfl (by kernel_rfl) (fun _ _ _ h => h) (Or.inl ⟨by kernel_rfl, ?_⟩) (fun _ => hS0) ?_
  rotate_left 1
  · (intro w hSw; (try dsimp only at hSw); go_simp; try with_reducible rfl)
  try simp only [Act.put, Array.toArray_toList, List.setIfInBounds_toArray, List.set_cons_zero, List.set_cons_succ]
  refine anyM_one (i := 8) (by kernel_rfl) rfl (fun K hK => ?_)
  go_simp
  have hS0 : (fun w' : World => w'.cell? ⟨b, 1, none⟩ = some (.int .i64 a)) ((wd.setCell ⟨g, 5, none⟩ (.int .i64 fr)).setCell ⟨g, 6, none⟩ (.int .i64 a)) := ((P3.out.far (Ne.symm HGB.out) (i := 5) (.int .i64 fr)).far (Ne.symm HGB.out) (i := 6) (.int .i64 a)).cell 1
  refine hK.out _ _ (fun _ => hS0) ?_
  clear hK K
  try simp only [Act.put, Array.toArray_toList, List.setIfInBounds_toArray, List.set_cons_zero, List.set_cons_succ]
  refine anyM_done (by kernel_rfl) ?_ _
  refine NoPanic.normal ?_
  clear hS0 m5 f5 m6 f6
  have Q1 := Lib.hid ((P1.out.stored 5 (.int .i64 fr)).stored 6 (.int .i64 a))
  have Q2 := Lib.hid ((P2.out.setCell (p := ⟨g, 5, none⟩) (.inr (Nat.le_of_eq HG.out.symm)) (.int .i64 fr)).setCell (p := ⟨g, 6, none⟩) (.inr (Nat.le_of_eq HG.out.symm)) (.int .i64 a))
  have Q3 := Lib.hid ((P3.out.far (Ne.symm HGB.out) (i := 5) (.int .i64 fr)).far (Ne.symm HGB.out) (i := 6) (.int .i64 a))
  have Q4 := Lib.hid (own_setFar (own_setFar P4.out HVG.out (j := 5) (u := .int .i64 fr)) HVG.out (j := 6) (u := .int .i64 a))
  generalize (wd.setCell ⟨g, 5, none⟩ (.int .i64 fr)).setCell ⟨g, 6, none⟩ (.int .i64 a) = we at Q1 Q2 Q3 Q4 ⊢
  clear P1 P2 P3 P4 HWA
  go_upto_region 2 with fail
  have Q1 : Hid (Blk (World.drew we) g 49 #[.int .i64 kind, .string nm, av, .string tx, .bool sf, .int .i64 fr, .int .i64 a]) := Q1.out
  have Q2 : Hid (OnlyN b w (World.drew we)) := Q2.out.drewN 1
  have Q3 : Hid (Blk (World.drew we) b 82 #[.string s, .int .i64 a, .int .i64 en, .slice A n cp]) := Q3.out
  have Q4 : Hid ((World.drew we).ownsRow B 49 7 (.slice A n cp) n (ts.flatMap tokL)) := Q4.out
  have hS0 : (fun w' : World => w'.cell? ⟨b, 3, none⟩ = some (.slice A n cp) ∧ w'.cell? ⟨g, 0, none⟩ = some (.int .i64 kind) ∧ w'.cell? ⟨g, 1, none⟩ = some (.string nm) ∧ w'.cell? ⟨g, 2, none⟩ = some av ∧ w'.cell? ⟨g, 3, none⟩ = some (.string tx) ∧ w'.cell? ⟨g, 4, none⟩ = some (.bool sf) ∧ w'.cell? ⟨g, 5, none⟩ = some (.int .i64 fr) ∧ w'.cell? ⟨g, 6, none⟩ = some (.int .i64 a)) (World.drew we) := ⟨Q3.out.cell 3, Q1.out.cell 0, Q1.out.cell 1, Q1.out.cell 2, Q1.out.cell 3, Q1.out.cell 4, Q1.out.cell 5, Q1.out.cell 6⟩
  refine wp_region_noPanic ?_
  refine region_M (S := fun w' => w'.cell? ⟨b, 3, none⟩ = some (.slice A n cp) ∧ w'.cell? ⟨g, 0, none⟩ = some (.int .i64 kind) ∧ w'.cell? ⟨g, 1, none⟩ = some (.string nm) ∧ w'.cell? ⟨g, 2, none⟩ = some av ∧ w'.cell? ⟨g, 3, none⟩ = some (.string tx) ∧ w'.cell? ⟨g, 4, none⟩ = some (.bool sf) ∧ w'.cell? ⟨g, 5, none⟩ = some (.int .i64 fr) ∧ w'.cell? ⟨g, 6, none⟩ = some (.int .i64 a)) (T := [10]) (by kernel_rfl) ?_
  generalize World.drew we = wf at Q1 Q2 Q3 Q4 hS0 ⊢
  refine anyM_free (i := 0) (oi := { dst := some 13, op := _, type := _, pos := _, after := _, guard := _ }) (v := ?_) rfl (by kernel_rfl) (fun _ _ _ h => h) (Or.inl ⟨by kernel_rfl, ?_⟩) (fun _ => hS0) ?_
  rotate_left 1
  · (intro w hSw; (try dsimp only at hSw); go_simp; try with_reducible rfl)
  try simp only [Act.put, Array.toArray_toList, List.setIfInBounds_toArray, List.set_cons_zero, List.set_cons_succ]
  refine anyM_free (i := 1) (oi := { dst := some 14, op := _, type := _, pos := _, after := _, guard := _ }) (v := ?_) rfl (by kernel_rfl) (fun _ _ _ h => h) (Or.inl ⟨by kernel_rfl, ?_⟩) (fun _ => hS0) ?_
  rotate_left 1
  · (intro w hSw; (try dsimp only at hSw); go_simp; try with_reducible rfl)
  try simp only [Act.put, Array.toArray_toList, List.setIfInBounds_toArray, List.set_cons_zero, List.set_cons_succ]
  refine anyM_free (i := 2) (oi := { dst := some 15, op := _, type := _, pos := _, after := _, guard := _ }) (v := ?_) rfl (by kernel_rfl) (fun _ _ _ h => h) (Or.inl ⟨by kernel_rfl, ?_⟩) (fun _ => hS0) ?_
  rotate_left 1
  · (intro w hSw; (try dsimp only at hSw); go_simp; try with_reducible rfl)
  try simp only [Act.put, Array.toArray_toList, List.setIfInBounds_toArray, List.set_cons_zero, List.set_cons_succ]
  refine anyM_free (i := 3) (oi := { dst := some 16, op := _, type := _, pos := _, after := _, guard := _ }) (v := ?_) rfl (by kernel_rfl) (fun _ _ _ h => h) (Or.inl ⟨by kernel_rfl, ?_⟩) (fun _ => hS0) ?_
  rotate_left 1
  · (intro w hSw; (try dsimp only at hSw); go_simp; try with_reducible rfl)
  try simp only [Act.put, Array.toArray_toList, List.setIfInBounds_toArray, List.set_cons_zero, List.set_cons_succ]
  refine anyM_take (i := 4) (oi := { dst := some 17, op := _, type := _, pos := _, after := _, guard := _ }) (v := ?_) rfl (by kernel_rfl) (fun _ _ _ h => h) (Or.inl ⟨by kernel_rfl, ?_⟩) hS0 ?_
  rotate_left 1
  · (intro w hSw; (try dsimp only at hSw); go_simp; try with_reducible rfl)
  try simp only [Act.put, Array.toArray_toList, List.setIfInBounds_toArray, List.set_cons_zero, List.set_cons_succ]
  refine anyM_take (i := 5) (oi := { dst := some 18, op := _, type := _, pos := _, after := _, guard := _ }) (v := ?_) rfl (by kernel_rfl) (fun _ _ _ h => h) (Or.inl ⟨by kernel_rfl, ?_⟩) hS0 ?_
  rotate_left 1
  · (intro w hSw; (try dsimp only at hSw); go_simp; try with_reducible rfl)
  try simp only [Act.put, Array.toArray_toList, List.setIfInBounds_toArray, List.set_cons_zero, List.set_cons_succ]
  refine anyM_one (i := 6) (by kernel_rfl) rfl (fun K hK => ?_)
  go_simp
  have hbx := below_alloc (Below.refl wf.heap.size wf) (.cells #[.int .i64 kind, .string nm, av, .string tx, .bool sf, .int .i64 fr, .int .i64 a] 49)
  have HNI := Lib.hid (Blk.new wf 49 #[.int .i64 kind, .string nm, av, .string tx, .bool sf, .int .i64 fr, .int .i64 a])
  have R1 := Lib.hid (Q1.out.alloc (.cells #[.int .i64 kind, .string nm, av, .string tx, .bool sf, .int .i64 fr, .int .i64 a] 49))
  have R2 := Lib.hid (Q2.out.alloc (.cells #[.int .i64 kind, .string nm, av, .string tx, .bool sf, .int .i64 fr, .int .i64 a] 49))
  have R3 := Lib.hid (Q3.out.alloc (.cells #[.int .i64 kind, .string nm, av, .string tx, .bool sf, .int .i64 fr, .int .i64 a] 49))
  have R4 := Lib.hid (own_below Q4.out hbx)
  have hS0 : (fun w' : World => w'.cell? ⟨b, 3, none⟩ = some (.slice A n cp) ∧ w'.cell? ⟨g, 0, none⟩ = some (.int .i64 kind) ∧ w'.cell? ⟨g, 1, none⟩ = some (.string nm) ∧ w'.cell? ⟨g, 2, none⟩ = some av ∧ w'.cell? ⟨g, 3, none⟩ = some (.string tx) ∧ w'.cell? ⟨g, 4, none⟩ = some (.bool sf) ∧ w'.cell? ⟨g, 5, none⟩ = some (.int .i64 fr) ∧ w'.cell? ⟨g, 6, none⟩ = some (.int .i64 a)) (wf.alloc (.cells #[.int .i64 kind, .string nm, av, .string tx, .bool sf, .int .i64 fr, .int .i64 a] 49)) := ⟨R3.out.cell 3, R1.out.cell 0, R1.out.cell 1, R1.out.cell 2, R1.out.cell 3, R1.out.cell 4, R1.out.cell 5, R1.out.cell 6⟩
  clear hbx
  refine hK.out _ _ (fun _ => hS0) ?_
  clear hK K
  try simp only [Act.put, Array.toArray_toList, List.setIfInBounds_toArray, List.set_cons_zero, List.set_cons_succ]
  refine anyM_one (i := 7) (by kernel_rfl) rfl (fun K hK => ?_)
  rw [if_pos (by kernel_rfl)]
  refine wp_append_any _ _ 45 rfl B 49 i0 (.agg #[.int .i64 0, .string ⟨#[]⟩, .slice none 0 0, .string ⟨#[]⟩, .bool false, .int .i64 0, .int .i64 0]) 7 88 Tryz.underlying45 hi hz0 hz1 hz2 rfl (by decide) (.slice A n cp) n (ts.flatMap tokL) rfl R4.out (some ⟨wf.heap.size, 0, none⟩) 1 1 (tokL ⟨kind, nm, av, tx, sf, fr, a⟩) rfl rfl (.inl ⟨wf.heap.size, 0, rfl, fun j u hj => by rw [Nat.zero_add, HNI.out.cell j]; simpa [tokL] using hj⟩) (by intro u hu; simp [tokL] at hu; rcases hu with rfl | rfl | rfl | rfl | rfl | rfl | rfl <;> first | rfl | exact hav) (by unfold maxLen; omega) (by omega) (by have := HBW.out; have := R2.out.size; omega) ?_
  intro A8 c8 w8 ho8 hg8 hat8
  have HO8 := Lib.hid ho8
  have HG8 := Lib.hid hg8
  have HAT8 := Lib.hid hat8
  have T1 := Lib.hid (blk_grown R1.out hg8 HVG.out)
  have T3 := Lib.hid (blk_grown R3.out hg8 (blk_ne R3.out R4.out (by decide)))
  have f8 : w8.frozen? ⟨b, 3, none⟩ = false := T3.out.free 3
  have m8 : w8.cell? ⟨b, 3, none⟩ = some (.slice A n cp) := T3.out.cell 3
  have hS0 : (fun w' : World => w'.cell? ⟨b, 3, none⟩ = some (.slice A n cp) ∧ w'.cell? ⟨g, 0, none⟩ = some (.int .i64 kind) ∧ w'.cell? ⟨g, 1, none⟩ = some (.string nm) ∧ w'.cell? ⟨g, 2, none⟩ = some av ∧ w'.cell? ⟨g, 3, none⟩ = some (.string tx) ∧ w'.cell? ⟨g, 4, none⟩ = some (.bool sf) ∧ w'.cell? ⟨g, 5, none⟩ = some (.int .i64 fr) ∧ w'.cell? ⟨g, 6, none⟩ = some (.int .i64 a)) w8 := ⟨T3.out.cell 3, T1.out.cell 0, T1.out.cell 1, T1.out.cell 2, T1.out.cell 3, T1.out.cell 4, T1.out.cell 5, T1.out.cell 6⟩
  clear ho8 hg8 hat8
  change K (Act.put _ (some 20) _) _
  refine hK.out _ _ (fun _ => hS0) ?_
  clear hK K
  try simp only [Act.put, Array.toArray_toList, List.setIfInBounds_toArray, List.set_cons_zero, List.set_cons_succ]
  refine anyM_free (i := 8) (oi := { dst := some 21, op := _, type := _, pos := _, after := _, guard := _ }) (v := ?_) rfl (by kernel_rfl) (fun _ _ _ h => h) (Or.inl ⟨by kernel_rfl, ?_⟩) (fun _ => hS0) ?_
  rotate_left 1
  · (intro w hSw; (try dsimp only at hSw); go_simp; try with_reducible rfl)
  try simp only [Act.put, Array.toArray_toList, List.setIfInBounds_toArray, List.set_cons_zero, List.set_cons_succ]
  refine anyM_free (i := 9) (oi := { dst := some 22, op := _, type := _, pos := _, after := _, guard := _ }) (v := ?_) rfl (by kernel_rfl) (fun _ _ _ h => h) (Or.inl ⟨by kernel_rfl, ?_⟩) (fun _ => hS0) ?_
  rotate_left 1
  · (intro w hSw; (try dsimp only at hSw); go_simp; try with_reducible rfl)
  try simp only [Act.put, Array.toArray_toList, List.setIfInBounds_toArray, List.set_cons_zero, List.set_cons_succ]
  refine anyM_one (i := 10) (by kernel_rfl) rfl (fun K hK => ?_)
  go_simp
  skip
  refine hK.out _ _ (fun h => late_no h (by kernel_rfl)) ?_
  clear hK K
  try simp only [Act.put, Array.toArray_toList, List.setIfInBounds_toArray, List.set_cons_zero, List.set_cons_succ]
  refine anyM_done (by kernel_rfl) ?_ _
  refine NoPanic.normal ?_
  clear hS0
  go_wp2_with fail
  go_end0
  refine ⟨rfl, _, ⟨H.out.lo, T3.out.stored 3 _, ?_⟩, ?_, own_fresh HAT8.out (Nat.le_trans R2.out.size (by simp))⟩
  · rw [List.flatMap_append, List.length_append, ← HN.out]
    have := own_setFar HO8.out (blk_ne T3.out HO8.out (by decide)) (j := 3) (u := .slice A8 (n + 1) c8)
    simpa using this
  · refine ⟨HG8.out.os.trans R2.out.os, HG8.out.tape.trans R2.out.tape, HG8.out.output.trans R2.out.output, Nat.le_trans R2.out.size (by simpa using HG8.out.size), fun k hk hkb hkv => ?_⟩
    rw [Below.heap_setCell _ ⟨b, 3, none⟩ _ _ hkb, HG8.out.block k (by have := R2.out.size; omega) (fun e => hkv e.symm)]
    exact R2.out.block k hk hkb
end Go.Proofs.YtcghahfboccceaaGreatDoor
