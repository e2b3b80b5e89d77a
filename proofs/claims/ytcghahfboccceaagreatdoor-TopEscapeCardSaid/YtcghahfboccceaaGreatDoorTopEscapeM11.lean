/- Several texts in one: TeQ. -/
import Derived.Test.YtcghahfboccceaaGreatDoorTopEscapeM10
import Derived.Laws.ResultCell
import Derived.Laws.Rows
/- Contract of token's tag, without attributes. -/
namespace Go.Proofs.YtcghahfboccceaaGreatDoor
open Go.RowKit Go.Shelf
set_option linter.unusedVariables false
set_option linter.unusedSimpArgs false

/-- What was there stays, but for block b. -/
structure OnlyN (b : Nat) (w w' : World) : Prop where
  os : w'.os = w.os
  tape : w'.tape = w.tape
  output : w'.output = w.output
  size : w.heap.size ≤ w'.heap.size
  block : ∀ k, k < w.heap.size → k ≠ b → w'.heap[k]? = w.heap[k]?
theorem OnlyN.refl (b : Nat) (w : World) : OnlyN b w w := ⟨rfl, rfl, rfl, Nat.le_refl _, fun _ _ _ => rfl⟩
theorem OnlyN.trans {b : Nat} {u v w : World} (h : OnlyN b u v) (k : OnlyN b v w) : OnlyN b u w := ⟨k.os.trans h.os, k.tape.trans h.tape, k.output.trans h.output, Nat.le_trans h.size k.size, fun g hg hb => (k.block g (Nat.lt_of_lt_of_le hg h.size) hb).trans (h.block g hg hb)⟩
theorem OnlyB.n {b : Nat} {w w' : World} (h : OnlyB b w w') : OnlyN b w w' := ⟨h.os, h.tape, h.output, by rw [h.size]; exact Nat.le_refl _, fun k _ hk => h.block k hk⟩
theorem OnlyN.of_below {b : Nat} {w w' : World} (h : Below w.heap.size w w') : OnlyN b w w' := ⟨h.os, h.tape, h.output, h.size, fun k hk _ => h.block k hk⟩
theorem OnlyN.alloc {b : Nat} {w w' : World} (h : OnlyN b w w') (o : Obj) : OnlyN b w (w'.alloc o) := h.trans (.of_below ((Below.refl _ _).alloc (Nat.le_refl _) o))
theorem OnlyN.drewN {b : Nat} {w w' : World} (h : OnlyN b w w') (n : Nat) : OnlyN b w (w'.drewN n) := ⟨h.os, h.tape, h.output, h.size, h.block⟩
theorem OnlyN.setCell {b : Nat} {w w' : World} (h : OnlyN b w w') {p : Addr} (hp : p.block = b ∨ w.heap.size ≤ p.block) (v : Value) : OnlyN b w (w'.setCell p v) :=
  ⟨h.os, h.tape, h.output, by simpa using h.size, fun k hk hb => (Below.heap_setCell w' p v k (by rcases hp with e | e <;> omega)).trans (h.block k hk hb)⟩
theorem OnlyN.blk {b : Nat} {w w' : World} (h : OnlyN b w w') {g : Nat} (hg : g ≠ b) {t : TypeId} {cs : Array Value} (hb : Blk w g t cs) : Blk w' g t cs := (h.block g hb.lt hg).trans hb
theorem OnlyN.below {b B : Nat} {w w' : World} (h : OnlyN b w w') (hB : B ≤ b) (hw : B ≤ w.heap.size) : Below B w w' := ⟨h.os, h.tape, h.output, h.size, fun k hk => h.block k (by omega) (by omega)⟩
theorem results_row_tmp {P : Program} {fn : Func} {p u : Tmp} {ty : TypeId} (h : fn.results = #[.cell p ty, .tmp u]) (tmps : Array Value) (w : World) (g : Nat) (t : TypeId) (cs : Array Value) (d : TypeDesc)
    (hp : tmps.getD p undef = .pointer (some ⟨g, 0, none⟩)) (hg : Blk w g t cs)
    (hu : P.underlying ty = some d) (hd : (match d with | .struct _ | .array _ _ => true | _ => false) = true) (hi : (P.info? ty).map (·.size) = some cs.size) :
    (results fn tmps).run P w = .ok (.tuple #[.agg cs, tmps.getD u undef]) w := by
  have hp' : tmps[p]?.getD undef = .pointer (some ⟨g, 0, none⟩) := by simpa using hp
  rw [results_cell_tmp h]
  simp [hp', asAddr, run_loadVar_row w g t ty cs _ d hg hu hd hi]
def tokC (kind : Int) (name : ByteArray) (attrs : Value) (text : ByteArray) (self : Bool) (a b : Int) : Array Value := #[.int .i64 kind, .string name, attrs, .string text, .bool self, .int .i64 a, .int .i64 b]
theorem ef1 : ∀ args w, (callFunc 117 args).run Tryz.prog w = .ok (.enter 117 args) w := enters_of Tryz.func117 (by kernel_rfl) rfl
theorem ef2 : ∀ args w, (callFunc 119 args).run Tryz.prog w = .ok (.enter 119 args) w := enters_of Tryz.func119 (by kernel_rfl) rfl
set_option maxRecDepth 100000 in
set_option maxHeartbeats 4000000 in
theorem tagA_calls (b : Nat) (s nm : ByteArray) (a a1 a2 : Nat) (kind : Int) (c2 c3 : Value) (hs : s.size ≤ 1099511627776) (ha : a ≤ s.size) (h1 : skipTo nameEnd s.data.toList a = a1) (hnm : s.extract a a1 = nm) (hn40 : nm.size ≤ 40)
    (hlo : ∀ k (h : k < nm.size), 97 ≤ nm[k].toNat ∧ nm[k].toNat ≤ 122) (h2 : skipTo noSkip s.data.toList a1 = a2) (h12 : s.extract a1 a2 = ⟨#[]⟩) (hlt : a2 < s.size) (hgt : s[a2].toNat = 62) (w : World) (hB : Blk w b 82 #[.string s, .int .i64 (a : Int), c2, c3]) :
    Calls Tryz.prog 83 #[.pointer (some ⟨b, 0, none⟩), .agg #[.int .i64 kind, .string ⟨#[]⟩, .slice none 0 0, .string ⟨#[]⟩, .bool false, .int .i64 0, .int .i64 0]] w fun e w' =>
      e = .returned (.tuple #[.agg #[.int .i64 kind, .string nm, .slice none 0 0, .string ⟨#[]⟩, .bool false, .int .i64 0, .int .i64 0], .bool true]) ∧ Blk w' b 82 #[.string s, .int .i64 ((a2 : Int) + 1), c2, c3] ∧ OnlyN b w w' := by
  have HB := Lib.hid hB
  have H1 := Lib.hid h1
  have HNM := Lib.hid hnm
  have HLO := Lib.hid hlo
  have H2 := Lib.hid h2
  have H12 := Lib.hid h12
  have hbl := hB.lt
  clear h1 hnm hlo h2 h12 hB
  obtain ⟨g, hg⟩ : ∃ g, g = w.heap.size := ⟨_, rfl⟩
  have hgb : g ≠ b := by omega
  have hgb1 : g + 1 ≠ b := by omega
  have N1 : Blk (w.alloc (.cells #[.int .i64 kind, .string ⟨#[]⟩, .slice none 0 0, .string ⟨#[]⟩, .bool false, .int .i64 0, .int .i64 0] 49)) g 49 #[.int .i64 kind, .string ⟨#[]⟩, .slice none 0 0, .string ⟨#[]⟩, .bool false, .int .i64 0, .int .i64 0] := by rw [hg]; exact Blk.new w _ _
  have N2 : Hid (∀ o, Blk ((w.alloc o).alloc (.cells #[.int .i64 0, .string ⟨#[]⟩, .slice none 0 0, .string ⟨#[]⟩, .bool false, .int .i64 0, .int .i64 0] 49)) (g + 1) 49 #[.int .i64 0, .string ⟨#[]⟩, .slice none 0 0, .string ⟨#[]⟩, .bool false, .int .i64 0, .int .i64 0]) := fun o => by
    have := Blk.new (w.alloc o) 49 #[.int .i64 0, .string ⟨#[]⟩, .slice none 0 0, .string ⟨#[]⟩, .bool false, .int .i64 0, .int .i64 0]
    rw [World.size_alloc, ← hg] at this
    exact this
  have HN1 := Lib.hid N1
  have HG := Lib.hid hg
  have HA0 := Lib.hid (fun o1 o2 => ((OnlyN.refl b w).alloc o1).alloc o2)
  clear N1 hg
  go_enter Tryz.func83, Tryz.ntmps83
  go_wp2_with (first
    | (go_at_call 116; rw [← HG.out]; refine (until_calls b s a c2 c3 _ ef1 nameEnd tag1_calls hs ha _ ((HB.out.alloc _).alloc _)).mono ?_; rintro e w1 ⟨a1', ha1, hle1, rfl, hb1, ho1⟩; (obtain rfl := (ha1.trans H1.out).symm); rw [HNM.out]; (have P1 := Lib.hid (ho1.blk hgb (HN1.out.alloc _))); (have P2 := Lib.hid (ho1.blk hgb1 (N2.out _))); (have P3 := Lib.hid hb1); (have P4 := Lib.hid ((HA0.out _ _).trans ho1.n)); clear hb1 ho1 ha1)
    | (go_at_call 115; refine (tname_calls nm hn40 HLO.out _).mono ?_; rintro e w2 ⟨rfl, hb2⟩; (have Q1 := Lib.hid (P1.out.below hb2 P1.out.lt)); (have Q2 := Lib.hid (P2.out.below hb2 P2.out.lt)); (have Q3 := Lib.hid (P3.out.below hb2 P3.out.lt)); (have Q4 := Lib.hid (P4.out.trans (.of_below hb2))); (have m1 : w2.cell? ⟨g, 1, none⟩ = some (.string ⟨#[]⟩) := Q1.out.cell 1); (have m2 : w2.frozen? ⟨g, 1, none⟩ = false := Q1.out.free 1); clear hb2))
  obtain ⟨W3, hW3⟩ : ∃ W3, W3 = w2.setCell ⟨g, 1, none⟩ (.string nm) := ⟨_, rfl⟩
  have R1 : Hid (Blk W3 g 49 #[.int .i64 kind, .string nm, .slice none 0 0, .string ⟨#[]⟩, .bool false, .int .i64 0, .int .i64 0]) := by show Blk _ _ _ _; rw [hW3]; exact Q1.out.stored 1 _
  have R2 : Hid (Blk W3 (g + 1) 49 #[.int .i64 0, .string ⟨#[]⟩, .slice none 0 0, .string ⟨#[]⟩, .bool false, .int .i64 0, .int .i64 0]) := by show Blk _ _ _ _; rw [hW3]; exact Q2.out.far (by omega) _
  have R3 : Hid (Blk W3 b 82 #[.string s, .int .i64 (a1 : Int), c2, c3]) := by show Blk _ _ _ _; rw [hW3]; exact Q3.out.far (fun e => hgb e.symm) _
  have R4 : Hid (OnlyN b w W3) := by show OnlyN _ _ _; rw [hW3]; exact Q4.out.setCell (.inr (by have := HG.out; show _ ≤ g; omega)) _
  rw [← hW3]
  clear hW3 m1 m2 Q1 Q2 Q3 Q4 P1 P2 P3 P4
  go_loopw [] (fun wr => wr = W3) (fun _ => 0)
  case atStart => rfl
  case round =>
    subst hrel
    have e1 : ((a2 : Int) == (s.size : Int)) = false := by simp; omega
    have e2 : ((s[a2].toNat : Int) == 62) = true := by rw [hgt]; rfl
    have HX : Hid (∀ W, Calls Tryz.prog 120 #[.string ⟨#[]⟩, .string ⟨#[47]⟩] W fun e w' => e = .returned (.bool false) ∧ w' = W) := fun W => Tryz.strings_HasSuffix ⟨#[]⟩ ⟨#[47]⟩ W (by decide)
    clear hgt
    go_wp2_with (go_at_call 116; refine (until_calls b s a1 c2 c3 _ ef2 noSkip tag2_calls hs hle1 _ R3.out).mono ?_; rintro e w4 ⟨a2', ha2, hle2, rfl, hb4, ho4⟩; (obtain rfl := (ha2.trans H2.out).symm); rw [H12.out]; (have T1 := Lib.hid (ho4.blk hgb R1.out)); (have T2 := Lib.hid (ho4.blk hgb1 R2.out)); (have T3 := Lib.hid hb4); (have T4 := Lib.hid (R4.out.trans ho4.n)); (have c0 : w4.cell? ⟨b, 0, none⟩ = some (.string s) := hb4.cell 0); (have c1 : w4.cell? ⟨b, 1, none⟩ = some (.int .i64 (a2 : Int)) := hb4.cell 1); (have f1 : w4.frozen? ⟨b, 1, none⟩ = false := hb4.free 1); clear hb4 ho4 ha2)
    go_quiet (fail)
    have T1 := Lib.hid (T1.out.drewN nq)
    have T2 := Lib.hid (T2.out.drewN nq)
    have T3 := Lib.hid (T3.out.drewN nq)
    have T4 := Lib.hid (T4.out.drewN nq)
    have c0 : (w4.drewN nq).cell? ⟨b, 0, none⟩ = some (.string s) := c0
    have c1 : (w4.drewN nq).cell? ⟨b, 1, none⟩ = some (.int .i64 (a2 : Int)) := c1
    have f1 : (w4.drewN nq).frozen? ⟨b, 1, none⟩ = false := f1
    generalize w4.drewN nq = w5 at T1 T2 T3 T4 c0 c1 f1 ⊢
    clear nq
    go_wp2
    go_quiet (fail)
    have T1 := Lib.hid (T1.out.drewN nq)
    have T2 := Lib.hid (T2.out.drewN nq)
    have T3 := Lib.hid (T3.out.drewN nq)
    have T4 := Lib.hid (T4.out.drewN nq)
    have c0 : (w5.drewN nq).cell? ⟨b, 0, none⟩ = some (.string s) := c0
    have c1 : (w5.drewN nq).cell? ⟨b, 1, none⟩ = some (.int .i64 (a2 : Int)) := c1
    have f1 : (w5.drewN nq).frozen? ⟨b, 1, none⟩ = false := f1
    generalize w5.drewN nq = w6 at T1 T2 T3 T4 c0 c1 f1 ⊢
    clear nq
    go_wp2_with (go_at_call 120; refine (HX.out _).mono ?_; rintro e w8 ⟨rfl, rfl⟩; (have S1 := T1.out.far hgb (i := 1) (.int .i64 ((a2 : Int) + 1))); (have S2 := T2.out.far hgb1 (i := 1) (.int .i64 ((a2 : Int) + 1))); (have m0 := S1.cell 0); (have m1 := S1.cell 1); (have m2 := S1.cell 2); (have m3 := S1.cell 3); (have m4 := S1.cell 4); (have m5 := S1.cell 5); (have m6 := S1.cell 6); (have n4 := S1.free 4); simp only [List.getElem?_toArray, List.getElem?_cons_succ, List.getElem?_cons_zero] at m0 m1 m2 m3 m4 m5 m6; (have q0 := S2.cell 0); (have q1 := S2.cell 1); (have q2 := S2.cell 2); (have q3 := S2.cell 3); (have q4 := S2.cell 4); (have q5 := S2.cell 5); (have q6 := S2.cell 6); simp only [List.getElem?_toArray, List.getElem?_cons_succ, List.getElem?_cons_zero] at q0 q1 q2 q3 q4 q5 q6; (have r0 := S2.free 0); (have r1 := S2.free 1); (have r2 := S2.free 2); (have r3 := S2.free 3); (have r4 := S2.free 4); (have r5 := S2.free 5); (have r6 := S2.free 6); clear S1 S2)
    have B3 := (((((((((T3.out.stored 1 (.int .i64 ((a2 : Int) + 1))).far (Ne.symm hgb) (i := 4) (.bool false)).far (Ne.symm hgb1) (i := 0) (.int .i64 kind)).far (Ne.symm hgb1) (i := 1) (.string nm)).far (Ne.symm hgb1) (i := 2) (.slice none 0 0)).far (Ne.symm hgb1) (i := 3) (.string ⟨#[]⟩)).far (Ne.symm hgb1) (i := 4) (.bool false)).far (Ne.symm hgb1) (i := 5) (.int .i64 0)).far (Ne.symm hgb1) (i := 6) (.int .i64 0))
    have B2 := (((((((((T2.out.far hgb1 (i := 1) (.int .i64 ((a2 : Int) + 1))).far (by omega : g + 1 ≠ g) (i := 4) (.bool false)).stored 0 (.int .i64 kind)).stored 1 (.string nm)).stored 2 (.slice none 0 0)).stored 3 (.string ⟨#[]⟩)).stored 4 (.bool false)).stored 5 (.int .i64 0)).stored 6 (.int .i64 0))
    have hgw : w.heap.size ≤ g := by have := HG.out; omega
    have hgw1 : w.heap.size ≤ g + 1 := by omega
    have B4 := (((((((((T4.out.setCell (p := ⟨b, 1, none⟩) (.inl rfl) (.int .i64 ((a2 : Int) + 1))).setCell (p := ⟨g, 4, none⟩) (.inr hgw) (.bool false)).setCell (p := ⟨g + 1, 0, none⟩) (.inr hgw1) (.int .i64 kind)).setCell (p := ⟨g + 1, 1, none⟩) (.inr hgw1) (.string nm)).setCell (p := ⟨g + 1, 2, none⟩) (.inr hgw1) (.slice none 0 0)).setCell (p := ⟨g + 1, 3, none⟩) (.inr hgw1) (.string ⟨#[]⟩)).setCell (p := ⟨g + 1, 4, none⟩) (.inr hgw1) (.bool false)).setCell (p := ⟨g + 1, 5, none⟩) (.inr hgw1) (.int .i64 0)).setCell (p := ⟨g + 1, 6, none⟩) (.inr hgw1) (.int .i64 0))
    exact bodyPost_ret (results_row_tmp rfl _ _ (g + 1) 49 #[.int .i64 kind, .string nm, .slice none 0 0, .string ⟨#[]⟩, .bool false, .int .i64 0, .int .i64 0] _ rfl B2 rfl rfl (by kernel_rfl)) rfl ⟨rfl, B3, B4⟩
end Go.Proofs.YtcghahfboccceaaGreatDoor
