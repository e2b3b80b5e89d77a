/- Several texts in one: TgF. -/
import Derived.Test.YtcghahfboccceaaGreatDoorTopEscapeM22
/- Contract of token's tag with one attribute, id. Printed by genTgF.py. -/
namespace Go.Proofs.YtcghahfboccceaaGreatDoor
open Go.RowKit Go.Shelf
set_option linter.unusedVariables false
set_option linter.unusedSimpArgs false

set_option maxRecDepth 100000 in
set_option maxHeartbeats 1000000 in
theorem containsFn_nil (f : Value) (w : World) : Calls Tryz.prog 122 #[.slice none 0 0, f] w fun e w' => e = .returned (.bool false) ∧ w' = w := by
  have H : Hid (Calls Tryz.prog 148 #[.slice none 0 0, f] w fun e w' => e = .returned (.int .i64 (-1)) ∧ w' = w) := by
    show Calls _ _ _ _ _
    go_enter Tryz.func148, Tryz.ntmps148
    go_wp2
    go_loopw [8] (fun i wr => i = .int .i64 0 ∧ wr = w) (fun _ _ => 0)
    case atStart => exact ⟨rfl, rfl⟩
    case round =>
      obtain ⟨rfl, rfl⟩ := hrel
      go_wp2
      go_ret
      exact ⟨rfl, rfl⟩
  go_enter Tryz.func122, Tryz.ntmps122
  go_wp2_with (go_at_call 148; refine H.out.mono ?_; rintro e w1 ⟨rfl, hw⟩; (obtain rfl := hw.symm))
  go_ret
  exact ⟨rfl, rfl⟩
theorem infoAttrT : (Tryz.prog.info? 91).map (fun i => (i.zero, i.size, i.bytes)) = some (some (.agg #[.string ⟨#[]⟩, .string ⟨#[]⟩]), 2, 32) := by kernel_rfl
theorem attrs_drewN {B : Nat} {av : Value} {l : List (ByteArray × ByteArray)} {w : World} (h : AttrsAt B av l w) (m : Nat) : AttrsAt B av l (w.drewN m) := h
theorem attrs_onlyN {B b : Nat} {av : Value} {l : List (ByteArray × ByteArray)} {w w' : World} {cs : Array Value} (h : AttrsAt B av l w) (hB : Blk w b 82 cs) (ho : OnlyN b w w') : AttrsAt B av l w' :=
  own_heap h fun g hg => ho.block g (h.lt g hg).2 (fun e => blk_ne hB h (by decide) (by rw [hg, e]))
set_option maxRecDepth 100000 in
set_option maxHeartbeats 8000000 in
theorem tagB_calls (B b : Nat) (s nm v : ByteArray) (a a1 a2 a4 : Nat) (kind : Int) (c2 c3 : Value) (hBw0 : B ≤ b) (hs : s.size ≤ 1000000) (ha : a ≤ s.size) (h1 : skipTo nameEnd s.data.toList a = a1) (hnm : s.extract a a1 = nm) (hn40 : nm.size ≤ 40)
    (hlo : ∀ k (h : k < nm.size), 97 ≤ nm[k].toNat ∧ nm[k].toNat ≤ 122) (h2 : skipTo noSkip s.data.toList a1 = a2) (hlt : a2 < s.size) (hgt : s[a2].toNat ≠ 62) (h14 : a1 < a4)
    (hat : ∀ W : World, Blk W b 82 #[.string s, .int .i64 (a2 : Int), c2, c3] → Calls Tryz.prog 121 #[.pointer (some ⟨b, 0, none⟩)] W fun e w' => e = .returned (.agg #[.string ⟨#[105, 100]⟩, .string v]) ∧ Blk w' b 82 #[.string s, .int .i64 (a4 : Int), c2, c3] ∧ OnlyN b W w')
    (h4 : skipTo noSkip s.data.toList a4 = a4) (h42 : s.extract a4 a4 = ⟨#[]⟩) (hlt4 : a4 < s.size) (hgt4 : s[a4].toNat = 62) (w : World) (hB : Blk w b 82 #[.string s, .int .i64 (a : Int), c2, c3]) :
    Calls Tryz.prog 83 #[.pointer (some ⟨b, 0, none⟩), .agg #[.int .i64 kind, .string ⟨#[]⟩, .slice none 0 0, .string ⟨#[]⟩, .bool false, .int .i64 0, .int .i64 0]] w (TagSays B b s c2 c3 ⟨kind, nm, [(⟨#[105, 100]⟩, v)], ⟨#[]⟩, false, 0, 0⟩ ((a4 : Int) + 1) w) := by
  obtain ⟨i0, hi, hz0, hz1, hz2⟩ := info_parts infoAttrT
  have HAT := Lib.hid hat
  have H4 := Lib.hid h4
  have H42 := Lib.hid h42
  have HGT4 := Lib.hid hgt4
  have HBW0 := Lib.hid hBw0
  clear hat h4 h42 hgt4 hBw0
  have HB := Lib.hid hB
  have H1 := Lib.hid h1
  have HNM := Lib.hid hnm
  have HLO := Lib.hid hlo
  have H2 := Lib.hid h2
  have hbl := hB.lt
  clear h1 hnm hlo h2 hB
  obtain ⟨g, hg⟩ : ∃ g, g = w.heap.size := ⟨_, rfl⟩
  have hgb : g ≠ b := by omega
  have hgb1 : g + 1 ≠ b := by omega
  have N1 : Blk (w.alloc (.cells #[.int .i64 kind, .string ⟨#[]⟩, .slice none 0 0, .string ⟨#[]⟩, .bool false, .int .i64 0, .int .i64 0] 49)) g 49 #[.int .i64 kind, .string ⟨#[]⟩, .slice none 0 0, .string ⟨#[]⟩, .bool false, .int .i64 0, .int .i64 0] := by rw [hg]; exact Blk.new w _ _
  have N2 : Hid (∀ o, Blk ((w.alloc o).alloc (.cells #[.int .i64 0, .string ⟨#[]⟩, .slice none 0 0, .string ⟨#[]⟩, .bool false, .int .i64 0, .int .i64 0] 49)) (g + 1) 49 #[.int .i64 0, .string ⟨#[]⟩, .slice none 0 0, .string ⟨#[]⟩, .bool false, .int .i64 0, .int .i64 0]) := fun o => by
    have := Blk.new (w.alloc o) 49 #[.int .i64 0, .string ⟨#[]⟩, .slice none 0 0, .string ⟨#[]⟩, .bool false, .int .i64 0, .int .i64 0]
    rw [World.size_alloc, ← hg] at this
    exact this
  have HN1 := Lib.hid N1
  have HG := Lib.hid hg
  have HA0 := Lib.hid (fun o1 o2 => ((OnlyN.refl b w).alloc o1).alloc o2)
  clear N1 hg
  go_enter Tryz.func83, Tryz.ntmps83
  go_wp2_with (first
    | (go_at_call 116; rw [← HG.out]; refine (until_calls b s a c2 c3 _ ef1 nameEnd tag1_calls (by omega) ha _ ((HB.out.alloc _).alloc _)).mono ?_; rintro e w1 ⟨a1', ha1, hle1, rfl, hb1, ho1⟩; (obtain rfl := (ha1.trans H1.out).symm); rw [HNM.out]; (have P1 := Lib.hid (ho1.blk hgb (HN1.out.alloc _))); (have P2 := Lib.hid (ho1.blk hgb1 (N2.out _))); (have P3 := Lib.hid hb1); (have P4 := Lib.hid ((HA0.out _ _).trans ho1.n)); clear hb1 ho1 ha1)
    | (go_at_call 115; refine (tname_calls nm hn40 HLO.out _).mono ?_; rintro e w2 ⟨rfl, hb2⟩; (have Q1 := Lib.hid (P1.out.below hb2 P1.out.lt)); (have Q2 := Lib.hid (P2.out.below hb2 P2.out.lt)); (have Q3 := Lib.hid (P3.out.below hb2 P3.out.lt)); (have Q4 := Lib.hid (P4.out.trans (.of_below hb2))); (have m1 : w2.cell? ⟨g, 1, none⟩ = some (.string ⟨#[]⟩) := Q1.out.cell 1); (have m2 : w2.frozen? ⟨g, 1, none⟩ = false := Q1.out.free 1); clear hb2))
  obtain ⟨W3, hW3⟩ : ∃ W3, W3 = w2.setCell ⟨g, 1, none⟩ (.string nm) := ⟨_, rfl⟩
  have R1 : Hid (Blk W3 g 49 #[.int .i64 kind, .string nm, .slice none 0 0, .string ⟨#[]⟩, .bool false, .int .i64 0, .int .i64 0]) := by show Blk _ _ _ _; rw [hW3]; exact Q1.out.stored 1 _
  have R2 : Hid (Blk W3 (g + 1) 49 #[.int .i64 0, .string ⟨#[]⟩, .slice none 0 0, .string ⟨#[]⟩, .bool false, .int .i64 0, .int .i64 0]) := by show Blk _ _ _ _; rw [hW3]; exact Q2.out.far (by omega) _
  have R3 : Hid (Blk W3 b 82 #[.string s, .int .i64 (a1 : Int), c2, c3]) := by show Blk _ _ _ _; rw [hW3]; exact Q3.out.far (fun e => hgb e.symm) _
  have R4 : Hid (OnlyN b w W3) := by show OnlyN _ _ _; rw [hW3]; exact Q4.out.setCell (.inr (by have := HG.out; show _ ≤ g; omega)) _
  rw [← hW3]
  clear hW3 m1 m2 Q1 Q2 Q3 Q4 P1 P2 P3 P4
  have hsB : Hid (∀ W : World, Blk W b 82 #[.string s, .int .i64 (a1 : Int), c2, c3] → W.cell? ⟨b, 1, none⟩ = some (.int .i64 (a1 : Int))) := fun W h => h.cell 1
  go_loopw [] (fun wr => wr = W3 ∨ ∃ A9 c9, Blk wr g 49 #[.int .i64 kind, .string nm, .slice A9 1 c9, .string ⟨#[]⟩, .bool false, .int .i64 0, .int .i64 0] ∧ Blk wr (g + 1) 49 #[.int .i64 0, .string ⟨#[]⟩, .slice none 0 0, .string ⟨#[]⟩, .bool false, .int .i64 0, .int .i64 0] ∧ Blk wr b 82 #[.string s, .int .i64 (a4 : Int), c2, c3] ∧ OnlyN b w wr ∧ AttrsAt B (.slice A9 1 c9) [(⟨#[105, 100]⟩, v)] wr) (fun wr => s.size - (match wr.cell? ⟨b, 1, none⟩ with | some v => (intOf v).toNat | none => 0))
  case atStart => exact .inl rfl
  case round =>
    rcases hrel with hrel | ⟨A9, c9, R1, R2, R3, R4, R5⟩
    · have hrel := Lib.hid hrel
      obtain rfl := hrel.out
      have e1 : ((a2 : Int) == (s.size : Int)) = false := by simp; omega
      have e2 : ((s[a2].toNat : Int) == 62) = false := by simp; omega
      clear hgt
      go_wp2_with (go_at_call 116; refine (until_calls b s a1 c2 c3 _ ef2 noSkip tag2_calls (by omega) hle1 _ R3.out).mono ?_; rintro e w4 ⟨a2', ha2, hle2, rfl, hb4, ho4⟩; (obtain rfl := (ha2.trans H2.out).symm); (have T1 := Lib.hid (ho4.blk hgb R1.out)); (have T2 := Lib.hid (ho4.blk hgb1 R2.out)); (have T3 := Lib.hid hb4); (have T4 := Lib.hid (R4.out.trans ho4.n)); (have c0 : w4.cell? ⟨b, 0, none⟩ = some (.string s) := hb4.cell 0); (have c1 : w4.cell? ⟨b, 1, none⟩ = some (.int .i64 (a2 : Int)) := hb4.cell 1); (have f1 : w4.frozen? ⟨b, 1, none⟩ = false := hb4.free 1); clear hb4 ho4 ha2)
      go_quiet (fail)
      have T1 := Lib.hid (T1.out.drewN nq)
      have T2 := Lib.hid (T2.out.drewN nq)
      have T3 := Lib.hid (T3.out.drewN nq)
      have T4 := Lib.hid (T4.out.drewN nq)
      have c0 : (w4.drewN nq).cell? ⟨b, 0, none⟩ = some (.string s) := c0
      have c1 : (w4.drewN nq).cell? ⟨b, 1, none⟩ = some (.int .i64 (a2 : Int)) := c1
      generalize w4.drewN nq = w5 at T1 T2 T3 T4 c0 c1 ⊢
      clear nq f1
      go_wp2
      go_quiet (fail)
      have T1 := Lib.hid (T1.out.drewN nq)
      have T2 := Lib.hid (T2.out.drewN nq)
      have T3 := Lib.hid (T3.out.drewN nq)
      have T4 := Lib.hid (T4.out.drewN nq)
      generalize w5.drewN nq = w6 at T1 T2 T3 T4 ⊢
      clear nq c0 c1
      go_upto_region 10 with (go_at_call 121; refine (HAT.out _ T3.out).mono ?_; rintro e w7 ⟨rfl, hb7, ho7⟩; (have S1 := Lib.hid (ho7.blk hgb T1.out)); (have S2 := Lib.hid (ho7.blk hgb1 T2.out)); (have S3 := Lib.hid hb7); (have S4 := Lib.hid (T4.out.trans ho7)); clear hb7 ho7)
      obtain ⟨g7, hg7⟩ : ∃ g7, g7 = w7.heap.size := ⟨_, rfl⟩
      have hg7g : g ≠ g7 := by have := S1.out.lt; omega
      have hg7b : b ≠ g7 := by have := S3.out.lt; omega
      have S6 := Lib.hid (Blk.new w7 91 #[.string ⟨#[105, 100]⟩, .string v])
      have S1 := Lib.hid (S1.out.alloc (.cells #[.string ⟨#[105, 100]⟩, .string v] 91))
      have S2 := Lib.hid (S2.out.alloc (.cells #[.string ⟨#[105, 100]⟩, .string v] 91))
      have S3 := Lib.hid (S3.out.alloc (.cells #[.string ⟨#[105, 100]⟩, .string v] 91))
      have S4 := Lib.hid (S4.out.alloc (.cells #[.string ⟨#[105, 100]⟩, .string v] 91))
      rw [← hg7] at S6 ⊢
      generalize w7.alloc (.cells #[.string ⟨#[105, 100]⟩, .string v] 91) = w8 at S1 S2 S3 S4 S6 ⊢
      have m2 : w8.cell? ⟨g, 2, none⟩ = some (.slice none 0 0) := S1.out.cell 2
      have z0 : w8.cell? ⟨g7, 0, none⟩ = some (.string ⟨#[105, 100]⟩) := S6.out.cell 0
      have z1 : w8.cell? ⟨g7, 1, none⟩ = some (.string v) := S6.out.cell 1
      clear hg7
      go_upto_region 11 with (go_at_call 122; refine (containsFn_nil _ _).mono ?_; rintro e w9 ⟨rfl, hw⟩; (obtain rfl := hw.symm))
      have hB8 : B ≤ w8.heap.size := by have := S3.out.lt; have := HBW0.out; omega
      have P9 := Lib.hid (Blk.new w8 91 #[.string ⟨#[105, 100]⟩, .string v])
      have hg8 : g ≠ w8.heap.size := by have := S1.out.lt; omega
      go_wp2_with (at_builtin; refine wpList_append_any rfl _ _ 32 rfl B 91 i0 (.agg #[.string ⟨#[]⟩, .string ⟨#[]⟩]) 2 32 Tryz.underlying32 hi hz0 hz1 hz2 rfl (by decide) (.slice none 0 0) 0 [] rfl (World.ownsRow_nil _ _ _ _) (some ⟨w8.heap.size, 0, none⟩) 1 1 [.string ⟨#[105, 100]⟩, .string v] rfl rfl (.inl ⟨w8.heap.size, 0, rfl, fun j u hj => by rw [Nat.zero_add, P9.out.cell j]; simpa using hj⟩) (by intro u hu; simp at hu; rcases hu with rfl | rfl <;> rfl) (by decide) (by decide) (by simp; omega) ?_; intro A9 c9 w10 ho9 hg9 hat9; (have U1 := Lib.hid (blk_grown (S1.out.alloc (.cells #[.string ⟨#[105, 100]⟩, .string v] 91)) hg9 (by simp [Value.ownBlock]))); (have U2 := Lib.hid (blk_grown (S2.out.alloc (.cells #[.string ⟨#[105, 100]⟩, .string v] 91)) hg9 (by simp [Value.ownBlock]))); (have U3 := Lib.hid (blk_grown (S3.out.alloc (.cells #[.string ⟨#[105, 100]⟩, .string v] 91)) hg9 (by simp [Value.ownBlock]))); (have U4 := Lib.hid ((S4.out.alloc (.cells #[.string ⟨#[105, 100]⟩, .string v] 91)).trans (.of_below ((Below.refl _ _).grown hg9 (Nat.le_refl _) (by simp [Value.ownBlock]))))); (have U5 := Lib.hid ho9); (have m2' : w10.cell? ⟨g, 2, none⟩ = some (.slice none 0 0) := U1.out.cell 2); (have n2 : w10.frozen? ⟨g, 2, none⟩ = false := U1.out.free 2); clear ho9 hg9 hat9)
      have hgw : w.heap.size ≤ g := by have := HG.out; omega
      go_roundw
      case rel => exact .inr ⟨A9, c9, U1.out.stored 2 _, U2.out.far (by omega : g + 1 ≠ g) _, U3.out.far (Ne.symm hgb) _, U4.out.setCell (p := ⟨g, 2, none⟩) (.inr hgw) _, own_setFar U5.out (blk_ne U1.out U5.out (by decide))⟩
      case measure =>
        have q1 : (w10.setCell ⟨g, 2, none⟩ (.slice A9 (0 + 1) c9)).cell? ⟨b, 1, none⟩ = some (.int .i64 (a4 : Int)) := (U3.out.far (Ne.symm hgb) (i := 2) _).cell 1
        rw [q1, hsB.out _ R3.out]
        simp [intOf]; omega
    · have R1 := Lib.hid R1
      have R2 := Lib.hid R2
      have R3 := Lib.hid R3
      have R4 := Lib.hid R4
      have R5 := Lib.hid R5
      have hle4 : a4 ≤ s.size := by omega
      have hgt4 := HGT4.out
      have e1 : ((a4 : Int) == (s.size : Int)) = false := by simp; omega
      have e2 : ((s[a4].toNat : Int) == 62) = true := by rw [hgt4]; rfl
      have HX : Hid (∀ W, Calls Tryz.prog 120 #[.string ⟨#[]⟩, .string ⟨#[47]⟩] W fun e w' => e = .returned (.bool false) ∧ w' = W) := fun W => Tryz.strings_HasSuffix ⟨#[]⟩ ⟨#[47]⟩ W (by decide)
      clear hgt4
      go_wp2_with (go_at_call 116; refine (until_calls b s a4 c2 c3 _ ef2 noSkip tag2_calls (by omega) hle4 _ R3.out).mono ?_; rintro e w4 ⟨a2', ha2, hle2, rfl, hb4, ho4⟩; (obtain rfl := (ha2.trans H4.out).symm); rw [H42.out]; (have T1 := Lib.hid (ho4.blk hgb R1.out)); (have T2 := Lib.hid (ho4.blk hgb1 R2.out)); (have T3 := Lib.hid hb4); (have T4 := Lib.hid (R4.out.trans ho4.n)); (have T5 := Lib.hid (attrs_onlyN R5.out R3.out ho4.n)); (have c0 : w4.cell? ⟨b, 0, none⟩ = some (.string s) := hb4.cell 0); (have c1 : w4.cell? ⟨b, 1, none⟩ = some (.int .i64 (a4 : Int)) := hb4.cell 1); (have f1 : w4.frozen? ⟨b, 1, none⟩ = false := hb4.free 1); clear hb4 ho4 ha2)
      go_quiet (fail)
      have T1 := Lib.hid (T1.out.drewN nq)
      have T2 := Lib.hid (T2.out.drewN nq)
      have T3 := Lib.hid (T3.out.drewN nq)
      have T4 := Lib.hid (T4.out.drewN nq)
      have T5 := Lib.hid (attrs_drewN T5.out nq)
      have c0 : (w4.drewN nq).cell? ⟨b, 0, none⟩ = some (.string s) := c0
      have c1 : (w4.drewN nq).cell? ⟨b, 1, none⟩ = some (.int .i64 (a4 : Int)) := c1
      have f1 : (w4.drewN nq).frozen? ⟨b, 1, none⟩ = false := f1
      generalize w4.drewN nq = w5 at T1 T2 T3 T4 T5 c0 c1 f1 ⊢
      clear nq
      go_wp2
      go_quiet (fail)
      have T1 := Lib.hid (T1.out.drewN nq)
      have T2 := Lib.hid (T2.out.drewN nq)
      have T3 := Lib.hid (T3.out.drewN nq)
      have T4 := Lib.hid (T4.out.drewN nq)
      have T5 := Lib.hid (attrs_drewN T5.out nq)
      have c0 : (w5.drewN nq).cell? ⟨b, 0, none⟩ = some (.string s) := c0
      have c1 : (w5.drewN nq).cell? ⟨b, 1, none⟩ = some (.int .i64 (a4 : Int)) := c1
      have f1 : (w5.drewN nq).frozen? ⟨b, 1, none⟩ = false := f1
      generalize w5.drewN nq = w6 at T1 T2 T3 T4 T5 c0 c1 f1 ⊢
      clear nq
      go_wp2_with (go_at_call 120; refine (HX.out _).mono ?_; rintro e w8 ⟨rfl, rfl⟩; (have S1 := T1.out.far hgb (i := 1) (.int .i64 ((a4 : Int) + 1))); (have S2 := T2.out.far hgb1 (i := 1) (.int .i64 ((a4 : Int) + 1))); (have m0 := S1.cell 0); (have m1 := S1.cell 1); (have m2 := S1.cell 2); (have m3 := S1.cell 3); (have m4 := S1.cell 4); (have m5 := S1.cell 5); (have m6 := S1.cell 6); (have n4 := S1.free 4); simp only [List.getElem?_toArray, List.getElem?_cons_succ, List.getElem?_cons_zero] at m0 m1 m2 m3 m4 m5 m6; (have q0 := S2.cell 0); (have q1 := S2.cell 1); (have q2 := S2.cell 2); (have q3 := S2.cell 3); (have q4 := S2.cell 4); (have q5 := S2.cell 5); (have q6 := S2.cell 6); simp only [List.getElem?_toArray, List.getElem?_cons_succ, List.getElem?_cons_zero] at q0 q1 q2 q3 q4 q5 q6; (have r0 := S2.free 0); (have r1 := S2.free 1); (have r2 := S2.free 2); (have r3 := S2.free 3); (have r4 := S2.free 4); (have r5 := S2.free 5); (have r6 := S2.free 6); clear S1 S2)
      have B3 := (((((((((T3.out.stored 1 (.int .i64 ((a4 : Int) + 1))).far (Ne.symm hgb) (i := 4) (.bool false)).far (Ne.symm hgb1) (i := 0) (.int .i64 kind)).far (Ne.symm hgb1) (i := 1) (.string nm)).far (Ne.symm hgb1) (i := 2) (.slice A9 1 c9)).far (Ne.symm hgb1) (i := 3) (.string ⟨#[]⟩)).far (Ne.symm hgb1) (i := 4) (.bool false)).far (Ne.symm hgb1) (i := 5) (.int .i64 0)).far (Ne.symm hgb1) (i := 6) (.int .i64 0))
      have B2 := (((((((((T2.out.far hgb1 (i := 1) (.int .i64 ((a4 : Int) + 1))).far (by omega : g + 1 ≠ g) (i := 4) (.bool false)).stored 0 (.int .i64 kind)).stored 1 (.string nm)).stored 2 (.slice A9 1 c9)).stored 3 (.string ⟨#[]⟩)).stored 4 (.bool false)).stored 5 (.int .i64 0)).stored 6 (.int .i64 0))
      have hgw : w.heap.size ≤ g := by have := HG.out; omega
      have hgw1 : w.heap.size ≤ g + 1 := by omega
      have B4 := (((((((((T4.out.setCell (p := ⟨b, 1, none⟩) (.inl rfl) (.int .i64 ((a4 : Int) + 1))).setCell (p := ⟨g, 4, none⟩) (.inr hgw) (.bool false)).setCell (p := ⟨g + 1, 0, none⟩) (.inr hgw1) (.int .i64 kind)).setCell (p := ⟨g + 1, 1, none⟩) (.inr hgw1) (.string nm)).setCell (p := ⟨g + 1, 2, none⟩) (.inr hgw1) (.slice A9 1 c9)).setCell (p := ⟨g + 1, 3, none⟩) (.inr hgw1) (.string ⟨#[]⟩)).setCell (p := ⟨g + 1, 4, none⟩) (.inr hgw1) (.bool false)).setCell (p := ⟨g + 1, 5, none⟩) (.inr hgw1) (.int .i64 0)).setCell (p := ⟨g + 1, 6, none⟩) (.inr hgw1) (.int .i64 0))
      have x1 := blk_ne T3.out T5.out (by decide)
      have x2 := blk_ne T1.out T5.out (by decide)
      have x3 := blk_ne T2.out T5.out (by decide)
      have B5 := own_setFar (own_setFar (own_setFar (own_setFar (own_setFar (own_setFar (own_setFar (own_setFar (own_setFar T5.out x1 (j := 1) (u := .int .i64 ((a4 : Int) + 1))) x2 (j := 4) (u := .bool false)) x3 (j := 0) (u := .int .i64 kind)) x3 (j := 1) (u := .string nm)) x3 (j := 2) (u := .slice A9 1 c9)) x3 (j := 3) (u := .string ⟨#[]⟩)) x3 (j := 4) (u := .bool false)) x3 (j := 5) (u := .int .i64 0)) x3 (j := 6) (u := .int .i64 0)
      exact bodyPost_ret (results_row_tmp rfl _ _ (g + 1) 49 #[.int .i64 kind, .string nm, .slice A9 1 c9, .string ⟨#[]⟩, .bool false, .int .i64 0, .int .i64 0] _ rfl B2 rfl rfl (by kernel_rfl)) rfl ⟨_, rfl, B5, B3, B4⟩
end Go.Proofs.YtcghahfboccceaaGreatDoor
