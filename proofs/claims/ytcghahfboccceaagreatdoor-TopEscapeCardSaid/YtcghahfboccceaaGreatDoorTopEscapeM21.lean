/- Several texts in one: TgA, TgB, TgC, TgD. -/
import Derived.Test.YtcghahfboccceaaGreatDoorTopEscapeM14
import Derived.Test.YtcghahfboccceaaGreatDoorTopEscapeM20
import Derived.Test.YtcghahfboccceaaGreatDoorTopEscapeM17
import Derived.Shelf.Strings.SlTrimAscii
/- Contracts of token's past, declared at a doctype. -/
namespace Go.Proofs.YtcghahfboccceaaGreatDoor
open Go.RowKit Go.Shelf
set_option linter.unusedVariables false
set_option linter.unusedSimpArgs false

set_option maxRecDepth 100000 in
set_option maxHeartbeats 4000000 in
theorem past_calls (b : Nat) (s mark inner : ByteArray) (rest : List UInt8) (a : Nat) (m : Int) (c2 c3 : Value) (hs : s.size ≤ 1000000) (ha : a ≤ s.size) (hcut : Lib.cut (s.extract a s.size).data.toList mark.data.toList = (inner.data.toList, rest, true)) (hi : inner.size ≤ 1000000) (hmk : mark.size ≤ 1000000)
    (w : World) (hB : Blk w b 82 #[.string s, .int .i64 (a : Int), c2, c3]) (hm : w.cell? ⟨0, 0, none⟩ = some (.int .i64 m)) :
    Calls Tryz.prog 112 #[.pointer (some ⟨b, 0, none⟩), .string mark] w fun e w' => e = .returned (.tuple #[.string inner, .bool true]) ∧ Blk w' b 82 #[.string s, .int .i64 ((a : Int) + (inner.size : Int) + (mark.size : Int)), c2, c3] ∧ OnlyB b w w' := by
  have HC : Hid (∀ W : World, W.cell? ⟨0, 0, none⟩ = some (.int .i64 m) → Calls Tryz.prog 153 #[.string (s.extract a s.size), .string mark] W fun e w' => e = .returned (.tuple #[.string inner, .string ⟨rest.toArray⟩, .bool true]) ∧ ∃ n, w' = W.drewN n) := fun W hW => by
    have := Tryz.strings_Cut (s.extract a s.size) mark m W (by rw [ByteArray.size_extract]; omega) hW
    rw [hcut] at this
    exact this
  have c0 : w.cell? ⟨b, 0, none⟩ = some (.string s) := hB.cell 0
  have c1 : w.cell? ⟨b, 1, none⟩ = some (.int .i64 (a : Int)) := hB.cell 1
  have f1 : w.frozen? ⟨b, 1, none⟩ = false := hB.free 1
  have HB := Lib.hid hB
  have HM := Lib.hid hm
  clear hB hm hcut
  go_enter Tryz.func112, Tryz.ntmps112
  go_wp2
  go_quiet (first | (go_at_call 153; refine Calls.quiet_of (HC.out _ HM.out)))
  have HB1 : Hid (Blk (w.drewN nq) b 82 #[.string s, .int .i64 (a : Int), c2, c3]) := HB.out
  have HO := Lib.hid (OnlyB.drewN b w nq)
  have c1 : (w.drewN nq).cell? ⟨b, 1, none⟩ = some (.int .i64 (a : Int)) := c1
  have f1 : (w.drewN nq).frozen? ⟨b, 1, none⟩ = false := f1
  generalize w.drewN nq = w1 at HB1 HO c1 f1 ⊢
  clear nq
  have d1 : (w1.setCell ⟨b, 1, none⟩ (.int .i64 ((a : Int) + (inner.size : Int)))).cell? ⟨b, 1, none⟩ = some (.int .i64 ((a : Int) + (inner.size : Int))) := (HB1.out.stored 1 _).cell 1
  have g1 : (w1.setCell ⟨b, 1, none⟩ (.int .i64 ((a : Int) + (inner.size : Int)))).frozen? ⟨b, 1, none⟩ = false := (HB1.out.stored 1 _).free 1
  go_wp2
  refine bodyPost_ret (results_tmp2 rfl _ _ _) rfl ⟨rfl, (HB1.out.stored 1 (.int .i64 ((a : Int) + (inner.size : Int)))).stored 1 _, (HO.out.trans (OnlyB.setCell (p := ⟨b, 1, none⟩) _ rfl _)).trans (OnlyB.setCell (p := ⟨b, 1, none⟩) _ rfl _)⟩
end Go.Proofs.YtcghahfboccceaaGreatDoor
/- Contract of token's declared at a doctype, of next there. -/
namespace Go.Proofs.YtcghahfboccceaaGreatDoor
open Go.RowKit Go.Shelf
set_option linter.unusedVariables false
set_option linter.unusedSimpArgs false

def AsciiB (s : ByteArray) : Prop := ∀ (j : Nat) b, s.data.toList[j]? = some b → b.toNat < 128
theorem tok7' {w : World} {g : Nat} {t : TypeId} {a0 a1 a2 a3 a4 a5 a6 : Value} (h : Blk w g t #[a0, a1, a2, a3, a4, a5, a6]) : w.cell? ⟨g, 0, none⟩ = some a0 ∧ w.cell? ⟨g, 1, none⟩ = some a1 ∧ w.cell? ⟨g, 2, none⟩ = some a2 ∧ w.cell? ⟨g, 3, none⟩ = some a3 ∧ w.cell? ⟨g, 4, none⟩ = some a4 ∧ w.cell? ⟨g, 5, none⟩ = some a5 ∧ w.cell? ⟨g, 6, none⟩ = some a6 :=
  ⟨h.cell 0, h.cell 1, h.cell 2, h.cell 3, h.cell 4, h.cell 5, h.cell 6⟩
set_option maxRecDepth 100000 in
set_option maxHeartbeats 8000000 in
theorem declared_calls (B b : Nat) (s rs r9 inner nm : ByteArray) (rest : List UInt8) (a a' : Nat) (m : Int) (c2 c3 : Value) (hs : s.size ≤ 1000000) (ha : a + 9 ≤ s.size) (h1 : s.extract a s.size = rs) (h2 : Lib.hasPrefix rs.data.toList [60, 33, 45, 45] = false) (h3 : rs.extract 0 9 = r9) (h3a : AsciiB r9) (h3s : rs.size ≤ 1000000) (h39 : 9 ≤ rs.size) (h9s : r9.size ≤ 1000000)
    (h4 : Lib.equalFold r9.data.toList [60, 33, 100, 111, 99, 116, 121, 112, 101] = true) (h5 : Lib.cut (s.extract (a + 9) s.size).data.toList [62] = (inner.data.toList, rest, true)) (hi : inner.size ≤ 1000000) (h6 : Lib.trimLeftS inner.data.toList [32, 9, 10, 12, 13] = nm.data.toList) (h7 : Lib.indexAny nm.data.toList [32, 9, 10, 12, 13] = -1) (h7a : AsciiB nm)
    (hn40 : nm.size ≤ 40) (hlo : ∀ k (h : k < nm.size), 97 ≤ nm[k].toNat ∧ nm[k].toNat ≤ 122) (h8 : a + 9 + inner.size + 1 = a')
    (w : World) (hB : Blk w b 82 #[.string s, .int .i64 (a : Int), c2, c3]) (hm : w.cell? ⟨0, 0, none⟩ = some (.int .i64 m)) (hb0 : 0 < b) :
    Calls Tryz.prog 81 #[.pointer (some ⟨b, 0, none⟩)] w (TagSays B b s c2 c3 ⟨5, nm, [], ⟨#[]⟩, false, 0, 0⟩ (a' : Int) w) := by
  have hbl := hB.lt
  obtain ⟨g, hg⟩ : ∃ g, g = w.heap.size := ⟨_, rfl⟩
  have hgb : g ≠ b := by omega
  obtain ⟨wa, hwa⟩ : ∃ wa, wa = w.alloc (.cells #[.int .i64 0, .string ⟨#[]⟩, .slice none 0 0, .string ⟨#[]⟩, .bool false, .int .i64 0, .int .i64 0] 49) := ⟨_, rfl⟩
  have TB : Hid (Blk wa g 49 #[.int .i64 0, .string ⟨#[]⟩, .slice none 0 0, .string ⟨#[]⟩, .bool false, .int .i64 0, .int .i64 0]) := by show Blk _ _ _ _; rw [hwa, hg]; exact Blk.new w _ _
  have OO : Hid (OnlyN b w wa) := by show OnlyN _ _ _; rw [hwa]; exact (OnlyN.refl b w).alloc _
  have HB : Hid (Blk wa b 82 #[.string s, .int .i64 (a : Int), c2, c3]) := by show Blk _ _ _ _; rw [hwa]; exact hB.alloc _
  have MM : Hid (∀ W, OnlyN b w W → W.cell? ⟨0, 0, none⟩ = some (.int .i64 m)) := fun W hW => (World.cell?_of_block (a := ⟨0, 0, none⟩) (hW.block 0 (block_lt_of_cell hm) (by omega))).trans hm
  have c0 : wa.cell? ⟨b, 0, none⟩ = some (.string s) := HB.out.cell 0
  have c1 : wa.cell? ⟨b, 1, none⟩ = some (.int .i64 (a : Int)) := HB.out.cell 1
  have HPX : Hid (∀ W, Calls Tryz.prog 72 #[.string rs, .string ⟨#[60, 33, 45, 45]⟩] W fun e w' => e = .returned (.bool false) ∧ w' = W) := fun W => by
    have := Tryz.strings_HasPrefix rs ⟨#[60, 33, 45, 45]⟩ W
    rw [show (⟨#[60, 33, 45, 45]⟩ : ByteArray).data.toList = [60, 33, 45, 45] from rfl, h2] at this
    exact this
  have HEF : Hid (∀ W, Calls Tryz.prog 111 #[.string r9, .string ⟨#[60, 33, 100, 111, 99, 116, 121, 112, 101]⟩] W fun e w' => e = .returned (.bool true) ∧ w' = W) := fun W => by
    have := Tryz.strings_EqualFold r9 ⟨#[60, 33, 100, 111, 99, 116, 121, 112, 101]⟩ W (by omega) h3a (ascii_all (l := [60, 33, 100, 111, 99, 116, 121, 112, 101]) (by decide +kernel))
    rw [show (⟨#[60, 33, 100, 111, 99, 116, 121, 112, 101]⟩ : ByteArray).data.toList = [60, 33, 100, 111, 99, 116, 121, 112, 101] from rfl, h4] at this
    exact this
  have HPA := Lib.hid (fun W (hW : Blk W b 82 #[.string s, .int .i64 ((a : Int) + 9), c2, c3]) (hm : W.cell? ⟨0, 0, none⟩ = some (.int .i64 m)) => past_calls b s ⟨#[62]⟩ inner rest (a + 9) m c2 c3 hs ha h5 hi (by decide) W hW hm)
  have HTL : Hid (∀ W, Calls Tryz.prog 113 #[.string inner, .string ⟨#[32, 9, 10, 12, 13]⟩] W fun e w' => e = .returned (.string nm) ∧ Below W.heap.size W w') := fun W => by
    have := Any.strings_TrimLeft_laid Tryz.lays161 (by kernel_rfl) inner ⟨#[32, 9, 10, 12, 13]⟩ W (by decide) (ascii_all (l := [32, 9, 10, 12, 13]) (by decide +kernel))
    rw [show (⟨#[32, 9, 10, 12, 13]⟩ : ByteArray).data.toList = [32, 9, 10, 12, 13] from rfl, h6] at this
    exact this
  have HIA : Hid (∀ W, Calls Tryz.prog 114 #[.string nm, .string ⟨#[32, 9, 10, 12, 13]⟩] W fun e w' => e = .returned (.int .i64 (-1)) ∧ Below W.heap.size W w') := fun W => by
    have := Tryz.strings_IndexAny_laid nm ⟨#[32, 9, 10, 12, 13]⟩ W (by omega) (by decide) h7a (ascii_all (l := [32, 9, 10, 12, 13]) (by decide +kernel))
    rw [show (⟨#[32, 9, 10, 12, 13]⟩ : ByteArray).data.toList = [32, 9, 10, 12, 13] from rfl, h7] at this
    exact this
  have HNM := Lib.hid (tname_calls nm hn40 hlo)
  have H1 := Lib.hid h1
  have H3 := Lib.hid h3
  have H8 := Lib.hid h8
  have HWA := Lib.hid hwa
  have HG := Lib.hid hg
  have x9 : (9 : Int) ≤ (rs.size : Int) := by omega
  clear h1 h2 h3 h4 h5 h6 h7 h8 h3a h7a hlo hB hm hwa hg
  go_enter Tryz.func81, Tryz.ntmps81
  go_upto_region 1 with fail
  rw [← HWA.out, ← HG.out]
  have has : a ≤ s.size := by omega
  go_quiet (fail)
  rw [H1.out]
  have TB : Hid (Blk (wa.drewN nq) g 49 #[.int .i64 0, .string ⟨#[]⟩, .slice none 0 0, .string ⟨#[]⟩, .bool false, .int .i64 0, .int .i64 0]) := TB.out
  have OO : Hid (OnlyN b w (wa.drewN nq)) := OO.out.drewN nq
  have HB : Hid (Blk (wa.drewN nq) b 82 #[.string s, .int .i64 (a : Int), c2, c3]) := HB.out
  generalize wa.drewN nq = wb at TB OO HB ⊢
  clear c0 c1 nq HWA
  have c1 : wb.cell? ⟨b, 1, none⟩ = some (.int .i64 (a : Int)) := HB.out.cell 1
  have f1 : wb.frozen? ⟨b, 1, none⟩ = false := HB.out.free 1
  go_wp2_with (first
    | (go_at_call 72; refine (HPX.out _).mono ?_; rintro e w1 ⟨rfl, hw⟩; (obtain rfl := hw.symm))
    | (go_at_call 111; rw [H3.out]; refine (HEF.out _).mono ?_; rintro e w1 ⟨rfl, hw⟩; (obtain rfl := hw.symm))
    | (go_at_call 112; (have OB := Lib.hid (OO.out.setCell (p := ⟨b, 1, none⟩) (.inl rfl) (.int .i64 ((a : Int) + 9)))); (have TS := Lib.hid (TB.out.far hgb (i := 1) (.int .i64 ((a : Int) + 9)))); refine (HPA.out _ (HB.out.stored 1 (.int .i64 ((a : Int) + 9))) (MM.out _ OB.out)).mono ?_; rintro e w3 ⟨rfl, hb3, ho3⟩; (have P3 := Lib.hid hb3); (have O3 := Lib.hid (OB.out.trans ho3.n)); (have T3 := Lib.hid (ho3.blk hgb TS.out)); clear hb3 ho3)
    | (go_at_call 113; refine (HTL.out _).mono ?_; rintro e w4 ⟨rfl, hb⟩; (have P4 := Lib.hid (P3.out.below hb P3.out.lt)); (have O4 := Lib.hid (O3.out.trans (.of_below hb))); (have T4 := Lib.hid (T3.out.below hb T3.out.lt)); clear hb)
    | (go_at_call 114; refine (HIA.out _).mono ?_; rintro e w5 ⟨rfl, hb⟩; (have P5 := Lib.hid (P4.out.below hb P4.out.lt)); (have O5 := Lib.hid (O4.out.trans (.of_below hb))); (have T5 := Lib.hid (T4.out.below hb T4.out.lt)); clear hb)
    | (go_at_call 115; refine (HNM.out _).mono ?_; rintro e w6 ⟨rfl, hb⟩; (have P6 := Lib.hid (P5.out.below hb P5.out.lt)); (have O6 := Lib.hid (O5.out.trans (.of_below hb))); (have T6 := Lib.hid (T5.out.below hb T5.out.lt)); (obtain ⟨q0, q1, q2, q3, q4, q5, q6⟩ := tok7' T6.out); (have r0 := T6.out.free 0); (have r1 := T6.out.free 1); (have r2 := T6.out.free 2); (have r3 := T6.out.free 3); (have r4 := T6.out.free 4); (have r5 := T6.out.free 5); (have r6 := T6.out.free 6); clear hb))
  have hgw : w.heap.size ≤ g := by have := HG.out; omega
  have hA : ((a + 9 : Nat) : Int) + (inner.size : Int) + (((⟨#[62]⟩ : ByteArray).size : Nat) : Int) = (a' : Int) := by have := H8.out; have e : (⟨#[62]⟩ : ByteArray).size = 1 := rfl; rw [e]; omega
  have PF := P6.out
  rw [hA] at PF
  have B2 := ((((((T6.out.stored 0 (.int .i64 5)).stored 1 (.string nm)).stored 2 (.slice none 0 0)).stored 3 (.string ⟨#[]⟩)).stored 4 (.bool false)).stored 5 (.int .i64 0)).stored 6 (.int .i64 0)
  have B3 := ((((((PF.far (Ne.symm hgb) (i := 0) (.int .i64 5)).far (Ne.symm hgb) (i := 1) (.string nm)).far (Ne.symm hgb) (i := 2) (.slice none 0 0)).far (Ne.symm hgb) (i := 3) (.string ⟨#[]⟩)).far (Ne.symm hgb) (i := 4) (.bool false)).far (Ne.symm hgb) (i := 5) (.int .i64 0)).far (Ne.symm hgb) (i := 6) (.int .i64 0)
  have B4 := ((((((O6.out.setCell (p := ⟨g, 0, none⟩) (.inr hgw) (.int .i64 5)).setCell (p := ⟨g, 1, none⟩) (.inr hgw) (.string nm)).setCell (p := ⟨g, 2, none⟩) (.inr hgw) (.slice none 0 0)).setCell (p := ⟨g, 3, none⟩) (.inr hgw) (.string ⟨#[]⟩)).setCell (p := ⟨g, 4, none⟩) (.inr hgw) (.bool false)).setCell (p := ⟨g, 5, none⟩) (.inr hgw) (.int .i64 0)).setCell (p := ⟨g, 6, none⟩) (.inr hgw) (.int .i64 0)
  exact bodyPost_ret (results_row_tmp rfl _ _ g 49 #[.int .i64 5, .string nm, .slice none 0 0, .string ⟨#[]⟩, .bool false, .int .i64 0, .int .i64 0] _ rfl B2 rfl rfl (by kernel_rfl)) rfl ⟨.slice none 0 0, rfl, AttrsAt.none B _, B3, B4⟩
end Go.Proofs.YtcghahfboccceaaGreatDoor
/- Contracts of token's attr: its closures, attrName at a lower name, entity.Value. -/
namespace Go.Proofs.YtcghahfboccceaaGreatDoor
open Go.RowKit Go.Shelf
set_option linter.unusedVariables false
set_option linter.unusedSimpArgs false

/-- Where an attribute's name ends. -/
def attrEnd (u : UInt8) : Bool := blankF u || ((u.toNat : Int) == 47) || ((u.toNat : Int) == 62) || ((u.toNat : Int) == 61)
def noBlank (u : UInt8) : Bool := !blankF u
def valEnd (u : UInt8) : Bool := blankF u || ((u.toNat : Int) == 62)
set_option maxRecDepth 100000 in
set_option maxHeartbeats 1000000 in
theorem attr1_calls (u : UInt8) (w : World) : Calls Tryz.prog 157 #[.int .u8 u.toNat] w fun e w' => e = .returned (.bool (attrEnd u)) ∧ w' = w := by
  have HB := Lib.hid (blank_calls u)
  unfold attrEnd
  generalize blankF u = bl at *
  cases bl
  · cases h1 : ((u.toNat : Int) == 47)
    · cases h2 : ((u.toNat : Int) == 62)
      · cases h3 : ((u.toNat : Int) == 61)
        · go_enter Tryz.func157, Tryz.ntmps157
          go_wp2_with (go_at_call 118; refine (HB.out _).mono ?_; rintro e w' ⟨rfl, rfl⟩)
          go_ret
          exact ⟨rfl, rfl⟩
        · go_enter Tryz.func157, Tryz.ntmps157
          go_wp2_with (go_at_call 118; refine (HB.out _).mono ?_; rintro e w' ⟨rfl, rfl⟩)
          go_ret
          exact ⟨rfl, rfl⟩
      · go_enter Tryz.func157, Tryz.ntmps157
        go_wp2_with (go_at_call 118; refine (HB.out _).mono ?_; rintro e w' ⟨rfl, rfl⟩)
        go_ret
        exact ⟨rfl, rfl⟩
    · go_enter Tryz.func157, Tryz.ntmps157
      go_wp2_with (go_at_call 118; refine (HB.out _).mono ?_; rintro e w' ⟨rfl, rfl⟩)
      go_ret
      exact ⟨rfl, rfl⟩
  · go_enter Tryz.func157, Tryz.ntmps157
    go_wp2_with (go_at_call 118; refine (HB.out _).mono ?_; rintro e w' ⟨rfl, rfl⟩)
    go_ret
    exact ⟨rfl, rfl⟩
set_option maxRecDepth 100000 in
set_option maxHeartbeats 1000000 in
theorem attr2_calls (u : UInt8) (w : World) : Calls Tryz.prog 159 #[.int .u8 u.toNat] w fun e w' => e = .returned (.bool (noBlank u)) ∧ w' = w := by
  have HB := Lib.hid (blank_calls u)
  unfold noBlank
  generalize blankF u = bl at *
  go_enter Tryz.func159, Tryz.ntmps159
  go_wp2_with (go_at_call 118; refine (HB.out _).mono ?_; rintro e w' ⟨rfl, rfl⟩)
  go_ret
  exact ⟨rfl, rfl⟩
set_option maxRecDepth 100000 in
set_option maxHeartbeats 1000000 in
theorem value1_calls (u : UInt8) (w : World) : Calls Tryz.prog 202 #[.int .u8 u.toNat] w fun e w' => e = .returned (.bool (noBlank u)) ∧ w' = w := by
  have HB := Lib.hid (blank_calls u)
  unfold noBlank
  generalize blankF u = bl at *
  go_enter Tryz.func202, Tryz.ntmps202
  go_wp2_with (go_at_call 118; refine (HB.out _).mono ?_; rintro e w' ⟨rfl, rfl⟩)
  go_ret
  exact ⟨rfl, rfl⟩
set_option maxRecDepth 100000 in
set_option maxHeartbeats 1000000 in
theorem value2_calls (u : UInt8) (w : World) : Calls Tryz.prog 203 #[.int .u8 u.toNat] w fun e w' => e = .returned (.bool (valEnd u)) ∧ w' = w := by
  have HB := Lib.hid (blank_calls u)
  unfold valEnd
  generalize blankF u = bl at *
  cases bl
  · cases h2 : ((u.toNat : Int) == 62)
    · go_enter Tryz.func203, Tryz.ntmps203
      go_wp2_with (go_at_call 118; refine (HB.out _).mono ?_; rintro e w' ⟨rfl, rfl⟩)
      go_ret
      exact ⟨rfl, rfl⟩
    · go_enter Tryz.func203, Tryz.ntmps203
      go_wp2_with (go_at_call 118; refine (HB.out _).mono ?_; rintro e w' ⟨rfl, rfl⟩)
      go_ret
      exact ⟨rfl, rfl⟩
  · go_enter Tryz.func203, Tryz.ntmps203
    go_wp2_with (go_at_call 118; refine (HB.out _).mono ?_; rintro e w' ⟨rfl, rfl⟩)
    go_ret
    exact ⟨rfl, rfl⟩
set_option maxRecDepth 100000 in
set_option maxHeartbeats 1000000 in
theorem attrName_id (w : World) : Calls Tryz.prog 158 #[.string ⟨#[105, 100]⟩] w fun e w' => e = .returned (.string ⟨#[105, 100]⟩) ∧ Below w.heap.size w w' := by
  have hlo : ∀ k (h : k < (⟨#[105, 100]⟩ : ByteArray).size), 97 ≤ (⟨#[105, 100]⟩ : ByteArray)[k].toNat ∧ (⟨#[105, 100]⟩ : ByteArray)[k].toNat ≤ 122 := fun k h => by
    have h1 : k < 2 := h
    have h2 : k = 0 ∨ k = 1 := by omega
    rcases h2 with rfl | rfl
    · show 97 ≤ (105 : UInt8).toNat ∧ (105 : UInt8).toNat ≤ 122; decide
    · show 97 ≤ (100 : UInt8).toNat ∧ (100 : UInt8).toNat ≤ 122; decide
  have HNM := Lib.hid (tname_calls ⟨#[105, 100]⟩ (by decide) hlo)
  clear hlo
  go_enter Tryz.func158, Tryz.ntmps158
  go_wp2_with (first
    | (go_at_call 115; refine (HNM.out _).mono ?_; rintro e w6 ⟨rfl, hb⟩)
    | (go_at_call 80; refine (letter_i _).mono ?_; rintro e w7 ⟨rfl, hw⟩; (obtain rfl := hw.symm)))
  go_ret
  exact ⟨rfl, hb⟩
set_option maxRecDepth 100000 in
set_option maxHeartbeats 1000000 in
theorem evalue_calls (s : ByteArray) (hh : NoNum s.data.toList) (h2 : ∀ b ∈ s.data.toList, b ≠ 38) (hs : s.size ≤ 1099511627776) (w : World) :
    Calls Tryz.prog 160 #[.string s] w fun e w' => e = .returned (.string ⟨(readF true s.size s.data.toList).toArray⟩) ∧ Below w.heap.size w w' := by
  have H := Lib.hid (eread_calls s true hh (fun h => h2) hs)
  go_enter Tryz.func160, Tryz.ntmps160
  go_wp2_with (go_at_call 110; refine (H.out _).mono ?_; rintro e w1 ⟨rfl, hb⟩)
  go_ret
  exact ⟨rfl, hb⟩
end Go.Proofs.YtcghahfboccceaaGreatDoor
/- Contract of token's value, without quotes. -/
namespace Go.Proofs.YtcghahfboccceaaGreatDoor
open Go.RowKit Go.Shelf
set_option linter.unusedVariables false
set_option linter.unusedSimpArgs false

theorem ef3 : ∀ args w, (callFunc 202 args).run Tryz.prog w = .ok (.enter 202 args) w := enters_of Tryz.func202 (by kernel_rfl) rfl
theorem ef4 : ∀ args w, (callFunc 203 args).run Tryz.prog w = .ok (.enter 203 args) w := enters_of Tryz.func203 (by kernel_rfl) rfl
theorem ef5 : ∀ args w, (callFunc 157 args).run Tryz.prog w = .ok (.enter 157 args) w := enters_of Tryz.func157 (by kernel_rfl) rfl
theorem ef6 : ∀ args w, (callFunc 159 args).run Tryz.prog w = .ok (.enter 159 args) w := enters_of Tryz.func159 (by kernel_rfl) rfl
set_option maxRecDepth 100000 in
set_option maxHeartbeats 4000000 in
theorem value_calls (b : Nat) (s v : ByteArray) (a a1 a2 : Nat) (c2 c3 : Value) (hs : s.size ≤ 1099511627776) (ha : a ≤ s.size) (h1 : skipTo noBlank s.data.toList a = a1) (hlt : a1 < s.size) (hq1 : s[a1].toNat ≠ 34) (hq2 : s[a1].toNat ≠ 39)
    (h2 : skipTo valEnd s.data.toList a1 = a2) (hv : s.extract a1 a2 = v) (w : World) (hB : Blk w b 82 #[.string s, .int .i64 (a : Int), c2, c3]) :
    Calls Tryz.prog 161 #[.pointer (some ⟨b, 0, none⟩)] w fun e w' => e = .returned (.string v) ∧ Blk w' b 82 #[.string s, .int .i64 (a2 : Int), c2, c3] ∧ OnlyB b w w' := by
  have HB := Lib.hid hB
  have H1 := Lib.hid h1
  have H2 := Lib.hid h2
  have HV := Lib.hid hv
  have x1 : ((a1 : Int) < (s.size : Int)) := by omega
  have e1 : ((s[a1].toNat : Int) == 34) = false := by simp; omega
  have e2 : ((s[a1].toNat : Int) == 39) = false := by simp; omega
  clear h1 h2 hv hB hq1 hq2
  go_enter Tryz.func161, Tryz.ntmps161
  go_wp2_with (go_at_call 116; refine (until_calls b s a c2 c3 _ ef3 noBlank value1_calls hs ha _ HB.out).mono ?_; rintro e w1 ⟨a1', ha1, hle1, rfl, hb1, ho1⟩; (obtain rfl := (ha1.trans H1.out).symm); (have P3 := Lib.hid hb1); (have P4 := Lib.hid ho1); (have c0 : w1.cell? ⟨b, 0, none⟩ = some (.string s) := hb1.cell 0); (have c1 : w1.cell? ⟨b, 1, none⟩ = some (.int .i64 (a1 : Int)) := hb1.cell 1); clear hb1 ho1 ha1)
  go_quiet (fail)
  have P3 : Hid (Blk (w1.drewN nq) b 82 #[.string s, .int .i64 (a1 : Int), c2, c3]) := P3.out
  have P4 : Hid (OnlyB b w (w1.drewN nq)) := P4.out.trans (OnlyB.drewN b w1 nq)
  generalize w1.drewN nq = w5 at P3 P4 ⊢
  clear nq c0 c1
  go_wp2_with (go_at_call 116; refine (until_calls b s a1 c2 c3 _ ef4 valEnd value2_calls hs hle1 _ P3.out).mono ?_; rintro e w2 ⟨a2', ha2, hle2, rfl, hb2, ho2⟩; (obtain rfl := (ha2.trans H2.out).symm); rw [HV.out])
  go_ret
  exact ⟨rfl, hb2, P4.out.trans ho2⟩
end Go.Proofs.YtcghahfboccceaaGreatDoor
