/- Several texts in one: TeX, TgG, TfA, DomF. -/
import Derived.Test.YtcghahfboccceaaGreatDoorTopEscapeM25
import Derived.Test.YtcghahfboccceaaGreatDoorTopEscapeM23
import Derived.Test.YtcghahfboccceaaGreatDoorTopEscapeM20
import Derived.Test.YtcghahfboccceaaGreatDoorTopEscapeM19
/- Contract of token's Read, Raw at names that are not raw. -/
namespace Go.Proofs.YtcghahfboccceaaGreatDoor
open Go.RowKit Go.Shelf
set_option linter.unusedVariables false
set_option linter.unusedSimpArgs false

set_option maxRecDepth 100000 in
theorem raw_p (w : World) : Calls Tryz.prog 60 #[.string ⟨#[112]⟩] w fun e w' => e = .returned (.int .i64 0) ∧ w' = w := by
  go_enter Tryz.func60, Tryz.ntmps60
  go_wp2
  go_ret
  exact ⟨rfl, rfl⟩
/-- The stages of a text. -/
structure Stages (s : ByteArray) (n : Nat) (A A' : Nat → Nat) (dd : Nat → TokD) (kd : Nat → Int) (D : Nat → List TokD) : Prop where
  first : TxtOk s 0 (A 0)
  d0 : D 0 = textD s 0 (A 0)
  stage : ∀ i, i < n → Stage s (A i) (dd i) (A' i) (A (i + 1)) (kd i)
  step : ∀ i, i < n → D (i + 1) = D i ++ [dd i] ++ textD s (A' i) (A (i + 1))
  fin : A n = s.size
  few : ∀ i, i ≤ n → (D i).length < 999999
set_option maxRecDepth 100000 in
set_option maxHeartbeats 1000000 in
theorem tRead_calls (s : ByteArray) (ds : List TokD) (h : ∃ n A A' dd kd D, Stages s n A A' dd kd D ∧ D n = ds) (hs : s.size ≤ 4000) (m : Int) (w : World) (hm : w.cell? ⟨0, 0, none⟩ = some (.int .i64 m)) :
    Calls Tryz.prog 17 #[.string s] w fun x w' => ∃ v ts, x = .returned (.tuple #[v, .int .i64 0]) ∧ w'.ownsRow w.heap.size 49 7 v ts.length (ts.flatMap tokL) ∧ ToksOk w.heap.size w' ds ts ∧ Below w.heap.size w w' := by
  obtain ⟨n, A, A', dd, kd, D, hS, rfl⟩ := h
  have H := Lib.hid (tread_calls s n A A' dd kd D (by omega) hS.first hS.d0 hS.stage hS.step hS.fin hS.few m w hm)
  clear hS hm
  go_enter Tryz.func17, Tryz.ntmps17
  go_wp2_with (go_at_call 34; refine H.out.mono ?_; rintro e w1 ⟨b, rfl, ⟨en, v, ts, hr, ht⟩, hb⟩; (have c3 : w1.cell? ⟨b, 3, none⟩ = some v := hr.blk.cell 3); (have HR := Lib.hid hr); (have HT := Lib.hid ht); clear hr ht)
  exact bodyPost_ret (results_tmp2 rfl _ _ _) rfl ⟨v, ts, rfl, HR.out.own, HT.out, hb⟩
end Go.Proofs.YtcghahfboccceaaGreatDoor
/- Contract of token's next at a doctype; the tokens of what must be in any case. -/
namespace Go.Proofs.YtcghahfboccceaaGreatDoor
open Go.RowKit Go.Shelf
set_option linter.unusedVariables false
set_option linter.unusedSimpArgs false

set_option maxRecDepth 100000 in
set_option maxHeartbeats 4000000 in
theorem next_decl (B b : Nat) (s : ByteArray) (c2 c3 : Value) (d : TokD) (a' : Int) (w : World) {cs : Array Value} (hB : Blk w b 82 cs)
    (ht : ∀ w1 : World, OnlyN b w w1 → Blk w1 b 82 cs → Calls Tryz.prog 81 #[.pointer (some ⟨b, 0, none⟩)] w1 (TagSays B b s c2 c3 d a' w1)) :
    Calls Tryz.prog 58 #[.pointer (some ⟨b, 0, none⟩), .int .u8 33] w (TagSays B b s c2 c3 d a' w) := by
  have HT := Lib.hid ht
  have hbl := hB.lt
  obtain ⟨g, hg⟩ : ∃ g, g = w.heap.size := ⟨_, rfl⟩
  have hgb : g ≠ b := by omega
  obtain ⟨wa, hwa⟩ : ∃ wa, wa = w.alloc (.cells #[.int .i64 0, .string ⟨#[]⟩, .slice none 0 0, .string ⟨#[]⟩, .bool false, .int .i64 0, .int .i64 0] 49) := ⟨_, rfl⟩
  have P1 : Hid (Blk wa g 49 #[.int .i64 0, .string ⟨#[]⟩, .slice none 0 0, .string ⟨#[]⟩, .bool false, .int .i64 0, .int .i64 0]) := by show Blk _ _ _ _; rw [hwa, hg]; exact Blk.new w _ _
  have P2 : Hid (OnlyN b w wa) := by show OnlyN _ _ _; rw [hwa]; exact (OnlyN.refl b w).alloc _
  have P3 : Hid (Blk wa b 82 cs) := by show Blk _ _ _ _; rw [hwa]; exact hB.alloc _
  have HWA := Lib.hid hwa
  have HG := Lib.hid hg
  clear hg hwa hB ht
  go_enter Tryz.func58, Tryz.ntmps58
  go_upto_region 1 with fail
  rw [← HWA.out, ← HG.out]
  go_wp2_with (go_at_call 81; refine (HT.out _ P2.out P3.out).mono ?_; rintro e w4 ⟨av, rfl, hat, hb4, ho4⟩; (obtain ⟨A9, c9, rfl⟩ := hat.open); (have Q1 := Lib.hid (ho4.blk hgb P1.out)); (have Q2 := Lib.hid (P2.out.trans ho4)); (have Q3 := Lib.hid hb4); (have Q4 := Lib.hid hat); (obtain ⟨q0, q1, q2, q3, q4, q5, q6⟩ := tok7' Q1.out); (have r0 := Q1.out.free 0); (have r1 := Q1.out.free 1); (have r2 := Q1.out.free 2); (have r3 := Q1.out.free 3); (have r4 := Q1.out.free 4); (have r5 := Q1.out.free 5); (have r6 := Q1.out.free 6); clear hat hb4 ho4)
  have hgw : w.heap.size ≤ g := by have := HG.out; omega
  have B2 := ((((((Q1.out.stored 0 (.int .i64 d.kind)).stored 1 (.string d.name)).stored 2 (.slice A9 d.attrs.length c9)).stored 3 (.string d.text)).stored 4 (.bool d.self)).stored 5 (.int .i64 0)).stored 6 (.int .i64 0)
  have B3 := ((((((Q3.out.far (Ne.symm hgb) (i := 0) (.int .i64 d.kind)).far (Ne.symm hgb) (i := 1) (.string d.name)).far (Ne.symm hgb) (i := 2) (.slice A9 d.attrs.length c9)).far (Ne.symm hgb) (i := 3) (.string d.text)).far (Ne.symm hgb) (i := 4) (.bool d.self)).far (Ne.symm hgb) (i := 5) (.int .i64 0)).far (Ne.symm hgb) (i := 6) (.int .i64 0)
  have B4 := ((((((Q2.out.setCell (p := ⟨g, 0, none⟩) (.inr hgw) (.int .i64 d.kind)).setCell (p := ⟨g, 1, none⟩) (.inr hgw) (.string d.name)).setCell (p := ⟨g, 2, none⟩) (.inr hgw) (.slice A9 d.attrs.length c9)).setCell (p := ⟨g, 3, none⟩) (.inr hgw) (.string d.text)).setCell (p := ⟨g, 4, none⟩) (.inr hgw) (.bool d.self)).setCell (p := ⟨g, 5, none⟩) (.inr hgw) (.int .i64 0)).setCell (p := ⟨g, 6, none⟩) (.inr hgw) (.int .i64 0)
  have hne : (Value.slice A9 d.attrs.length c9).ownBlock ≠ some g := blk_ne Q1.out Q4.out (by decide)
  have B5 := own_setFar (own_setFar (own_setFar (own_setFar (own_setFar (own_setFar (own_setFar Q4.out hne (j := 0) (u := .int .i64 d.kind)) hne (j := 1) (u := .string d.name)) hne (j := 2) (u := .slice A9 d.attrs.length c9)) hne (j := 3) (u := .string d.text)) hne (j := 4) (u := .bool d.self)) hne (j := 5) (u := .int .i64 0)) hne (j := 6) (u := .int .i64 0)
  exact bodyPost_ret (results_row_tmp rfl _ _ g 49 #[.int .i64 d.kind, .string d.name, .slice A9 d.attrs.length c9, .string d.text, .bool d.self, .int .i64 0, .int .i64 0] _ rfl B2 rfl rfl (by kernel_rfl)) rfl ⟨_, rfl, B5, B3, B4⟩
theorem OnlyN.cell0 {b : Nat} {w W : World} {m : Int} (h : OnlyN b w W) (hb0 : 0 < b) (hm : w.cell? ⟨0, 0, none⟩ = some (.int .i64 m)) : W.cell? ⟨0, 0, none⟩ = some (.int .i64 m) :=
  (World.cell?_of_block (a := ⟨0, 0, none⟩) (h.block 0 (block_lt_of_cell hm) (by omega))).trans hm
theorem tagB_says (B b : Nat) (s nm v : ByteArray) (a a1 a2 a4 : Nat) (c2 c3 : Value) (hBw0 : B ≤ b) (hs : s.size ≤ 1000000) (ha : a + 1 ≤ s.size) (h1 : skipTo nameEnd s.data.toList (a + 1) = a1) (hnm : s.extract (a + 1) a1 = nm) (hn40 : nm.size ≤ 40)
    (hlo : ∀ k (h : k < nm.size), 97 ≤ nm[k].toNat ∧ nm[k].toNat ≤ 122) (h2 : skipTo noSkip s.data.toList a1 = a2) (hlt : a2 < s.size) (hgt : s[a2].toNat ≠ 62) (h14 : a1 < a4)
    (hat : ∀ W : World, Blk W b 82 #[.string s, .int .i64 (a2 : Int), c2, c3] → Calls Tryz.prog 121 #[.pointer (some ⟨b, 0, none⟩)] W fun e w' => e = .returned (.agg #[.string ⟨#[105, 100]⟩, .string v]) ∧ Blk w' b 82 #[.string s, .int .i64 (a4 : Int), c2, c3] ∧ OnlyN b W w')
    (h4 : skipTo noSkip s.data.toList a4 = a4) (h42 : s.extract a4 a4 = ⟨#[]⟩) (hlt4 : a4 < s.size) (hgt4 : s[a4].toNat = 62) (w : World) (hB : Blk w b 82 #[.string s, .int .i64 ((a : Int) + 1), c2, c3]) :
    Calls Tryz.prog 83 #[.pointer (some ⟨b, 0, none⟩), .agg #[.int .i64 1, .string ⟨#[]⟩, .slice none 0 0, .string ⟨#[]⟩, .bool false, .int .i64 0, .int .i64 0]] w (TagSays B b s c2 c3 ⟨1, nm, [(⟨#[105, 100]⟩, v)], ⟨#[]⟩, false, 0, 0⟩ ((a4 : Int) + 1) w) :=
  tagB_calls B b s nm v (a + 1) a1 a2 a4 1 c2 c3 hBw0 hs ha h1 hnm hn40 hlo h2 hlt hgt h14 hat h4 h42 hlt4 hgt4 w hB
/-- What must be in any case. -/
def docBS : ByteArray := ⟨#[60, 33, 68, 79, 67, 84, 89, 80, 69, 32, 104, 116, 109, 108, 62, 60, 112, 32, 105, 100, 61, 97, 62, 120]⟩
def tB0 : TokD := ⟨5, ⟨#[104, 116, 109, 108]⟩, [], ⟨#[]⟩, false, 0, 15⟩
def tB1 : TokD := ⟨1, ⟨#[112]⟩, [(⟨#[105, 100]⟩, ⟨#[97]⟩)], ⟨#[]⟩, false, 15, 23⟩
def tB2 : TokD := ⟨3, ⟨#[]⟩, [], ⟨#[120]⟩, false, 23, 24⟩
def docBT : List TokD := [tB0, tB1, tB2]
theorem lower_p : ∀ k (h : k < (⟨#[112]⟩ : ByteArray).size), 97 ≤ (⟨#[112]⟩ : ByteArray)[k].toNat ∧ (⟨#[112]⟩ : ByteArray)[k].toNat ≤ 122 := fun k h => by
  have h1 : k < 1 := h
  obtain rfl : k = 0 := by omega
  show 97 ≤ (112 : UInt8).toNat ∧ (112 : UInt8).toNat ≤ 122
  decide
theorem lower_html : ∀ k (h : k < (⟨#[104, 116, 109, 108]⟩ : ByteArray).size), 97 ≤ (⟨#[104, 116, 109, 108]⟩ : ByteArray)[k].toNat ∧ (⟨#[104, 116, 109, 108]⟩ : ByteArray)[k].toNat ≤ 122 := fun k h => by
  have h1 : k < 4 := h
  have h2 : k = 0 ∨ k = 1 ∨ k = 2 ∨ k = 3 := by omega
  rcases h2 with rfl | rfl | rfl | rfl
  · show 97 ≤ (104 : UInt8).toNat ∧ (104 : UInt8).toNat ≤ 122; decide
  · show 97 ≤ (116 : UInt8).toNat ∧ (116 : UInt8).toNat ≤ 122; decide
  · show 97 ≤ (109 : UInt8).toNat ∧ (109 : UInt8).toNat ≤ 122; decide
  · show 97 ≤ (108 : UInt8).toNat ∧ (108 : UInt8).toNat ≤ 122; decide
theorem noNum_a : NoNum (⟨#[97]⟩ : ByteArray).data.toList := fun a h => by
  have h2 : [(97 : UInt8)][a]? = some 38 := h
  cases a with
  | zero => cases h2
  | succ a => simp at h2
theorem noNum_x : NoNum (docBS.extract 23 24).data.toList := fun a h => by
  have h2 : [(120 : UInt8)][a]? = some 38 := h
  cases a with
  | zero => cases h2
  | succ a => simp at h2
theorem noNum_at (a : Nat) : NoNum (docBS.extract a a).data.toList := fun k h => by simp at h
theorem begins0 : Begins docBS 0 := ⟨by decide, rfl, .inr rfl⟩
theorem begins15 : Begins docBS 15 := ⟨by decide, rfl, .inl rfl⟩
theorem txtEmpty (a : Nat) (h : Begins docBS a) : TxtOk docBS a a := ⟨Nat.le_refl _, by obtain ⟨h1, _⟩ := h; omega, fun k _ h1 h2 => absurd h2 (by omega), .inr h, noNum_at a⟩
theorem txtX : TxtOk docBS 23 24 := ⟨by decide, by decide, fun k h h1 h2 => by obtain rfl : k = 23 := by omega
                                                                               show (120 : UInt8).toNat ≠ 60; decide, .inl rfl, noNum_x⟩
theorem attrB (b : Nat) (c2 c3 : Value) (W : World) (hB : Blk W b 82 #[.string docBS, .int .i64 ((18 : Nat) : Int), c2, c3]) : Calls Tryz.prog 121 #[.pointer (some ⟨b, 0, none⟩)] W fun e w' => e = .returned (.agg #[.string ⟨#[105, 100]⟩, .string ⟨#[97]⟩]) ∧ Blk w' b 82 #[.string docBS, .int .i64 ((22 : Nat) : Int), c2, c3] ∧ OnlyN b W w' :=
  attr_calls b docBS ⟨#[97]⟩ 18 20 20 21 22 c2 c3 (by decide) (by decide) (by decide +kernel) (by decide +kernel) (by decide) (by decide +kernel) (by decide) (by decide +kernel) (by decide +kernel) (by decide) (by decide +kernel) (by decide +kernel) (by decide +kernel) (by decide +kernel) noNum_a (by decide +kernel) (by decide +kernel) (by decide) W hB
theorem stage0 : Stage docBS 0 tB0 15 15 33 := by
  refine ⟨by decide, by decide, txtEmpty 15 begins15, fun b c1 c2 c3 w hB => ?_, fun B b m c2 c3 w hB hw hm hb0 hb1 => ?_, by show (5 : Int) ≠ 0; decide, fun h => absurd h (by show ¬ (5 : Int) = 1; decide), rfl, rfl⟩
  · exact markup_ex b docBS 0 c1 c2 c3 (by decide) w (by decide) rfl rfl hB
  · refine next_decl B b docBS c2 c3 tB0 ((15 : Nat) : Int) w hb1 (fun w1 ho hb9 => ?_)
    exact declared_calls B b docBS docBS ⟨#[60, 33, 68, 79, 67, 84, 89, 80, 69]⟩ ⟨#[32, 104, 116, 109, 108]⟩ ⟨#[104, 116, 109, 108]⟩ [60, 112, 32, 105, 100, 61, 97, 62, 120] 0 15 m c2 c3 (by decide) (by decide) (by decide +kernel) (by decide +kernel) (by decide +kernel) (ascii_all (l := [60, 33, 68, 79, 67, 84, 89, 80, 69]) (by decide +kernel)) (by decide) (by decide) (by decide)
      (by decide +kernel) (by decide +kernel) (by decide) (by decide +kernel) (by decide +kernel) (ascii_all (l := [104, 116, 109, 108]) (by decide +kernel)) (by decide) lower_html (by decide) w1 hb9 (ho.cell0 hb0 hm) hb0
theorem stage1 : Stage docBS 15 tB1 23 24 97 := by
  refine ⟨by decide, by decide, txtX, fun b c1 c2 c3 w hB => ?_, fun B b m c2 c3 w hB hw hm hb0 hb1 => ?_, by show (1 : Int) ≠ 0; decide, fun _ w => raw_p w, rfl, rfl⟩
  · exact markup_p b docBS 15 c1 c2 c3 (by decide) w (by decide) rfl rfl hB
  · refine next_tag B b docBS 15 23 c2 c3 _ hB (by decide) (by decide) w hb1 (fun w1 _ hb2 => ?_)
    exact tagB_says B b docBS ⟨#[112]⟩ ⟨#[97]⟩ 15 17 18 22 c2 c3 hB (by decide) (by decide) (by decide +kernel) (by decide +kernel) (by decide) lower_p (by decide +kernel) (by decide) (by decide +kernel) (by decide) (fun W h => attrB b c2 c3 W h) (by decide +kernel) (by decide +kernel) (by decide) (by decide +kernel) w1 hb2
def stA : Nat → Nat | 0 => 0 | 1 => 15 | _ => 24
def stA' : Nat → Nat | 0 => 15 | _ => 23
def stD : Nat → TokD | 0 => tB0 | _ => tB1
def stK : Nat → Int | 0 => 33 | _ => 97
def stT : Nat → List TokD | 0 => [] | 1 => [tB0] | _ => docBT
theorem docB_stages : ∃ n A A' dd kd D, Stages docBS n A A' dd kd D ∧ D n = docBT := by
  refine ⟨2, stA, stA', stD, stK, stT, ⟨txtEmpty 0 begins0, rfl, fun i hi => ?_, fun i hi => ?_, rfl, fun i hi => ?_⟩, rfl⟩
  · have : i = 0 ∨ i = 1 := by omega
    rcases this with rfl | rfl
    · exact stage0
    · exact stage1
  · have : i = 0 ∨ i = 1 := by omega
    rcases this with rfl | rfl
    · rfl
    · show docBT = [tB0] ++ [tB1] ++ textD docBS 23 24
      have : textD docBS 23 24 = [tB2] := by
        unfold textD
        rw [if_pos (by decide)]
        have h : (⟨(readF false (docBS.extract 23 24).size (docBS.extract 23 24).data.toList).toArray⟩ : ByteArray) = ⟨#[120]⟩ := by decide +kernel
        rw [h]
        rfl
      rw [this]
      rfl
  · have : i = 0 ∨ i = 1 ∨ i = 2 := by omega
    rcases this with rfl | rfl | rfl
    · show (0 : Nat) < _; decide
    · show (1 : Nat) < _; decide
    · show (3 : Nat) < _; decide
end Go.Proofs.YtcghahfboccceaaGreatDoor
/- Contracts of open.One, open.Bar (in a button's scope). -/
namespace Go.Proofs.YtcghahfboccceaaGreatDoor
open Go.RowKit Go.Shelf
set_option linter.unusedVariables false
set_option linter.unusedSimpArgs false

/-- open.One. -/
def oneP (name list : ByteArray) : Bool := !(name.size == 0) && !Lib.contains name.data.toList [32] && Lib.contains list.data.toList (32 :: name.data.toList ++ [32])
set_option maxRecDepth 100000 in
set_option maxHeartbeats 4000000 in
theorem oneOf_calls (name list : ByteArray) (m : Int) (hs : name.size ≤ 100000) (hl : list.size ≤ 100000) (w : World) (hm : w.cell? ⟨0, 0, none⟩ = some (.int .i64 m)) :
    Calls Tryz.prog 68 #[.string name, .string list] w fun e w' => e = .returned (.bool (oneP name list)) ∧ w' = w := by
  have C1 := Lib.hid (Tryz.strings_Contains name ⟨#[32]⟩ m w (by omega) hm)
  have C2 := Lib.hid (Tryz.strings_Contains list (⟨#[32]⟩ ++ name ++ ⟨#[32]⟩) m w (by omega) hm)
  have e2 : (⟨#[32]⟩ ++ name ++ ⟨#[32]⟩ : ByteArray).data.toList = 32 :: name.data.toList ++ [32] := by simp
  rw [e2] at C2
  clear e2 hm
  unfold oneP
  have e1 : name.toList.isEmpty = (name.size == 0) := isEmpty_size name
  cases h1 : (name.size == 0)
  · rw [h1] at e1
    simp only [show (⟨#[32]⟩ : ByteArray).data.toList = [32] from rfl] at C1
    generalize Lib.contains name.data.toList [32] = q1 at C1 ⊢
    generalize Lib.contains list.data.toList (32 :: name.data.toList ++ [32]) = q2 at C2 ⊢
    clear h1
    cases q1
    · cases q2
      · go_enter Tryz.func68, Tryz.ntmps68
        go_wp2_with (first
          | (go_at_call 18; refine C1.out.mono ?_; clear C1; rintro e w1 ⟨rfl, rfl⟩)
          | (go_at_call 18; refine C2.out.mono ?_; clear C2; rintro e w1 ⟨rfl, rfl⟩))
        go_ret
        exact ⟨rfl, rfl⟩
      · go_enter Tryz.func68, Tryz.ntmps68
        go_wp2_with (first
          | (go_at_call 18; refine C1.out.mono ?_; clear C1; rintro e w1 ⟨rfl, rfl⟩)
          | (go_at_call 18; refine C2.out.mono ?_; clear C2; rintro e w1 ⟨rfl, rfl⟩))
        go_ret
        exact ⟨rfl, rfl⟩
    · go_enter Tryz.func68, Tryz.ntmps68
      go_wp2_with (first
        | (go_at_call 18; refine C1.out.mono ?_; clear C1; rintro e w1 ⟨rfl, rfl⟩))
      go_ret
      exact ⟨rfl, rfl⟩
  · rw [h1] at e1
    clear h1 C1 C2
    go_enter Tryz.func68, Tryz.ntmps68
    go_wp2
    go_ret
    exact ⟨rfl, rfl⟩
/-- What bars a button's scope. -/
def barL : ByteArray := ⟨#[32, 99, 97, 112, 116, 105, 111, 110, 32, 104, 116, 109, 108, 32, 111, 98, 106, 101, 99, 116, 32, 116, 97, 98, 108, 101, 32, 116, 100, 32, 116, 101, 109, 112, 108, 97, 116, 101, 32, 116, 104, 32, 98, 117, 116, 116, 111, 110, 32]⟩
set_option maxRecDepth 100000 in
set_option maxHeartbeats 4000000 in
theorem bar3_calls (name : ByteArray) (m : Int) (hs : name.size ≤ 100000) (w : World) (hm : w.cell? ⟨0, 0, none⟩ = some (.int .i64 m)) :
    Calls Tryz.prog 243 #[.string name, .int .i64 3] w fun e w' => e = .returned (.bool (oneP name barL)) ∧ w' = w := by
  have H := Lib.hid (oneOf_calls name barL m hs (by decide) w hm)
  unfold barL at H
  clear hm
  go_enter Tryz.func243, Tryz.ntmps243
  go_wp2_with (go_at_call 68; refine H.out.mono ?_; rintro e w1 ⟨rfl, rfl⟩)
  go_ret
  exact ⟨rfl, rfl⟩
end Go.Proofs.YtcghahfboccceaaGreatDoor
/- Contract of dom.up. -/
namespace Go.Proofs.YtcghahfboccceaaGreatDoor
open Go.RowKit
set_option linter.unusedVariables false
set_option linter.unusedSimpArgs false

/-- The cells of a slice that its own row holds. -/
theorem row_at {w : World} {base g n cap size : Nat} {e : TypeId} {xs : List Value} (h : w.ownsRow base e size (.slice (some ⟨g, 0, none⟩) n cap) n xs) : (∀ j u, xs[j]? = some u → w.cell? ⟨g, j, none⟩ = some u) ∧ base ≤ g ∧ g < w.heap.size ∧ n ≤ cap := by
  rcases h.2 with ⟨h1, _⟩ | ⟨g', cap', cur, hv, h1, h2, h3, h4, h5, h6⟩
  · cases h1
  · injection hv with hv1 hv2 hv3
    injection hv1 with hv1
    injection hv1 with hv1
    subst hv1; subst hv3
    have hB : Blk w g e cur := h2
    refine ⟨fun j u hj => ?_, h1, hB.lt, h3⟩
    have hj5 : j < n * size := by
      rcases Nat.lt_or_ge j (n * size) with h7 | h7
      · exact h7
      · rw [List.getElem?_eq_none (by rw [h.1]; exact h7)] at hj; cases hj
    rw [hB.cell j]
    have h8 := congrArg (fun l : List Value => l[j]?) h6
    rw [List.getElem?_take_of_lt hj5, hj] at h8
    simpa using h8
/-- The document's own two cells. -/
def docC (A : Option Addr) (n c : Nat) (q : Bool) : Array Value := #[.slice A n c, .bool q]
theorem upF_neg {ns : List NodeV} {i : Nat} (h : (nd ns i).parent < 0) : ∀ u, upF ns u i = 0
  | 0 => rfl
  | u + 1 => by rw [upF, if_neg (by omega)]
set_option maxRecDepth 100000 in
set_option maxHeartbeats 4000000 in
theorem up_calls (A : Option Addr) (n c B i : Nat) (q : Bool) (ns : List NodeV) (w : World) (hn : ns.length = n) (h : Nodes w B A ns) (hB : B ≤ w.heap.size) (hm : n ≤ 200) (hi : i < n) (hp : ∀ j, j < n → (nd ns j).parent < n ∧ -1 ≤ (nd ns j).parent) :
    Calls Tryz.prog 45 #[.agg #[.slice A n c, .bool q], .int .i64 i] w fun e w' => e = .returned (.int .i64 (upF ns (n + 1) i : Nat)) ∧ Below w.heap.size w w' := by
  subst hn
  have HD := Lib.hid (Blk.new w 27 #[.slice A ns.length c, .bool q])
  have d0 := HD.out.cell 0
  have d0' : (w.alloc (.cells #[.slice A ns.length c, .bool q] 27)).cell? ⟨w.heap.size, 0, none⟩ = some (.slice A ns.length c) := d0
  have HW := Lib.hid (below_alloc (Below.refl w.heap.size w) (.cells #[.slice A ns.length c, .bool q] 27))
  have HN := Lib.hid (h.below HW.out hB)
  have HP := Lib.hid hp
  obtain ⟨r, hr⟩ : ∃ r, r = upF ns (ns.length + 1) i := ⟨_, rfl⟩
  rw [← hr]
  have HR := Lib.hid hr
  clear h hp hr d0
  go_enter Tryz.func45, Tryz.ntmps45
  go_wp2_with fail
  generalize World.alloc w _ = w0 at HD HW HN d0' ⊢
  go_loop [1, 4] (fun x y => ∃ m k : Nat, k < ns.length ∧ m ≤ ns.length + 1 ∧ x = .int .i64 k ∧ y = .int .i64 m ∧ Hid (r = m + upF ns (ns.length + 1 - m) k)) (fun _ y => ns.length + 1 - (intOf y).toNat)
  case atStart => exact ⟨0, i, hi, by omega, rfl, rfl, by show _ = _; rw [HR.out]; simp⟩
  case round =>
    obtain ⟨m, k, hk, hmm, rfl, rfl, HK⟩ := hrel
    obtain ⟨b, off, rfl, hb, hc, _⟩ := HN.out k hk
    have c4 : w0.cell? ⟨b, off + k * 6 + 4, none⟩ = some (.int .i64 (nd ns k).parent) := hc 4 (by decide)
    have hpk := HP.out k hk
    obtain ⟨p, hpp⟩ : ∃ p, p = (nd ns k).parent := ⟨_, rfl⟩
    rw [← hpp] at c4 hpk
    have HPP := Lib.hid hpp
    clear hc hpp
    by_cases h0 : p < 0
    · have hd : decide (0 ≤ p) = false := by simp; omega
      have HE : Hid (r = m) := by show _ = _; rw [HK.out, upF_neg (by rw [← HPP.out]; exact h0)]; rfl
      clear h0
      go_wp2_with fail
      go_ret
      exact ⟨by rw [HE.out]; rfl, HW.out⟩
    · have hd : decide (0 ≤ p) = true := by simp; omega
      by_cases h1 : m ≤ ns.length
      · have hd1 : decide (m ≤ ns.length) = true := by simp; omega
        obtain ⟨p', rfl⟩ : ∃ p' : Nat, p = p' := ⟨p.toNat, by omega⟩
        have HE : Hid (r = m + 1 + upF ns (ns.length + 1 - (m + 1)) p') := by
          show _ = _
          have e : ns.length + 1 - m = (ns.length - m) + 1 := by omega
          rw [HK.out, e, upF, if_pos (by rw [← HPP.out]; omega), ← HPP.out, Int.toNat_natCast]
          have e2 : ns.length + 1 - (m + 1) = ns.length - m := by omega
          rw [e2]; omega
        go_wp2_with fail
        go_round
        case rel => exact ⟨m + 1, p', by omega, by omega, rfl, by go_num, HE.out⟩
        case measure => simp [intOf]; omega
      · have hd1 : decide (m ≤ ns.length) = false := by simp; omega
        have HE : Hid (r = m) := by
          show _ = _
          have e : ns.length + 1 - m = 0 := by omega
          rw [HK.out, e]; rfl
        clear h1
        go_wp2_with fail
        go_ret
        exact ⟨by rw [HE.out]; rfl, HW.out⟩
end Go.Proofs.YtcghahfboccceaaGreatDoor
