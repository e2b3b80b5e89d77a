/- Several texts in one: TeW. -/
import Derived.Test.YtcghahfboccceaaGreatDoorTopEscapeM24
import Derived.Test.YtcghahfboccceaaGreatDoorTopEscapeM14
/- Contract of token's read and Read: a text whose tags are known, stage by stage. -/
namespace Go.Proofs.YtcghahfboccceaaGreatDoor
open Go.RowKit Go.Shelf
set_option linter.unusedVariables false
set_option linter.unusedSimpArgs false

def TokOk (B : Nat) (w : World) (d : TokD) (t : TokV) : Prop := t.kind = d.kind ∧ t.name = d.name ∧ t.text = d.text ∧ t.self = d.self ∧ t.from' = d.from' ∧ t.to' = d.to' ∧ AttrsAt B t.av d.attrs w
def ToksOk (B : Nat) (w : World) : List TokD → List TokV → Prop
  | [], [] => True
  | d :: ds, t :: ts => TokOk B w d t ∧ ToksOk B w ds ts
  | _, _ => False
theorem ToksOk.snoc {B : Nat} {w : World} {d : TokD} {t : TokV} (h : TokOk B w d t) : ∀ {ds : List TokD} {ts : List TokV}, ToksOk B w ds ts → ToksOk B w (ds ++ [d]) (ts ++ [t])
  | [], [], _ => ⟨h, trivial⟩
  | _ :: _, _ :: _, ⟨h1, h2⟩ => ⟨h1, ToksOk.snoc h h2⟩
  | [], _ :: _, h0 => h0.elim
  | _ :: _, [], h0 => h0.elim
theorem ToksOk.keep {B : Nat} {w w' : World} (hk : ∀ (av : Value) l, AttrsAt B av l w → AttrsAt B av l w') : ∀ {ds : List TokD} {ts : List TokV}, ToksOk B w ds ts → ToksOk B w' ds ts
  | [], [], _ => trivial
  | _ :: _, _ :: _, ⟨⟨h1, h2, h3, h4, h5, h6, h7⟩, h8⟩ => ⟨⟨h1, h2, h3, h4, h5, h6, hk _ _ h7⟩, ToksOk.keep hk h8⟩
  | [], _ :: _, h0 => h0.elim
  | _ :: _, [], h0 => h0.elim
theorem ToksOk.len {B : Nat} {w : World} : ∀ {ds : List TokD} {ts : List TokV}, ToksOk B w ds ts → ts.length = ds.length
  | [], [], _ => rfl
  | _ :: _, _ :: _, ⟨_, h⟩ => by rw [List.length_cons, List.length_cons, h.len]
  | [], _ :: _, h0 => h0.elim
  | _ :: _, [], h0 => h0.elim
/-- Attributes stay under what writes the reader and its row. -/
theorem AttrsAt.fr {B B' b : Nat} {av : Value} {l : List (ByteArray × ByteArray)} {w w' : World} {s : ByteArray} {a en : Int} {v : Value} {ts : List TokV} (h : AttrsAt B av l w) (hr : RdS B' b s a en v ts w) (hf : FrR b v w w') : AttrsAt B av l w' :=
  own_heap h fun g hg => hf.block g (h.lt g hg).2 (fun e => blk_ne hr.blk h (by decide) (by rw [hg, e])) (fun e => by
    rcases own_far hr.own h (by decide) with h1 | h1
    · rw [h1] at e; cases e
    · exact h1 (e.trans hg.symm))
/-- The reader with what its tokens are. -/
def RdT (B b : Nat) (s : ByteArray) (a en : Int) (ds : List TokD) (w : World) : Prop := ∃ v ts, RdS B b s a en v ts w ∧ ToksOk B w ds ts
/-- A text's part without tags. -/
structure TxtOk (s : ByteArray) (a e : Nat) : Prop where
  le : a ≤ e
  les : e ≤ s.size
  no : ∀ k (h : k < s.size), a ≤ k → k < e → s[k].toNat ≠ 60
  fin : e = s.size ∨ Begins s e
  nn : NoNum (s.extract a e).data.toList
def textD (s : ByteArray) (a e : Nat) : List TokD := if a < e then [⟨3, ⟨#[]⟩, [], ⟨(readF false (s.extract a e).size (s.extract a e).data.toList).toArray⟩, false, a, e⟩] else []
theorem text_callsT (B b : Nat) (s : ByteArray) (a e : Nat) (en : Int) (ds : List TokD) (hs : s.size ≤ 1099511627776) (ht : TxtOk s a e) (w : World) (h : RdT B b s a en ds w) (hB : B ≤ w.heap.size) (hz : ds.length < 1000000) :
    Calls Tryz.prog 56 #[.pointer (some ⟨b, 0, none⟩)] w fun x w' => x = .returned (.tuple #[]) ∧ RdT B b s e en (ds ++ textD s a e) w' ∧ Below B w w' := by
  obtain ⟨v, ts, h1, h2⟩ := h
  refine (text_calls B b s a e en v ts hs ht.le ht.les ht.no ht.fin ht.nn w h1 hB (by rw [h2.len]; exact hz)).mono ?_
  rintro x w' ⟨rfl, v', h3, h4, h5⟩
  refine ⟨rfl, ⟨v', _, h3, ?_⟩, h4.below h1.lo hB (fun g hg => (h1.own.lt g hg).1)⟩
  have h6 := h2.keep (fun av l h => h.fr h1 h4)
  unfold textD
  by_cases c : a < e
  · rw [if_pos c, if_pos c]
    exact h6.snoc ⟨rfl, rfl, rfl, rfl, rfl, rfl, AttrsAt.none _ _⟩
  · rw [if_neg c, if_neg c, List.append_nil]
    exact h6
/-- A tag that is read, and the text behind it. -/
structure Stage (s : ByteArray) (a : Nat) (d : TokD) (a' e' : Nat) (kd : Int) : Prop where
  alt : a < a'
  ats : a < s.size
  txt : TxtOk s a' e'
  mkup : ∀ (b : Nat) (c1 c2 c3 : Value) (w : World), Blk w b 82 #[.string s, c1, c2, c3] → Calls Tryz.prog 57 #[.pointer (some ⟨b, 0, none⟩), .int .i64 (a : Int)] w fun e w' => e = .returned (.int .u8 kd) ∧ w' = w
  nx : ∀ (B b : Nat) (m : Int) (c2 c3 : Value) (w : World), B ≤ b → B ≤ w.heap.size → w.cell? ⟨0, 0, none⟩ = some (.int .i64 m) → 0 < b → Blk w b 82 #[.string s, .int .i64 (a : Int), c2, c3] → Calls Tryz.prog 58 #[.pointer (some ⟨b, 0, none⟩), .int .u8 kd] w (TagSays B b s c2 c3 d (a' : Int) w)
  dk : d.kind ≠ 0
  raw : d.kind = 1 → ∀ w, Calls Tryz.prog 60 #[.string d.name] w fun e w' => e = .returned (.int .i64 0) ∧ w' = w
  df : d.from' = a
  dt : d.to' = a'
/-- A tag's token is put: its own block stays. -/
theorem put_step {b : Nat} {s : ByteArray} {a a' : Nat} {en : Int} {v : Value} {ts : List TokV} {ds ds' : List TokD} {d : TokD} {A9 : Option Addr} {c9 : Nat} {wr w2 : World} {l : List TokD} {dk : Int} (h2 : RdS b b s (a' : Int) en v ts w2) (ho : OnlyN b wr w2) (hr : RdS b b s (a : Int) en v ts wr) (hbw : b < wr.heap.size)
    (hat : AttrsAt b (.slice A9 d.attrs.length c9) d.attrs w2) (htk : ToksOk b wr ds ts) (hD : l = ds ++ [d] ++ ds') (hz : ts.length < 1000000) (hk : dk = d.kind) (hf : d.from' = a) (ht : d.to' = a') :
    ∀ W, W = w2.alloc (.cells #[.int .i64 dk, .string d.name, .slice A9 d.attrs.length c9, .string d.text, .bool d.self, .int .i64 0, .int .i64 0] 49) →
    Calls Tryz.prog 59 #[.pointer (some ⟨b, 0, none⟩), .agg #[.int .i64 dk, .string d.name, .slice A9 d.attrs.length c9, .string d.text, .bool d.self, .int .i64 0, .int .i64 0], .int .i64 (a : Int)] W fun e w3 =>
      e = .returned (.tuple #[]) ∧ Blk w3 w2.heap.size 49 #[.int .i64 dk, .string d.name, .slice A9 d.attrs.length c9, .string d.text, .bool d.self, .int .i64 0, .int .i64 0] ∧ RdT b b s (a' : Int) (a' : Int) (ds ++ [d]) (w3.setCell ⟨b, 2, none⟩ (.int .i64 (a' : Int))) ∧
      (∃ v', Blk w3 b 82 #[.string s, .int .i64 (a' : Int), .int .i64 en, v']) ∧ Below b wr (w3.setCell ⟨b, 2, none⟩ (.int .i64 (a' : Int))) ∧ w2.heap.size ≠ b := by
  rintro W rfl
  have hsz := ho.size
  have hR : RdS b b s (a' : Int) en v ts (w2.alloc (.cells #[.int .i64 dk, .string d.name, .slice A9 d.attrs.length c9, .string d.text, .bool d.self, .int .i64 0, .int .i64 0] 49)) := h2.only (h2.blk.alloc _) ((OnlyN.refl b w2).alloc _)
  have hvg : v.ownBlock ≠ some w2.heap.size := fun e => by have := (h2.own.lt _ e).2; omega
  refine (put_tok b b s a' en v ts dk d.name d.text (.slice A9 d.attrs.length c9) d.self a 0 0 rfl _ hR (by simp; omega) hz).mono ?_
  rintro e w3 ⟨rfl, v', h3, h4, h5⟩
  have hF : FrR b v wr w3 := (((ho.alloc _).fr v)).trans h4
  refine ⟨rfl, h4.blk (by omega) hvg (Blk.new w2 _ _), ⟨v', _, ⟨Nat.le_refl _, h3.blk.stored 2 _, own_setFar h3.own h3.ne⟩, ?_⟩, ⟨v', h3.blk⟩, ?_, by omega⟩
  · have k1 : ToksOk b w3 ds ts := htk.keep fun av l h => h.fr hr hF
    have k2 : AttrsAt b (.slice A9 d.attrs.length c9) d.attrs w3 := AttrsAt.fr (own_below hat ((Below.refl _ w2).alloc (Nat.le_refl _) _)) hR h4
    have k3 : ∀ (av : Value) l, AttrsAt b av l w3 → AttrsAt b av l (w3.setCell ⟨b, 2, none⟩ (.int .i64 (a' : Int))) := fun av l h => own_setFar h (blk_ne h3.blk h (by decide))
    exact (k1.snoc ⟨hk, rfl, rfl, rfl, hf.symm, ht.symm, k2⟩).keep k3
  · exact (hF.below (Nat.le_refl _) (Nat.le_of_lt hbw) (fun g hg => (hr.own.lt g hg).1)).setCell (p := ⟨b, 2, none⟩) (Nat.le_refl _) _
set_option maxRecDepth 100000 in
set_option maxHeartbeats 8000000 in
theorem tread_calls (s : ByteArray) (n : Nat) (A A' : Nat → Nat) (dd : Nat → TokD) (kd : Nat → Int) (D : Nat → List TokD) (hs : s.size ≤ 1099511627776) (h0 : TxtOk s 0 (A 0)) (hD0 : D 0 = textD s 0 (A 0))
    (hst : ∀ i, i < n → Stage s (A i) (dd i) (A' i) (A (i + 1)) (kd i)) (hD : ∀ i, i < n → D (i + 1) = D i ++ [dd i] ++ textD s (A' i) (A (i + 1))) (hn : A n = s.size) (hz : ∀ i, i ≤ n → (D i).length < 999999) (m : Int) (w : World) (hm : w.cell? ⟨0, 0, none⟩ = some (.int .i64 m)) :
    Calls Tryz.prog 34 #[.string s] w fun x w' => ∃ b, x = .returned (.pointer (some ⟨b, 0, none⟩)) ∧ (∃ en, RdT w.heap.size b s (s.size : Int) en (D n) w') ∧ Below w.heap.size w w' := by
  obtain ⟨b, hb⟩ : ∃ b, b = w.heap.size := ⟨_, rfl⟩
  obtain ⟨wa, hwa⟩ : ∃ wa, wa = w.alloc (.cells #[.string s, .int .i64 0, .int .i64 0, .slice none 0 0] 82) := ⟨_, rfl⟩
  have P1 : Hid (RdT b b s (0 : Nat) 0 [] wa) := ⟨_, [], ⟨Nat.le_refl _, by rw [hwa, hb]; exact Blk.new w _ _, World.ownsRow_nil _ _ _ _⟩, trivial⟩
  have P2 : Hid (Below b w wa) := by show Below _ _ _; rw [hwa, hb]; exact (Below.refl _ w).alloc (Nat.le_refl _) _
  have PB : Hid (b < wa.heap.size) := by show _ < _; rw [hwa, hb]; simp
  have HM := Lib.hid hm
  have HB0 : Hid (0 < b) := by show _ < _; rw [hb]; exact block_lt_of_cell hm
  have HWA := Lib.hid hwa
  have HB9 := Lib.hid hb
  have HTX := Lib.hid (text_callsT b b s 0 (A 0) 0 [] hs h0 wa P1.out (Nat.le_of_lt PB.out) (by simp))
  rw [List.nil_append, ← hD0] at HTX
  have HST := Lib.hid hst
  have HDD := Lib.hid hD
  have HN := Lib.hid hn
  have HZ := Lib.hid hz
  rw [← hb]
  clear hb hwa h0 hD0 hst hD hn hz hm
  go_enter Tryz.func34, Tryz.ntmps34
  go_wp2_with (go_at_call 56; rw [← HWA.out, ← HB9.out]; refine HTX.out.mono ?_; rintro e w1 ⟨rfl, ht1, hb1⟩; (have T1 := Lib.hid ht1); (have T2 := Lib.hid (P2.out.trans hb1)); (have T3 : b < w1.heap.size := Nat.lt_of_lt_of_le PB.out hb1.size); clear ht1 hb1 HTX)
  go_loopw [] (fun wr => ∃ (i : Nat) (en : Int), i ≤ n ∧ Hid (RdT b b s (A i : Nat) en (D i) wr) ∧ Hid (Below b w wr) ∧ b < wr.heap.size) (fun wr => s.size - (match wr.cell? ⟨b, 1, none⟩ with | some v => (intOf v).toNat | none => 0))
  case atStart => exact ⟨0, 0, Nat.zero_le _, T1.out, T2.out, T3⟩
  case round =>
    obtain ⟨i, en, hi, HR, HW, hbw⟩ := hrel
    obtain ⟨v, ts, hr, htk⟩ := HR.out
    have d1 : wr.cell? ⟨b, 1, none⟩ = some (.int .i64 (A i : Int)) := hr.blk.cell 1
    have HRS := Lib.hid hr
    have HTK := Lib.hid htk
    clear hr htk
    by_cases hlt : i < n
    · have hS := HST.out i hlt
      have HS := Lib.hid hS
      have has : (A i : Int) < (s.size : Int) := by have := hS.ats; omega
      have HMK := Lib.hid (hS.mkup b (.int .i64 (A i : Int)) (.int .i64 en) v wr HRS.out.blk)
      have HNX := Lib.hid (hS.nx b b m (.int .i64 en) v wr (Nat.le_refl _) (Nat.le_of_lt hbw) ((HW.out.cell (p := ⟨0, 0, none⟩) HB0.out).trans HM.out) HB0.out HRS.out.blk)
      obtain ⟨dk, hdk⟩ : ∃ dk, dk = (dd i).kind := ⟨_, rfl⟩
      have e1 : (dk != 0) = true := by rw [hdk]; simpa using hS.dk
      have HDK := Lib.hid hdk
      clear hS hdk
      have HTXT := Lib.hid HS.out.txt
      have HALT := Lib.hid HS.out.alt
      have HDF := Lib.hid HS.out.df
      have HDT := Lib.hid HS.out.dt
      have HDD1 := Lib.hid (HDD.out i hlt)
      have HZ0 : (D i).length < 999999 := HZ.out i hi
      have HZ1 : Hid (ts.length < 1000000) := by show _ < _; rw [HTK.out.len]; omega
      have HZ2 : Hid ((D i ++ [dd i]).length < 1000000) := by show _ < _; rw [List.length_append]; simp; omega
      by_cases hk1 : dk = 1
      · have HRAW := Lib.hid (HS.out.raw (by rw [← HDK.out]; exact hk1))
        subst hk1
        go_wp2_with (first
          | (go_at_call 57; refine HMK.out.mono ?_; rintro e w1 ⟨rfl, rfl⟩)
          | (go_at_call 58; refine HNX.out.mono ?_; rintro e w2 ⟨av, rfl, hat, hb2, ho2⟩; (obtain ⟨A9, c9, rfl⟩ := hat.open); (have Q1 := Lib.hid hat); (have Q2 := Lib.hid (HRS.out.only hb2 ho2)); (have Q3 := Lib.hid ho2); clear hat hb2 ho2; rw [← HDK.out])
          | (go_at_call 59; go_loud ((have HPT := Lib.hid (put_step (a := A i) (a' := A' i) (d := dd i) (dk := 1) Q2.out Q3.out HRS.out hbw Q1.out HTK.out HDD1.out (HZ1.out) (HDK.out) HDF.out HDT.out)); (obtain ⟨g6, hg6⟩ : ∃ g6, g6 = w2.heap.size := ⟨_, rfl⟩); rw [← hg6] at HPT ⊢; refine (HPT.out _ rfl).mono ?_; rintro e w3 ⟨rfl, hp1, hp2, ⟨v9, hp3⟩, hp4, hp5⟩; (have R1 := Lib.hid hp1); (have R2 := Lib.hid hp2); (have R3 := Lib.hid hp4); (have k0 : w3.cell? ⟨g6, 0, none⟩ = some (.int .i64 1) := hp1.cell 0); (have k1 : w3.cell? ⟨g6, 1, none⟩ = some (.string (dd i).name) := hp1.cell 1); (have u1 : w3.cell? ⟨b, 1, none⟩ = some (.int .i64 (A' i : Int)) := hp3.cell 1); (have u2 : w3.cell? ⟨b, 2, none⟩ = some (.int .i64 en) := hp3.cell 2); (have u3 : w3.frozen? ⟨b, 2, none⟩ = false := hp3.free 2); (have k2 := (hp1.far hp5 (i := 2) (.int .i64 (A' i : Int))).cell 0); (have k3 := (hp1.far hp5 (i := 2) (.int .i64 (A' i : Int))).cell 1); simp only [List.getElem?_toArray, List.getElem?_cons_succ, List.getElem?_cons_zero] at k2 k3; clear hp1 hp2 hp3 hp4 hp5 hg6))
          | (go_at_call 60; refine (HRAW.out _).mono ?_; rintro e w4 ⟨rfl, rfl⟩)
          | (go_at_call 56; refine (text_callsT b b s (A' i) (A (i + 1)) _ _ hs HTXT.out _ (R2.out) (by have := R3.out.size; simp at this ⊢; omega) HZ2.out).mono ?_; rintro e w5 ⟨rfl, hx1, hx2⟩))
        go_roundw
        case rel =>
          refine ⟨i + 1, (A' i : Int), by omega, ?_, ?_, ?_⟩
          · show RdT _ _ _ _ _ _ _; rw [HDD.out i hlt]; exact hx1
          · exact HW.out.trans (R3.out.trans hx2)
          · have h6 := R3.out.size; have h7 := hx2.size; simp at h6 h7; omega
        case measure =>
          obtain ⟨v9, ts9, h9, _⟩ := hx1
          have e9 : w5.cell? ⟨b, 1, none⟩ = some (.int .i64 (A (i + 1) : Int)) := h9.blk.cell 1
          rw [e9, d1]
          have h1 := HALT.out
          have h2 := HTXT.out.le
          have h3 := HTXT.out.les
          simp [intOf]; omega
      · have e2 : (dk == 1) = false := by simpa using hk1
        go_wp2_with (first
          | (go_at_call 57; refine HMK.out.mono ?_; rintro e w1 ⟨rfl, rfl⟩)
          | (go_at_call 58; refine HNX.out.mono ?_; rintro e w2 ⟨av, rfl, hat, hb2, ho2⟩; (obtain ⟨A9, c9, rfl⟩ := hat.open); (have Q1 := Lib.hid hat); (have Q2 := Lib.hid (HRS.out.only hb2 ho2)); (have Q3 := Lib.hid ho2); clear hat hb2 ho2; rw [← HDK.out])
          | (go_at_call 59; go_loud ((have HPT := Lib.hid (put_step (a := A i) (a' := A' i) (d := dd i) (dk := dk) Q2.out Q3.out HRS.out hbw Q1.out HTK.out HDD1.out (HZ1.out) (HDK.out) HDF.out HDT.out)); (obtain ⟨g6, hg6⟩ : ∃ g6, g6 = w2.heap.size := ⟨_, rfl⟩); rw [← hg6] at HPT ⊢; refine (HPT.out _ rfl).mono ?_; rintro e w3 ⟨rfl, hp1, hp2, ⟨v9, hp3⟩, hp4, hp5⟩; (have R1 := Lib.hid hp1); (have R2 := Lib.hid hp2); (have R3 := Lib.hid hp4); (have k0 : w3.cell? ⟨g6, 0, none⟩ = some (.int .i64 dk) := hp1.cell 0); (have k1 : w3.cell? ⟨g6, 1, none⟩ = some (.string (dd i).name) := hp1.cell 1); (have u1 : w3.cell? ⟨b, 1, none⟩ = some (.int .i64 (A' i : Int)) := hp3.cell 1); (have u2 : w3.cell? ⟨b, 2, none⟩ = some (.int .i64 en) := hp3.cell 2); (have u3 : w3.frozen? ⟨b, 2, none⟩ = false := hp3.free 2); (have k2 := (hp1.far hp5 (i := 2) (.int .i64 (A' i : Int))).cell 0); (have k3 := (hp1.far hp5 (i := 2) (.int .i64 (A' i : Int))).cell 1); simp only [List.getElem?_toArray, List.getElem?_cons_succ, List.getElem?_cons_zero] at k2 k3; clear hp1 hp2 hp3 hp4 hp5 hg6))
          | (go_at_call 60; refine (HRAW.out _).mono ?_; rintro e w4 ⟨rfl, rfl⟩)
          | (go_at_call 56; refine (text_callsT b b s (A' i) (A (i + 1)) _ _ hs HTXT.out _ (R2.out) (by have := R3.out.size; simp at this ⊢; omega) HZ2.out).mono ?_; rintro e w5 ⟨rfl, hx1, hx2⟩))
        go_roundw
        case rel =>
          refine ⟨i + 1, (A' i : Int), by omega, ?_, ?_, ?_⟩
          · show RdT _ _ _ _ _ _ _; rw [HDD.out i hlt]; exact hx1
          · exact HW.out.trans (R3.out.trans hx2)
          · have h6 := R3.out.size; have h7 := hx2.size; simp at h6 h7; omega
        case measure =>
          obtain ⟨v9, ts9, h9, _⟩ := hx1
          have e9 : w5.cell? ⟨b, 1, none⟩ = some (.int .i64 (A (i + 1) : Int)) := h9.blk.cell 1
          rw [e9, d1]
          have h1 := HALT.out
          have h2 := HTXT.out.le
          have h3 := HTXT.out.les
          simp [intOf]; omega
    · obtain rfl : i = n := by omega
      have hAn : (A i : Int) = (s.size : Int) := by have := HN.out; omega
      rw [hAn] at d1
      have HAN := Lib.hid hAn
      clear hAn
      go_wp2
      go_ret
      refine ⟨b, rfl, ⟨en, ?_⟩, ?_⟩
      · rw [← HAN.out]; exact HR.out
      · exact HW.out
end Go.Proofs.YtcghahfboccceaaGreatDoor
