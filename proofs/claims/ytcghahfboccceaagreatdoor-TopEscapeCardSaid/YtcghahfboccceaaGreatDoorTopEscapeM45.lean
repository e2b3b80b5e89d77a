/- Several texts in one: TeN, TgK. -/
import Derived.Test.YtcghahfboccceaaGreatDoorTopEscapeM20
import Derived.Test.YtcghahfboccceaaGreatDoorTopEscapeM43
import Derived.Test.YtcghahfboccceaaGreatDoorTopEscapeM44
import Derived.Test.YtcghahfboccceaaGreatDoorTopEscapeM26
/- Contract of entity.Escape. -/
namespace Go.Proofs.YtcghahfboccceaaGreatDoor
open Go.RowKit Go.Shelf
set_option linter.unusedVariables false
set_option linter.unusedSimpArgs false

theorem rep1_len (c : UInt8) (new : List UInt8) (hn : 1 ≤ new.length) : ∀ l, (rep1 c new l).length ≤ new.length * l.length
  | [] => by simp [rep1]
  | b :: l => by
    have ih := rep1_len c new hn l
    rw [rep1]
    split
    · rw [List.length_append, List.length_cons, Nat.mul_add]; omega
    · rw [List.length_cons, List.length_cons, Nat.mul_add]; omega
theorem rep2_len (c d : UInt8) (new : List UInt8) (hn : 1 ≤ new.length) : ∀ n l, l.length ≤ n → (rep2 c d new l).length ≤ new.length * l.length
  | 0, [], _ => by simp [rep2]
  | n + 1, [], _ => by simp [rep2]
  | 0, _ :: _, h => by simp at h
  | n + 1, [b], _ => by
    have : rep2 c d new [b] = [b] := rep2_no (by simp) |>.trans (by simp [rep2])
    rw [this]; simp; exact hn
  | n + 1, b :: b2 :: l, h => by
    by_cases e : b = c ∧ b2 = d
    · obtain ⟨rfl, rfl⟩ := e
      have ih := rep2_len b b2 new hn n l (by simp at h; omega)
      have : rep2 b b2 new (b :: b2 :: l) = new ++ rep2 b b2 new l := by rw [rep2, if_pos ⟨rfl, rfl⟩]
      rw [this, List.length_append, List.length_cons, List.length_cons, Nat.mul_add, Nat.mul_add]; omega
    · have ih := rep2_len c d new hn n (b2 :: l) (by simp at h ⊢; omega)
      have : rep2 c d new (b :: b2 :: l) = b :: rep2 c d new (b2 :: l) := by
        by_cases e1 : b = c
        · subst e1
          exact rep2_no (by simp; intro e2; exact e ⟨rfl, e2⟩)
        · exact rep2_ne e1 _
      rw [this, List.length_cons, List.length_cons, Nat.mul_add]; omega
/-- What Escape makes of a text, or of a value. -/
def escG (attr : Bool) (l : List UInt8) : List UInt8 :=
  if attr then Lib.replaceAll (Lib.replaceAll (Lib.replaceAll l [38] nAmp) [194, 160] nNb) [34] [38, 113, 117, 111, 116, 59] else escape l
set_option maxRecDepth 100000 in
set_option maxHeartbeats 4000000 in
theorem escape_calls (s : ByteArray) (attr : Bool) (m : Int) (hs : s.size ≤ 1000000) (w : World) (hm : w.cell? ⟨0, 0, none⟩ = some (.int .i64 m)) :
    Calls Tryz.prog 15 #[.string s, .bool attr] w fun e w' => e = .returned (.string ⟨(escG attr s.data.toList).toArray⟩) ∧ Below w.heap.size w w' := by
  obtain ⟨l0, h0⟩ : ∃ l, l = s.data.toList := ⟨_, rfl⟩
  obtain ⟨l1, h1⟩ : ∃ l, l = Lib.replaceAll l0 [38] nAmp := ⟨_, rfl⟩
  obtain ⟨l2, h2⟩ : ∃ l, l = Lib.replaceAll l1 [194, 160] nNb := ⟨_, rfl⟩
  obtain ⟨l3, h3⟩ : ∃ l, l = Lib.replaceAll l2 [60] nLt := ⟨_, rfl⟩
  have z0 : l0.length ≤ 1000000 := by rw [h0]; simpa using hs
  have z1 : l1.length ≤ 5000000 := by
    have := rep1_len 38 nAmp (by decide) l0
    rw [h1, (rep1_replaces 38 nAmp).all (by decide) (by decide)]
    have e : nAmp.length = 5 := rfl
    rw [e] at this; omega
  have z2 : l2.length ≤ 30000000 := by
    have := rep2_len 194 160 nNb (by decide) l1.length l1 (Nat.le_refl _)
    rw [h2, (rep2_replaces 194 160 nNb).all (by decide) (by decide)]
    have e : nNb.length = 6 := rfl
    rw [e] at this; omega
  have z3 : l3.length ≤ 120000000 := by
    have := rep1_len 60 nLt (by decide) l2
    rw [h3, (rep1_replaces 60 nLt).all (by decide) (by decide)]
    have e : nLt.length = 4 := rfl
    rw [e] at this; omega
  have hE : escG attr l0 = if attr then Lib.replaceAll l2 [34] [38, 113, 117, 111, 116, 59] else Lib.replaceAll l3 [62] nGt := by rw [escG, escape, h3, h2, h1]
  have hcl : ∀ (w' : World), Below w.heap.size w w' → w'.cell? ⟨0, 0, none⟩ = some (.int .i64 m) := fun w' hb => (hb.cell (p := ⟨0, 0, none⟩) (block_lt_of_cell hm)).trans hm
  have key : ∀ (l old new : List UInt8) (w' : World), Below w.heap.size w w' → l.length ≤ 120000000 → 1 ≤ old.length → old.length ≤ 2 → new.length ≤ 6 → Calls Tryz.prog 31 #[.string ⟨l.toArray⟩, .string ⟨old.toArray⟩, .string ⟨new.toArray⟩] w' fun e w2 =>
      e = .returned (.string ⟨(Lib.replaceAll l old new).toArray⟩) ∧ Below w.heap.size w w2 := fun l old new w' hb hl ho1 ho2 hn => by
    have hc : Lib.countB ⟨l.toArray⟩ ⟨old.toArray⟩ * (⟨new.toArray⟩ : ByteArray).size ≤ 240000000 * 6 := Nat.mul_le_mul (by have := Lib.countB_le ⟨old.toArray⟩ ho1 l.length ⟨l.toArray⟩ (Nat.le_refl _); have e : (⟨l.toArray⟩ : ByteArray).size = l.length := rfl; omega) hn
    refine (Tryz.strings_ReplaceAll ⟨l.toArray⟩ ⟨old.toArray⟩ ⟨new.toArray⟩ m w' (by show l.length < _; omega) (hcl w' hb) ho1 (by show l.length + _ ≤ _; omega)).mono ?_
    rintro e w2 ⟨rfl, h⟩
    exact ⟨rfl, below_then hb h⟩
  have K0 := Lib.hid (key l0 [38] nAmp w (Below.refl _ _) (by omega) (by decide) (by decide) (by decide))
  rw [← h1] at K0
  have K1 := Lib.hid (fun w' (hb : Below w.heap.size w w') => key l1 [194, 160] nNb w' hb (by omega) (by decide) (by decide) (by decide))
  rw [← h2] at K1
  have K2 := Lib.hid (fun w' (hb : Below w.heap.size w w') => key l2 [60] nLt w' hb (by omega) (by decide) (by decide) (by decide))
  rw [← h3] at K2
  have K3 := Lib.hid (fun w' (hb : Below w.heap.size w w') => key l3 [62] nGt w' hb (by omega) (by decide) (by decide) (by decide))
  have K4 := Lib.hid (fun w' (hb : Below w.heap.size w w') => key l2 [34] [38, 113, 117, 111, 116, 59] w' hb (by omega) (by decide) (by decide) (by decide))
  have hs0 : s = ⟨l0.toArray⟩ := by rw [h0]
  rw [← h0, hE, hs0]
  clear hs0 h0 h1 h2 h3 hE key hcl z0 z1 z2 z3 hs hm
  cases attr
  · go_enter Tryz.func15, Tryz.ntmps15
    go_wp2_with (first
      | (go_at_call 31; refine K0.out.mono ?_; clear K0; rintro e w1 ⟨rfl, hb1⟩)
      | (go_at_call 31; refine (K1.out _ hb1).mono ?_; clear K1; rintro e w2 ⟨rfl, hb2⟩)
      | (go_at_call 31; refine (K2.out _ hb2).mono ?_; clear K2; rintro e w3 ⟨rfl, hb3⟩)
      | (go_at_call 31; refine (K3.out _ hb3).mono ?_; clear K3; rintro e w4 ⟨rfl, hb4⟩))
    go_ret
    exact ⟨rfl, hb4⟩
  · go_enter Tryz.func15, Tryz.ntmps15
    go_wp2_with (first
      | (go_at_call 31; refine K0.out.mono ?_; clear K0; rintro e w1 ⟨rfl, hb1⟩)
      | (go_at_call 31; refine (K1.out _ hb1).mono ?_; clear K1; rintro e w2 ⟨rfl, hb2⟩)
      | (go_at_call 31; refine (K4.out _ hb2).mono ?_; clear K4; rintro e w3 ⟨rfl, hb3⟩))
    go_ret
    exact ⟨rfl, hb3⟩
end Go.Proofs.YtcghahfboccceaaGreatDoor
/- serial's writer: what is written; token.Raw of any name. -/
namespace Go.Proofs.YtcghahfboccceaaGreatDoor
open Go.RowKit Go.Shelf
set_option linter.unusedVariables false
set_option linter.unusedSimpArgs false

def nScript : List UInt8 := [115, 99, 114, 105, 112, 116]
def nStyle : List UInt8 := [115, 116, 121, 108, 101]
def nTextarea : List UInt8 := [116, 101, 120, 116, 97, 114, 101, 97]
def nTitle : List UInt8 := [116, 105, 116, 108, 101]
def rawI (nm : ByteArray) : Int := if nm.toList == nScript || nm.toList == nStyle then 1 else if nm.toList == nTextarea || nm.toList == nTitle then 2 else 0
set_option maxRecDepth 100000 in
set_option maxHeartbeats 1000000 in
theorem raw_calls (nm : ByteArray) (w : World) : Calls Tryz.prog 60 #[.string nm] w fun e w' => e = .returned (.int .i64 (rawI nm)) ∧ w' = w := by
  unfold rawI nScript nStyle nTextarea nTitle
  cases h1 : (nm.toList == ([115, 99, 114, 105, 112, 116] : List UInt8))
  · cases h2 : (nm.toList == ([115, 116, 121, 108, 101] : List UInt8))
    · cases h3 : (nm.toList == ([116, 101, 120, 116, 97, 114, 101, 97] : List UInt8))
      · cases h4 : (nm.toList == ([116, 105, 116, 108, 101] : List UInt8))
        · go_enter Tryz.func60, Tryz.ntmps60
          go_wp2
          go_ret
          exact ⟨rfl, rfl⟩
        · go_enter Tryz.func60, Tryz.ntmps60
          go_wp2
          go_ret
          exact ⟨rfl, rfl⟩
      · go_enter Tryz.func60, Tryz.ntmps60
        go_wp2
        go_ret
        exact ⟨rfl, rfl⟩
    · go_enter Tryz.func60, Tryz.ntmps60
      go_wp2
      go_ret
      exact ⟨rfl, rfl⟩
  · go_enter Tryz.func60, Tryz.ntmps60
    go_wp2
    go_ret
    exact ⟨rfl, rfl⟩
/-- A writer that holds some bytes. -/
def Wr (B b : Nat) (dn dq : Value) (out : List UInt8) (w : World) : Prop := ∃ p v, (p = .pointer none ∨ p = .pointer (some ⟨b, 0, none⟩)) ∧ WrAt B b p v dn dq (Lib.byteCells out) w
/-- What writing leaves. -/
structure Wd (B b : Nat) (w w' : World) : Prop where
  below : Below B w w'
  kept : Lib.OthersKept 5 (some b) w w'
theorem Wd.refl (B b : Nat) (w : World) : Wd B b w w := ⟨Below.refl _ _, Lib.OthersKept.refl _ _ _⟩
theorem Wd.trans {B b : Nat} {u v w : World} (h : Wd B b u v) (k : Wd B b v w) : Wd B b u w := ⟨h.below.trans k.below, h.kept.trans k.kept⟩
theorem Wd.of_below {B b : Nat} {w w' : World} (h : Below w.heap.size w w') (hB : B ≤ w.heap.size) : Wd B b w w' :=
  ⟨h.mono hB, fun k o hk _ _ => (h.block k (Array.getElem?_eq_some_iff.1 hk).1).trans hk⟩
theorem Wd.blk {B b : Nat} {w w' : World} (h : Wd B b w w') {g : Nat} {t : TypeId} {cs : Array Value} (hg : Blk w g t cs) (hne : g ≠ b) (ht : t ≠ 5) : Blk w' g t cs :=
  h.kept g _ hg (fun e => hne (Option.some.inj e)) (fun c fz e => by injection e with _ e2 _; exact ht e2)
theorem Wr.lt {B b : Nat} {dn dq : Value} {out : List UInt8} {w : World} (h : Wr B b dn dq out w) : B ≤ b ∧ b < w.heap.size := by
  obtain ⟨p, v, _, h⟩ := h
  exact ⟨h.lo, h.blk.lt⟩
theorem Wr.bw {B b : Nat} {dn dq : Value} {out : List UInt8} {w : World} (h : Wr B b dn dq out w) : B ≤ w.heap.size := by have := h.lt; omega
theorem Wr.ne {B b : Nat} {dn dq : Value} {out : List UInt8} {w : World} (h : Wr B b dn dq out w) {g : Nat} {t : TypeId} {cs : Array Value} (hg : Blk w g t cs) (ht : t ≠ 67) : g ≠ b := by
  obtain ⟨p, v, _, h⟩ := h
  rintro rfl
  have h2 := h.blk
  unfold Blk at h2 hg
  rw [h2] at hg
  injection hg with hg
  injection hg with _ e2 _
  exact ht e2.symm
theorem Wr.below {B b : Nat} {dn dq : Value} {out : List UInt8} {w w' : World} (h : Wr B b dn dq out w) (hb : Below w.heap.size w w') : Wr B b dn dq out w' := by
  obtain ⟨p, v, hp, h⟩ := h
  exact ⟨p, v, hp, h.lo, h.blk.below hb h.blk.lt, own_below h.own hb⟩
theorem Wr.cells {B b : Nat} {dn dq : Value} {out : List UInt8} {w : World} (h : Wr B b dn dq out w) : w.cell? ⟨b, 2, none⟩ = some dn ∧ w.cell? ⟨b, 3, none⟩ = some dq := by
  obtain ⟨p, v, hp, h⟩ := h
  exact ⟨h.blk.cell 2, h.blk.cell 3⟩
theorem wr_write (B b : Nat) (dn dq : Value) (out : List UInt8) (s : ByteArray) (w : World) (h : Wr B b dn dq out w) (hlen : out.length + s.size ≤ 140737488355328) :
    Calls Tryz.prog 47 #[.pointer (some ⟨b, 0, none⟩), .string s] w fun e w' => (∃ v0, e = .returned v0) ∧ Wr B b dn dq (out ++ s.data.toList) w' ∧ Wd B b w w' := by
  have hbw := h.bw
  obtain ⟨p, v, hp, h⟩ := h
  refine (writeStringW_calls B b p v dn dq _ s w hp h (by rw [Lib.byteCells_length]; exact hlen) hbw).mono ?_
  rintro e w' ⟨he, ⟨v', h1⟩, h2, h3⟩
  rw [Lib.strCells_eq, ← Lib.byteCells_append] at h1
  exact ⟨he, ⟨_, v', .inr rfl, h1⟩, h2, h3⟩
end Go.Proofs.YtcghahfboccceaaGreatDoor
