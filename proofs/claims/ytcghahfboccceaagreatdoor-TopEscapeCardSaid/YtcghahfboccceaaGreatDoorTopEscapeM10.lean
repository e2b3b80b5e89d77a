/- Several texts in one: TeH, TeI, TeO. -/
import Derived.Test.YtcghahfboccceaaGreatDoorTopEscapeM9
import Derived.Deep.QuietTactic
import Derived.BigQuiet
import Derived.Lib.ConvBytes
import Derived.Laws.IdiomStrings
/- Contracts of token: blank, the tags' closures, Name at lower letters, until. -/
namespace Go.Proofs.YtcghahfboccceaaGreatDoor
open Go.RowKit Go.Shelf
set_option linter.unusedVariables false
set_option linter.unusedSimpArgs false

def isU (u : UInt8) (k : Int) : Bool := ((u.toNat : Int) == k)
def blankF (u : UInt8) : Bool := ((u.toNat : Int) == 32) || ((u.toNat : Int) == 9) || ((u.toNat : Int) == 10) || ((u.toNat : Int) == 12) || ((u.toNat : Int) == 13)
set_option maxRecDepth 100000 in
set_option maxHeartbeats 1000000 in
theorem blank_calls (u : UInt8) (w : World) : Calls Tryz.prog 118 #[.int .u8 u.toNat] w fun e w' => e = .returned (.bool (blankF u)) ∧ w' = w := by
  unfold blankF
  cases h1 : ((u.toNat : Int) == 32)
  · cases h2 : ((u.toNat : Int) == 9)
    · cases h3 : ((u.toNat : Int) == 10)
      · cases h4 : ((u.toNat : Int) == 12)
        · cases h5 : ((u.toNat : Int) == 13)
          · go_enter Tryz.func118, Tryz.ntmps118
            go_wp2
            go_ret
            exact ⟨rfl, rfl⟩
          · go_enter Tryz.func118, Tryz.ntmps118
            go_wp2
            go_ret
            exact ⟨rfl, rfl⟩
        · go_enter Tryz.func118, Tryz.ntmps118
          go_wp2
          go_ret
          exact ⟨rfl, rfl⟩
      · go_enter Tryz.func118, Tryz.ntmps118
        go_wp2
        go_ret
        exact ⟨rfl, rfl⟩
    · go_enter Tryz.func118, Tryz.ntmps118
      go_wp2
      go_ret
      exact ⟨rfl, rfl⟩
  · go_enter Tryz.func118, Tryz.ntmps118
    go_wp2
    go_ret
    exact ⟨rfl, rfl⟩
/-- Where a name ends. -/
def nameEnd (u : UInt8) : Bool := blankF u || ((u.toNat : Int) == 47) || ((u.toNat : Int) == 62)
set_option maxRecDepth 100000 in
set_option maxHeartbeats 1000000 in
theorem tag1_calls (u : UInt8) (w : World) : Calls Tryz.prog 117 #[.int .u8 u.toNat] w fun e w' => e = .returned (.bool (nameEnd u)) ∧ w' = w := by
  have HB := Lib.hid (blank_calls u)
  unfold nameEnd
  generalize blankF u = bl at *
  cases bl
  · cases h1 : ((u.toNat : Int) == 47)
    · cases h2 : ((u.toNat : Int) == 62)
      · go_enter Tryz.func117, Tryz.ntmps117
        go_wp2_with (go_at_call 118; refine (HB.out _).mono ?_; rintro e w' ⟨rfl, rfl⟩)
        go_ret
        exact ⟨rfl, rfl⟩
      · go_enter Tryz.func117, Tryz.ntmps117
        go_wp2_with (go_at_call 118; refine (HB.out _).mono ?_; rintro e w' ⟨rfl, rfl⟩)
        go_ret
        exact ⟨rfl, rfl⟩
    · go_enter Tryz.func117, Tryz.ntmps117
      go_wp2_with (go_at_call 118; refine (HB.out _).mono ?_; rintro e w' ⟨rfl, rfl⟩)
      go_ret
      exact ⟨rfl, rfl⟩
  · go_enter Tryz.func117, Tryz.ntmps117
    go_wp2_with (go_at_call 118; refine (HB.out _).mono ?_; rintro e w' ⟨rfl, rfl⟩)
    go_ret
    exact ⟨rfl, rfl⟩
/-- What is no blank and no slash. -/
def noSkip (u : UInt8) : Bool := !blankF u && ((u.toNat : Int) != 47)
set_option maxRecDepth 100000 in
set_option maxHeartbeats 1000000 in
theorem tag2_calls (u : UInt8) (w : World) : Calls Tryz.prog 119 #[.int .u8 u.toNat] w fun e w' => e = .returned (.bool (noSkip u)) ∧ w' = w := by
  have HB := Lib.hid (blank_calls u)
  unfold noSkip
  generalize blankF u = bl at *
  cases bl
  · cases h1 : ((u.toNat : Int) != 47)
    · go_enter Tryz.func119, Tryz.ntmps119
      go_wp2_with (go_at_call 118; refine (HB.out _).mono ?_; rintro e w' ⟨rfl, rfl⟩)
      go_ret
      exact ⟨rfl, rfl⟩
    · go_enter Tryz.func119, Tryz.ntmps119
      go_wp2_with (go_at_call 118; refine (HB.out _).mono ?_; rintro e w' ⟨rfl, rfl⟩)
      go_ret
      exact ⟨rfl, rfl⟩
  · go_enter Tryz.func119, Tryz.ntmps119
    go_wp2_with (go_at_call 118; refine (HB.out _).mono ?_; rintro e w' ⟨rfl, rfl⟩)
    go_ret
    exact ⟨rfl, rfl⟩
theorem OnlyB.refl (b : Nat) (w : World) : OnlyB b w w := ⟨rfl, rfl, rfl, rfl, fun _ _ => rfl⟩
theorem OnlyB.trans {b : Nat} {u v w : World} (h : OnlyB b u v) (k : OnlyB b v w) : OnlyB b u w := ⟨k.os.trans h.os, k.tape.trans h.tape, k.output.trans h.output, k.size.trans h.size, fun g hg => (k.block g hg).trans (h.block g hg)⟩
theorem OnlyB.setCell {b : Nat} (w : World) {p : Addr} (hp : p.block = b) (v : Value) : OnlyB b w (w.setCell p v) := ⟨rfl, rfl, rfl, by simp, fun k hk => Below.heap_setCell w p v k (by rw [hp]; exact hk)⟩
theorem OnlyB.drewN (b : Nat) (w : World) (n : Nat) : OnlyB b w (w.drewN n) := ⟨rfl, rfl, rfl, rfl, fun _ _ => rfl⟩
theorem OnlyB.below {b : Nat} {w w' : World} (h : OnlyB b w w') {B : Nat} (hB : B ≤ b) : Below B w w' := ⟨h.os, h.tape, h.output, by have := h.size; omega, fun k hk => h.block k (by omega)⟩
theorem OnlyB.blk {b : Nat} {w w' : World} (h : OnlyB b w w') {g : Nat} (hg : g ≠ b) {t : TypeId} {cs : Array Value} (hb : Blk w g t cs) : Blk w' g t cs := (h.block g hg).trans hb
/-- The first place from a on at which it holds. -/
def skipTo (H : UInt8 → Bool) (l : List UInt8) (a : Nat) : Nat := a + ((l.drop a).takeWhile fun b => !H b).length
theorem skip_at {H : UInt8 → Bool} {l : List UInt8} {a : Nat} (h : a < l.length) (hH : H l[a] = true) : skipTo H l a = a := by
  rw [skipTo, List.drop_eq_getElem_cons h, List.takeWhile_cons, hH]; rfl
theorem skip_step {H : UInt8 → Bool} {l : List UInt8} {a : Nat} (h : a < l.length) (hH : H l[a] = false) : skipTo H l a = skipTo H l (a + 1) := by
  rw [skipTo, skipTo, List.drop_eq_getElem_cons h, List.takeWhile_cons, hH]; simp; omega
theorem skip_end {H : UInt8 → Bool} {l : List UInt8} {a : Nat} (h : l.length ≤ a) : skipTo H l a = a := by
  rw [skipTo, List.drop_eq_nil_of_le h]; simp
end Go.Proofs.YtcghahfboccceaaGreatDoor
/- Contract of token's until. -/
namespace Go.Proofs.YtcghahfboccceaaGreatDoor
open Go.RowKit Go.Shelf
set_option linter.unusedVariables false
set_option linter.unusedSimpArgs false

set_option maxRecDepth 100000 in
set_option maxHeartbeats 4000000 in
theorem until_calls (b : Nat) (s : ByteArray) (a : Nat) (c2 c3 : Value) (f : Nat) (ef : ∀ args w, (callFunc f args).run Tryz.prog w = .ok (.enter f args) w) (H : UInt8 → Bool) (hf : ∀ (u : UInt8) (w : World), Calls Tryz.prog f #[.int .u8 u.toNat] w fun e w' => e = .returned (.bool (H u)) ∧ w' = w)
    (hs : s.size ≤ 1099511627776) (ha : a ≤ s.size) (w : World) (hB : Blk w b 82 #[.string s, .int .i64 (a : Int), c2, c3]) :
    Calls Tryz.prog 116 #[.pointer (some ⟨b, 0, none⟩), .func (.func f) #[] #[]] w fun e w' => ∃ a' : Nat, a' = skipTo H s.data.toList a ∧ a' ≤ s.size ∧ e = .returned (.string (s.extract a a')) ∧ Blk w' b 82 #[.string s, .int .i64 (a' : Int), c2, c3] ∧ OnlyB b w w' := by
  have hlen : s.data.toList.length = s.size := by simp
  obtain ⟨L, hL⟩ : ∃ L, L = s.data.toList := ⟨_, rfl⟩
  have HG : Hid (∀ k (h : k < s.size) (h' : k < L.length), s[k] = L[k]) := fun k h h' => by subst hL; simp [ByteArray.getElem_eq_getElem_data]
  rw [← hL] at hlen ⊢
  obtain ⟨A', hA⟩ : ∃ A', A' = skipTo H L a := ⟨_, rfl⟩
  rw [← hA]
  have c0 : w.cell? ⟨b, 1, none⟩ = some (.int .i64 (a : Int)) := hB.cell 1
  have HF := Lib.hid hf
  have HL := Lib.hid hlen
  have HA := Lib.hid hA
  have HBK := Lib.hid hB
  clear hL hlen hA hf hB
  go_enter Tryz.func116, Tryz.ntmps116
  go_wp2
  go_loopw [] (fun wr => ∃ k : Nat, a ≤ k ∧ k ≤ s.size ∧ Hid (skipTo H L k = A') ∧ Blk wr b 82 #[.string s, .int .i64 (k : Int), c2, c3] ∧ OnlyB b w wr) (fun wr => s.size - (match wr.cell? ⟨b, 1, none⟩ with | some v => (intOf v).toNat | none => 0))
  case atStart => exact ⟨a, by omega, ha, HA.out.symm, HBK.out, OnlyB.refl _ _⟩
  case round =>
    obtain ⟨k, hk0, hk, HP, hb, ho⟩ := hrel
    have d0 : wr.cell? ⟨b, 0, none⟩ = some (.string s) := hb.cell 0
    have d1 : wr.cell? ⟨b, 1, none⟩ = some (.int .i64 (k : Int)) := hb.cell 1
    have f1 : wr.frozen? ⟨b, 1, none⟩ = false := hb.free 1
    have HB1 := Lib.hid hb
    have HO := Lib.hid ho
    clear hb ho
    by_cases hlt : k < s.size
    · have hkL : k < L.length := by rw [HL.out]; exact hlt
      obtain ⟨u, hu⟩ : ∃ u, u = s[k] := ⟨_, rfl⟩
      have HU : Hid (u = L[k]) := by show _ = _; rw [hu]; exact HG.out k hlt hkL
      have hu2 : s[k] = u := hu.symm
      clear hu
      cases hh : H u
      · have HR := Lib.hid (fun w' => by have := HF.out u w'; rw [hh] at this; exact this)
        have HP2 : Hid (skipTo H L (k + 1) = A') := by show _ = _; rw [← skip_step hkL (by rw [← HU.out]; exact hh)]; exact HP.out
        clear hh
        go_wp2
        go_quiet (first | (go_at_fn f; refine Calls.quiet_of_same (HR.out _)))
        go_wp2
        go_roundw
        case rel => exact ⟨k + 1, by omega, by omega, HP2, (HB1.out : Blk (wr.drewN nq) b _ _).stored 1 (.int .i64 ((k : Int) + 1)), (HO.out.trans (OnlyB.drewN b wr nq)).trans (OnlyB.setCell (p := ⟨b, 1, none⟩) _ rfl _)⟩
        case measure =>
          have e1 : ((wr.drewN nq).setCell ⟨b, 1, none⟩ (.int .i64 ((k : Int) + 1))).cell? ⟨b, 1, none⟩ = some (.int .i64 ((k : Int) + 1)) := ((HB1.out : Blk (wr.drewN nq) b _ _).stored 1 (.int .i64 ((k : Int) + 1))).cell 1
          rw [e1, d1]
          simp [intOf]; omega
      · have HR := Lib.hid (fun w' => by have := HF.out u w'; rw [hh] at this; exact this)
        have HP2 : Hid (A' = k) := by show _ = _; rw [← HP.out]; exact skip_at hkL (by rw [← HU.out]; exact hh)
        clear hh
        go_wp2
        go_quiet (first | (go_at_fn f; refine Calls.quiet_of_same (HR.out _)))
        go_wp2
        go_quiet (fail)
        go_wp2
        go_ret
        refine ⟨k, HP2.out.symm, hk, ?_, HB1.out, (HO.out.trans (OnlyB.drewN b wr _)).trans (OnlyB.drewN b _ _)⟩
        rfl
    · have HP2 : Hid (A' = k) := by show _ = _; rw [← HP.out]; exact skip_end (by rw [HL.out]; omega)
      obtain rfl : k = s.size := by omega
      go_wp2
      go_quiet (fail)
      go_wp2
      go_quiet (fail)
      go_wp2
      go_ret
      exact ⟨s.size, HP2.out.symm, Nat.le_refl _, rfl, HB1.out, (HO.out.trans (OnlyB.drewN b wr _)).trans (OnlyB.drewN b _ _)⟩
end Go.Proofs.YtcghahfboccceaaGreatDoor
/- Contract of token.Name at a name of lower letters. -/
namespace Go.Proofs.YtcghahfboccceaaGreatDoor
open Go.RowKit Go.Shelf
set_option linter.unusedVariables false
set_option linter.unusedSimpArgs false

theorem bytesWorld_below (w : World) (e : TypeId) (s : ByteArray) : Below w.heap.size w (Lib.bytesWorld w e s) :=
  ⟨rfl, rfl, rfl, by rw [Lib.bytesWorld_size]; omega, fun k hk => Lib.bytesWorld_at_old w e s k hk⟩
set_option maxRecDepth 100000 in
set_option maxHeartbeats 4000000 in
theorem tname_calls (s : ByteArray) (hs : s.size ≤ 40) (hl : ∀ k (h : k < s.size), 97 ≤ s[k].toNat ∧ s[k].toNat ≤ 122) (w : World) :
    Calls Tryz.prog 115 #[.string s] w fun e w' => e = .returned (.string s) ∧ Below w.heap.size w w' := by
  have HL := Lib.hid hl
  clear hl
  have hm : min (s.size : Int) 40 = (s.size : Int) := by omega
  go_enter Tryz.func115, Tryz.ntmps115
  go_wp2
  rw [Lib.run_convert_string_bytes w 9 63 5 s rfl rfl rfl]
  simp only [Result.andThen]
  rw [Oper.upon_value]
  obtain ⟨W1, hW⟩ : ∃ W1, W1 = Lib.bytesWorld w 5 s := ⟨_, rfl⟩
  obtain ⟨C, hC⟩ : ∃ C, C = grownCap w s.size 0 5 := ⟨_, rfl⟩
  obtain ⟨g, hg⟩ : ∃ g, g = w.heap.size := ⟨_, rfl⟩
  have hB : Below g w W1 := by rw [hW, hg]; exact bytesWorld_below w _ s
  have hc : ∀ j (h : j < s.size), W1.cell? ⟨g, j, none⟩ = some (.int .u8 s[j].toNat) := fun j h => by
    rw [hW, hg, Lib.bytesWorld_cell w _ s j h]
    congr 3
    rw [List.getD_eq_getElem?_getD, List.getElem?_eq_getElem (by simpa using h)]; rfl
  rw [← hW, ← hC, ← hg]
  have HC := Lib.hid hc
  have HB := Lib.hid hB
  have HG := Lib.hid hg
  clear hc hB hW hC hg
  go_wp2
  go_loopw [14] (fun i wr => ∃ k : Nat, i = .int .i64 (k : Int) ∧ k ≤ s.size ∧ wr = W1) (fun i _ => s.size - (intOf i).toNat)
  case atStart => exact ⟨0, rfl, by omega, rfl⟩
  case round =>
    obtain ⟨k, rfl, hk, rfl⟩ := hrel
    by_cases hlt : k < s.size
    · have hc := HC.out k hlt
      have hu := HL.out k hlt
      obtain ⟨u, hu0⟩ : ∃ u, u = s[k].toNat := ⟨_, rfl⟩
      rw [← hu0] at hc hu
      clear hu0
      obtain ⟨hu1, hu2⟩ := hu
      go_wp2
      go_roundw
      case rel => exact ⟨k + 1, by go_num, by omega, trivial⟩
      case measure => simp [intOf]; omega
    · obtain rfl : k = s.size := by omega
      have HK : Hid ((convert 63 9 (.slice (some ⟨g, 0, none⟩) s.size C)).run Tryz.prog wr = .ok (.string s) wr) := by
        show _ = _
        have := run_convert_bytes_back wr 63 9 5 ⟨g, 0, none⟩ C s.data.toList (P := Tryz.prog) rfl rfl rfl (fun j hj => by
          have := HC.out j (by simpa using hj)
          rw [Addr.add_lit, Nat.zero_add, this]
          rfl)
        rw [show s.data.toList.length = s.size by simp] at this
        rw [this]
      go_wp2
      rw [HK.out]
      simp only [Result.andThen]
      rw [Oper.upon_value]
      go_wp2
      go_ret
      rw [← HG.out]
      exact ⟨rfl, HB.out⟩
end Go.Proofs.YtcghahfboccceaaGreatDoor
