/- Contracts of white.Turn, Idle and of the reference's. -/
import Derived.Test.YtkppignoomnmdaaDoorCollapse
import Derived.Lib.ConvBytes
import Derived.Lib.AtoiErrMem
import Derived.Shelf.Strings.SlTrimAscii
namespace Go.Proofs.YtkppignoomnmdaaDoor
open Go.RowKit
set_option linter.unusedVariables false
set_option linter.unusedSimpArgs false

/-- P305: a letter turned. -/
def turnB (m : Int) (c : UInt8) : UInt8 := if m = 1 then (if 97 ≤ c ∧ c ≤ 122 then c - 32 else c) else if m = 2 then (if 65 ≤ c ∧ c ≤ 90 then c + 32 else c) else c
theorem up_all : ∀ i : Fin 256, 97 ≤ i.val → i.val ≤ 122 → ((UInt8.ofNat i.val) - 32).toNat = i.val - 32 := by decide +kernel
theorem low_all : ∀ i : Fin 256, 65 ≤ i.val → i.val ≤ 90 → ((UInt8.ofNat i.val) + 32).toNat = i.val + 32 := by decide +kernel
theorem u8_le (a b : UInt8) : a ≤ b ↔ a.toNat ≤ b.toNat := UInt8.le_iff_toNat_le
theorem turn_up (c : UInt8) (h1 : 97 ≤ (c.toNat : Int)) (h2 : (c.toNat : Int) ≤ 122) : ((turnB 1 c).toNat : Int) = (c.toNat : Int) - 32 := by
  have h := up_all ⟨c.toNat, c.toNat_lt⟩ (by simp; omega) (by simp; omega)
  simp at h
  have hc : 97 ≤ c ∧ c ≤ 122 := by rw [u8_le, u8_le]; constructor <;> simp <;> omega
  unfold turnB; rw [if_pos rfl, if_pos hc, h]; omega
theorem turn_low (c : UInt8) (h1 : 65 ≤ (c.toNat : Int)) (h2 : (c.toNat : Int) ≤ 90) : ((turnB 2 c).toNat : Int) = (c.toNat : Int) + 32 := by
  have h := low_all ⟨c.toNat, c.toNat_lt⟩ (by simp; omega) (by simp; omega)
  simp only [UInt8.ofNat_toNat] at h
  have hc : 65 ≤ c ∧ c ≤ 90 := by rw [u8_le, u8_le]; constructor <;> simp <;> omega
  unfold turnB; rw [if_neg (by decide), if_pos rfl, if_pos hc, h]; omega
theorem turn_up_no (c : UInt8) (h : ¬ (97 ≤ (c.toNat : Int) ∧ (c.toNat : Int) ≤ 122)) : turnB 1 c = c := by
  have hc : ¬ (97 ≤ c ∧ c ≤ 122) := by rw [u8_le, u8_le]; simp; omega
  unfold turnB; rw [if_pos rfl, if_neg hc]
theorem turn_low_no (c : UInt8) (h : ¬ (65 ≤ (c.toNat : Int) ∧ (c.toNat : Int) ≤ 90)) : turnB 2 c = c := by
  have hc : ¬ (65 ≤ c ∧ c ≤ 90) := by rw [u8_le, u8_le]; simp; omega
  unfold turnB; rw [if_neg (by decide), if_pos rfl, if_neg hc]
theorem turn_other (m : Int) (c : UInt8) (h1 : ¬ m = 1) (h2 : ¬ m = 2) : turnB m c = c := by
  unfold turnB; rw [if_neg h1, if_neg h2]
def turnS (m : Int) (s : ByteArray) : ByteArray := ⟨(s.data.toList.map (turnB m)).toArray⟩
theorem turnS_other (m : Int) (s : ByteArray) (h1 : ¬ m = 1) (h2 : ¬ m = 2) : turnS m s = s := by
  unfold turnS
  have : s.data.toList.map (turnB m) = s.data.toList := by
    conv => rhs; rw [← List.map_id s.data.toList]
    apply List.map_congr_left
    intro c _
    exact turn_other m c h1 h2
  rw [this]
/-- Block g holds n bytes, of which the first k are turned. -/
def BB (w : World) (g n : Nat) (l : List UInt8) (m : Int) (k : Nat) : Prop :=
  ∀ j, j < n → w.cell? ⟨g, j, none⟩ = some (.int .u8 ((if j < k then turnB m (l.getD j 0) else l.getD j 0).toNat : Nat)) ∧ w.frozen? ⟨g, j, none⟩ = false
theorem BB.step {w : World} {g n : Nat} {l : List UInt8} {m : Int} {k : Nat} (h : BB w g n l m k) (hk : k < n) {x : Int} (hx : ((turnB m (l.getD k 0)).toNat : Int) = x) : BB (w.setCell ⟨g, k, none⟩ (.int .u8 x)) g n l m (k + 1) := fun j hj => by
  obtain ⟨h1, h2⟩ := h j hj
  refine ⟨?_, by rw [World.frozen?_setCell]; exact h2⟩
  by_cases e : j = k
  · subst e
    rw [World.cell?_setCell_same w _ _ h1, if_pos (by omega), hx]
  · rw [World.cell?_setCell_other w _ _ _ (by intro h'; injection h' with _ h'; exact e h'.symm), h1]
    by_cases e2 : j < k
    · rw [if_pos e2, if_pos (by omega)]
    · rw [if_neg e2, if_neg (by omega)]
theorem BB.skip {w : World} {g n : Nat} {l : List UInt8} {m : Int} {k : Nat} (h : BB w g n l m k) (hx : turnB m (l.getD k 0) = l.getD k 0) : BB w g n l m (k + 1) := fun j hj => by
  obtain ⟨h1, h2⟩ := h j hj
  refine ⟨?_, h2⟩
  rw [h1]
  by_cases e : j = k
  · subst e; rw [if_neg (by omega), if_pos (by omega), hx]
  · by_cases e2 : j < k
    · rw [if_pos e2, if_pos (by omega)]
    · rw [if_neg e2, if_neg (by omega)]
theorem run_string_cells (w : World) (g cap : Nat) (l : List UInt8) (h : ∀ j u, (u8s l)[j]? = some u → w.cell? ((⟨g, 0, none⟩ : Addr).add j) = some u) :
    (convert 43 9 (.slice (some ⟨g, 0, none⟩) l.length cap)).run Tryd.prog w = .ok (.string ⟨l.toArray⟩) w := by
  rw [run_convert_bytes_string w 43 9 5 _ _ _ Tryd.underlying43 Tryd.underlying5 Tryd.underlying9]
  have hl : (loadCells ⟨g, 0, none⟩ l.length).run Tryd.prog w = .ok ((l.map fun c => ((c.toNat : Nat) : Int)).map (Value.int .u8)).toArray w := by
    have := run_loadCells_list (P := Tryd.prog) w ⟨g, 0, none⟩ (u8s l) h
    have e : (l.map fun c => ((c.toNat : Nat) : Int)).map (Value.int .u8) = u8s l := by simp [u8s]
    rw [e]
    simpa [u8s] using this
  rw [run_bytesToString w _ _ _ _ hl, fold_push]
  simp [ByteArray.empty, ByteArray.emptyWithCapacity]
  rfl
theorem BB.all {w : World} {g : Nat} {l : List UInt8} {m : Int} (h : BB w g l.length l m l.length) : ∀ j u, (u8s (l.map (turnB m)))[j]? = some u → w.cell? ((⟨g, 0, none⟩ : Addr).add j) = some u := fun j u hu => by
  have hj : j < l.length := by
    rcases Nat.lt_or_ge j l.length with h1 | h1
    · exact h1
    · rw [List.getElem?_eq_none (by simpa [u8s] using h1)] at hu; cases hu
  have e : (⟨g, 0, none⟩ : Addr).add j = ⟨g, j, none⟩ := by unfold Addr.add; split <;> simp_all
  rw [e, (h j hj).1, ← hu, if_pos hj]
  simp [u8s, List.getD, hj]
theorem bytes_free (w : World) (e : TypeId) (s : ByteArray) (j : Nat) (hj : j < s.size) : (Lib.bytesWorld w e s).frozen? ⟨w.heap.size, j, none⟩ = false := by
  have h : s.size ≤ (Lib.bytesCells w e s).size := by simp [Lib.bytesCells]
  simp [World.frozen?, Lib.bytesWorld_at_new]; omega
set_option maxRecDepth 100000 in
set_option maxHeartbeats 1000000 in
theorem turn1_calls (s : ByteArray) (w : World) (hs : s.size ≤ 400) :
    Calls Tryd.prog 6 #[.string s, .int .i64 1] w fun e w' => e = .returned (.string (turnS 1 s)) ∧ Below w.heap.size w w' := by
  have hconv := Lib.run_convert_string_bytes (P := Tryd.prog) w 9 43 5 s Tryd.underlying9 Tryd.underlying43 Tryd.underlying5
  have hbb : BB (Lib.bytesWorld w 5 s) w.heap.size s.size s.data.toList 1 0 := fun j hj => ⟨by rw [Lib.bytesWorld_cell w _ s j hj, if_neg (by omega)], bytes_free w _ s j hj⟩
  have hbel := Lib.bytesWorld_below w 5 s
  have hl : s.data.toList.length = s.size := by rw [Array.length_toList]; rfl
  have HL := Lib.hid hl
  have HBB := Lib.hid hbb
  have HBEL := Lib.hid hbel
  obtain ⟨cp, hcp⟩ : ∃ cp, cp = grownCap w s.size 0 5 := ⟨_, rfl⟩
  rw [← hcp] at hconv
  clear hl hbb hbel hcp
  obtain ⟨r, hr⟩ : ∃ r, r = turnS 1 s := ⟨_, rfl⟩
  rw [← hr]
  have HRS := Lib.hid hr
  clear hr
  go_enter Tryd.func6, Tryd.ntmps6
  go_wp2_with fail
  clear hconv
  go_loopw [24] (fun i wr => ∃ k : Nat, k ≤ s.size ∧ i = .int .i64 k ∧ BB wr w.heap.size s.size s.data.toList 1 k ∧ Below w.heap.size w wr) (fun i _ => s.size - (intOf i).toNat)
  case atStart => exact ⟨0, Nat.zero_le _, rfl, HBB.out, HBEL.out⟩
  case round =>
    obtain ⟨k, hk, rfl, hbb, hbel⟩ := hrel
    by_cases hlt : k < s.size
    · obtain ⟨c0, f0⟩ := hbb k hlt
      rw [if_neg (by omega)] at c0
      have HX := Lib.hid hbb
      obtain ⟨c, hc⟩ : ∃ c, c = s.data.toList.getD k 0 := ⟨_, rfl⟩
      rw [← hc] at c0
      have HC := Lib.hid hc
      have hc256 := c.toNat_lt
      have KK := Lib.hid (show k ≤ s.size ∧ k < s.size from ⟨hk, hlt⟩)
      clear hbb hc
      by_cases h1 : 97 ≤ (c.toNat : Int)
      · by_cases h2 : (c.toNat : Int) ≤ 122
        · have HT := Lib.hid (turn_up c h1 h2)
          go_wp2_with fail
          go_roundw
          case rel => exact ⟨k + 1, by have := KK.out; omega, by go_num, HX.out.step KK.out.2 (by rw [← HC.out, HT.out]; try omega), below_set hbel (Nat.le_refl _) _⟩
          case measure => have := KK.out; simp [intOf]; omega
        · have HT := Lib.hid (turn_up_no c (by omega))
          go_wp2_with fail
          go_roundw
          case rel => exact ⟨k + 1, by have := KK.out; omega, by go_num, HX.out.skip (by rw [← HC.out]; exact HT.out), hbel⟩
          case measure => have := KK.out; simp [intOf]; omega
      · have HT := Lib.hid (turn_up_no c (by omega))
        go_wp2_with fail
        go_roundw
        case rel => exact ⟨k + 1, by have := KK.out; omega, by go_num, HX.out.skip (by rw [← HC.out]; exact HT.out), hbel⟩
        case measure => have := KK.out; simp [intOf]; omega
    · have e : k = s.data.toList.length := by have := HL.out; omega
      subst e
      rw [← HL.out] at hbb
      have hst := run_string_cells wr w.heap.size cp (s.data.toList.map (turnB 1)) hbb.all
      have e2 : (s.data.toList.map (turnB 1)).length = s.size := by rw [List.length_map]; exact HL.out
      rw [e2] at hst
      have e3 : (⟨(s.data.toList.map (turnB 1)).toArray⟩ : ByteArray) = turnS 1 s := rfl
      rw [e3] at hst
      rw [← HRS.out] at hst
      clear e2 e3 hbb
      go_wp2_with fail
      go_ret
      exact ⟨rfl, hbel⟩
set_option maxRecDepth 100000 in
set_option maxHeartbeats 1000000 in
theorem turn2_calls (s : ByteArray) (w : World) (hs : s.size ≤ 400) :
    Calls Tryd.prog 6 #[.string s, .int .i64 2] w fun e w' => e = .returned (.string (turnS 2 s)) ∧ Below w.heap.size w w' := by
  have hconv := Lib.run_convert_string_bytes (P := Tryd.prog) w 9 43 5 s Tryd.underlying9 Tryd.underlying43 Tryd.underlying5
  have hbb : BB (Lib.bytesWorld w 5 s) w.heap.size s.size s.data.toList 2 0 := fun j hj => ⟨by rw [Lib.bytesWorld_cell w _ s j hj, if_neg (by omega)], bytes_free w _ s j hj⟩
  have hbel := Lib.bytesWorld_below w 5 s
  have hl : s.data.toList.length = s.size := by rw [Array.length_toList]; rfl
  have HL := Lib.hid hl
  have HBB := Lib.hid hbb
  have HBEL := Lib.hid hbel
  obtain ⟨cp, hcp⟩ : ∃ cp, cp = grownCap w s.size 0 5 := ⟨_, rfl⟩
  rw [← hcp] at hconv
  clear hl hbb hbel hcp
  obtain ⟨r, hr⟩ : ∃ r, r = turnS 2 s := ⟨_, rfl⟩
  rw [← hr]
  have HRS := Lib.hid hr
  clear hr
  go_enter Tryd.func6, Tryd.ntmps6
  go_wp2_with fail
  clear hconv
  go_loopw [24] (fun i wr => ∃ k : Nat, k ≤ s.size ∧ i = .int .i64 k ∧ BB wr w.heap.size s.size s.data.toList 2 k ∧ Below w.heap.size w wr) (fun i _ => s.size - (intOf i).toNat)
  case atStart => exact ⟨0, Nat.zero_le _, rfl, HBB.out, HBEL.out⟩
  case round =>
    obtain ⟨k, hk, rfl, hbb, hbel⟩ := hrel
    by_cases hlt : k < s.size
    · obtain ⟨c0, f0⟩ := hbb k hlt
      rw [if_neg (by omega)] at c0
      have HX := Lib.hid hbb
      obtain ⟨c, hc⟩ : ∃ c, c = s.data.toList.getD k 0 := ⟨_, rfl⟩
      rw [← hc] at c0
      have HC := Lib.hid hc
      have hc256 := c.toNat_lt
      have KK := Lib.hid (show k ≤ s.size ∧ k < s.size from ⟨hk, hlt⟩)
      clear hbb hc
      by_cases h1 : 65 ≤ (c.toNat : Int)
      · by_cases h2 : (c.toNat : Int) ≤ 90
        · have HT := Lib.hid (turn_low c h1 h2)
          go_wp2_with fail
          go_roundw
          case rel => exact ⟨k + 1, by have := KK.out; omega, by go_num, HX.out.step KK.out.2 (by rw [← HC.out, HT.out]; try omega), below_set hbel (Nat.le_refl _) _⟩
          case measure => have := KK.out; simp [intOf]; omega
        · have HT := Lib.hid (turn_low_no c (by omega))
          go_wp2_with fail
          go_roundw
          case rel => exact ⟨k + 1, by have := KK.out; omega, by go_num, HX.out.skip (by rw [← HC.out]; exact HT.out), hbel⟩
          case measure => have := KK.out; simp [intOf]; omega
      · have HT := Lib.hid (turn_low_no c (by omega))
        go_wp2_with fail
        go_roundw
        case rel => exact ⟨k + 1, by have := KK.out; omega, by go_num, HX.out.skip (by rw [← HC.out]; exact HT.out), hbel⟩
        case measure => have := KK.out; simp [intOf]; omega
    · have e : k = s.data.toList.length := by have := HL.out; omega
      subst e
      rw [← HL.out] at hbb
      have hst := run_string_cells wr w.heap.size cp (s.data.toList.map (turnB 2)) hbb.all
      have e2 : (s.data.toList.map (turnB 2)).length = s.size := by rw [List.length_map]; exact HL.out
      rw [e2] at hst
      have e3 : (⟨(s.data.toList.map (turnB 2)).toArray⟩ : ByteArray) = turnS 2 s := rfl
      rw [e3] at hst
      rw [← HRS.out] at hst
      clear e2 e3 hbb
      go_wp2_with fail
      go_ret
      exact ⟨rfl, hbel⟩
theorem turn_calls (s : ByteArray) (m : Int) (w : World) (hs : s.size ≤ 400) :
    Calls Tryd.prog 6 #[.string s, .int .i64 m] w fun e w' => e = .returned (.string (turnS m s)) ∧ Below w.heap.size w w' := by
  by_cases h1 : m = 1
  · subst h1; exact turn1_calls s w hs
  · by_cases h2 : m = 2
    · subst h2; exact turn2_calls s w hs
    · rw [turnS_other m s h1 h2]
      have e1 : (m == 1) = false := by simpa using h1
      have e2 : (m == 2) = false := by simpa using h2
      go_enter Tryd.func6, Tryd.ntmps6
      go_wp2_with fail
      go_ret
      exact ⟨rfl, Below.refl _ _⟩
end Go.Proofs.YtkppignoomnmdaaDoor
