/- The rest of a text, piece by piece: plain. -/
import Derived.Test.YtpamfhplklhnpaaDoorItmL
namespace Go.Proofs.YtpamfhplklhnpaaDoor
open Go.RowKit
set_option linter.unusedVariables false
set_option linter.unusedSimpArgs false

theorem ext_data (s : ByteArray) (a b : Nat) : (s.extract a b).data.toList = (s.data.toList.take b).drop a := by
  rw [ByteArray.data_extract, Array.toList_extract, List.extract_eq_take_drop]
  rw [List.drop_take]
theorem ext_eq (s : ByteArray) (b : Nat) : s.extract 0 b = ⟨(s.data.toList.take b).toArray⟩ := by
  apply ByteArray.ext
  apply Array.toList_inj.1
  rw [ext_data]
  rfl
theorem emit_nil (x must : ItemV) (kp : Bool) : emit x must true (partsOf kp []) = [] := by cases kp <;> simp [partsOf, partsL, emit]
theorem blank_nil (e b kp : Bool) : blankB e true b (partsOf kp []) = b := by cases kp <;> simp [partsOf, partsL, blankB]
/-- A rest without a break is one piece. -/
theorem rest_end (x must : ItemV) (e b kp : Bool) (r : List UInt8) (hne : r ≠ []) (h : kp = true → ∀ c ∈ r, c ≠ 10) :
    emit x must true (partsOf kp r) = [{ x with text := ⟨r.toArray⟩ }] ∧ blankB e true b (partsOf kp r) = e := by
  have hp : partsOf kp r = [r] := by
    cases kp with
    | false => rfl
    | true => exact partsL_end r (h rfl)
  rw [hp]
  simp [emit, blankB, hne]
theorem rest_nl (x must : ItemV) (e b : Bool) (a r : List UInt8) (h : ∀ c ∈ a, c ≠ 10) :
    emit x must true (partsOf true (a ++ 10 :: r)) = (if a = [] then [] else [{ x with text := ⟨a.toArray⟩ }]) ++ must :: emit x must true (partsOf true r) ∧ blankB e true b (partsOf true (a ++ 10 :: r)) = blankB e true true (partsOf true r) :=
  ⟨emit_piece x must a r h, blank_piece e b a r h⟩
theorem split_at (s : ByteArray) (j : Nat) (hj : j < s.size) (h : s[j] = 10) : s.data.toList = s.data.toList.take j ++ 10 :: s.data.toList.drop (j + 1) := by
  have hl : j < s.data.toList.length := hj
  have e1 : s.data.toList[j] = 10 := h
  conv => lhs; rw [← List.take_append_drop j s.data.toList, List.drop_eq_getElem_cons hl, e1]
/-- What is left of a text, and what stands already. -/
structure TX (x must : ItemV) (e kp : Bool) (T : List ItemV × Bool) (n : Nat) (s : ByteArray) (L : List ItemV) (b : Bool) : Prop where
  out : L ++ emit x must true (partsOf kp s.data.toList) = T.1
  blank : blankB e true b (partsOf kp s.data.toList) = T.2
  room : n + L.length + 2 * s.size ≤ 4194302
theorem noB (s : ByteArray) (j : Nat) (hj : j ≤ s.size) (h : ∀ i, (hi : i < s.size) → i < j → s[i] ≠ 10) : ∀ c ∈ s.data.toList.take j, c ≠ 10 := by
  intro c hc
  obtain ⟨i, hi, rfl⟩ := List.mem_iff_getElem.1 hc
  rw [List.length_take] at hi
  rw [List.getElem_take]
  have hl : s.data.toList.length = s.size := by simp
  exact h i (by omega) (by omega)
section
variable {x must : ItemV} {e kp : Bool} {T : List ItemV × Bool} {n : Nat} {s : ByteArray} {L : List ItemV} {b : Bool}
theorem TX.done (h : TX x must e kp T n s L b) (hs : s.size = 0) : L = T.1 ∧ b = T.2 := by
  have hd : s.data.toList = [] := List.eq_nil_of_length_eq_zero (by rw [Array.length_toList]; exact hs)
  have h1 := h.out
  have h2 := h.blank
  rw [hd, emit_nil, List.append_nil] at h1
  rw [hd, blank_nil] at h2
  exact ⟨h1, h2⟩
theorem TX.last (h : TX x must e kp T n s L b) (hs : 0 < s.size) (hn : kp = true → ∀ i, (hi : i < s.size) → i < s.size → s[i] ≠ 10) (s' : ByteArray) (hz : s'.size = 0) :
    TX x must e kp T n s' (L ++ [{ x with text := s }]) e := by
  have hl : s.data.toList.length = s.size := by simp
  have htk : s.data.toList.take s.size = s.data.toList := List.take_of_length_le (by omega)
  have hd : s'.data.toList = [] := List.eq_nil_of_length_eq_zero (by rw [Array.length_toList]; exact hz)
  obtain ⟨h1, h2⟩ := rest_end x must e b kp s.data.toList (fun e => by rw [e] at hl; simp at hl; omega) (fun hk => by have := noB s s.size (Nat.le_refl _) (hn hk); rwa [htk] at this)
  have h3 := h.out
  have h4 := h.blank
  have h5 := h.room
  rw [h1] at h3
  rw [h2] at h4
  refine ⟨?_, by rw [hd, blank_nil]; exact h4, by rw [hz, List.length_append, List.length_singleton]; omega⟩
  rw [hd, emit_nil, List.append_nil]
  exact h3
theorem TX.piece {j : Nat} (h : TX x must e true T n s L b) (hj : j < s.size) (h0 : 0 < j) (h10 : s[j] = 10) (hn : ∀ i, (hi : i < s.size) → i < j → s[i] ≠ 10) :
    TX x must e true T n (s.extract (j + 1) s.size) (L ++ [{ x with text := s.extract 0 j }] ++ [must]) true := by
  have hl : s.data.toList.length = s.size := by simp
  have hd : (s.extract (j + 1) s.size).data.toList = s.data.toList.drop (j + 1) := by rw [ext_data, List.take_of_length_le (by omega)]
  have hz : (s.extract (j + 1) s.size).size = s.size - (j + 1) := by rw [ByteArray.size_extract]; omega
  have h3 := h.out
  have h4 := h.blank
  have h5 := h.room
  rw [split_at s j hj h10] at h3 h4
  obtain ⟨h1, h2⟩ := rest_nl x must e b (s.data.toList.take j) (s.data.toList.drop (j + 1)) (noB s j (by omega) hn)
  rw [h1, if_neg (fun e => by have := congrArg List.length e; rw [List.length_take, List.length_nil] at this; omega)] at h3
  rw [h2] at h4
  refine ⟨?_, by rw [hd]; exact h4, by rw [hz, List.length_append, List.length_append, List.length_singleton, List.length_singleton]; omega⟩
  rw [hd, ext_eq, ← h3]
  simp
theorem TX.bare (h : TX x must e true T n s L b) (hj : 0 < s.size) (h10 : s[0] = 10) :
    TX x must e true T n (s.extract 1 s.size) (L ++ [must]) true := by
  have hl : s.data.toList.length = s.size := by simp
  have hd : (s.extract 1 s.size).data.toList = s.data.toList.drop 1 := by rw [ext_data, List.take_of_length_le (by omega)]
  have hz : (s.extract 1 s.size).size = s.size - 1 := by rw [ByteArray.size_extract]; omega
  have h3 := h.out
  have h4 := h.blank
  have h5 := h.room
  rw [split_at s 0 hj h10] at h3 h4
  obtain ⟨h1, h2⟩ := rest_nl x must e b (s.data.toList.take 0) (s.data.toList.drop 1) (fun c hc => by simp at hc)
  rw [h1, if_pos (List.take_zero)] at h3
  rw [h2] at h4
  refine ⟨?_, by rw [hd]; exact h4, by rw [hz, List.length_append, List.length_singleton]; omega⟩
  rw [hd, ← h3]
  simp
end
def strLen : Value → Nat
  | .string s => s.size
  | _ => 0
end Go.Proofs.YtpamfhplklhnpaaDoor
