/- strings.Split at a newline. -/
import Derived.Test.YtpamfhplklhnpaaDoorItmPlain
import Derived.Test.YtpamfhplklhnpaaDoorShelf
import Derived.Shelf.Strings.SplitCore
import Derived.Lib.SplitLaws
import Derived.Lib.IndexBytes
import Derived.Lib.IndexLaws
namespace Go.Proofs.YtpamfhplklhnpaaDoor
open Go.RowKit
set_option linter.unusedVariables false
set_option linter.unusedSimpArgs false

theorem hit_nl {l : List UInt8} (h : 0 < l.count 10) : ∃ i : Nat, Lib.indexByte l 10 = i := by
  have h1 := Lib.indexByte_ge l 10
  by_cases h2 : Lib.indexByte l 10 = -1
  · have h3 := Lib.indexByte_none h2
    have h4 : (10 : UInt8) ∈ l := List.count_pos_iff.1 h
    obtain ⟨k, hk, he⟩ := List.mem_iff_getElem.1 h4
    exact absurd (by rw [List.getElem?_eq_getElem hk, he]) (h3 k)
  · exact ⟨(Lib.indexByte l 10).toNat, by omega⟩
theorem split_nl : ∀ l : List UInt8, Lib.splitK [10] 0 (l.count 10) l = partsL l
  | [] => rfl
  | c :: l => by
    have ih := split_nl l
    by_cases hc : c = 10
    · subst hc
      rw [List.count_cons_self, partsL, if_pos rfl, ← ih, Lib.splitK]
      have e : Lib.index (10 :: l) [10] = 0 := by rw [Lib.index_one]; simp [Lib.indexByte]
      rw [e]
      simp
    · rw [List.count_cons_of_ne (by simpa using hc), partsL, if_neg hc, ← ih]
      cases hk : l.count 10 with
      | zero => rfl
      | succ k =>
        obtain ⟨i, hi⟩ := hit_nl (l := l) (by omega)
        have e1 : Lib.index l [10] = i := by rw [Lib.index_one]; exact hi
        have e2 : Lib.index (c :: l) [10] = ((i + 1 : Nat) : Int) := by
          rw [Lib.index_one, Lib.indexByte, hi]
          have h1 : (c == 10) = false := by simpa using hc
          have h2 : ((i : Int) == -1) = false := by simp <;> omega
          rw [h1, h2]; simp
        rw [Lib.splitK, Lib.splitK, e1, e2]
        have h1 : (((i + 1 : Nat) : Int) == -1) = false := by simp <;> omega
        have h2 : ((i : Int) == -1) = false := by simp <;> omega
        rw [h1, h2]
        simp
set_option maxHeartbeats 1000000 in
theorem split_calls (s : ByteArray) (w : World) (hs : s.size < 4294967281) :
    Calls Tryd.prog 72 #[.string s, .string ⟨#[10]⟩] w fun e w' =>
      e = .returned (.slice (some ⟨w.heap.size, 0, none⟩) (partsL s.data.toList).length (partsL s.data.toList).length) ∧ w' = w.alloc (.cells ((partsL s.data.toList).map fun l => Value.string ⟨l.toArray⟩).toArray 9) := by
  have hI : ∀ (x : ByteArray) (c : Array Value), x.size ≤ s.size → Calls Tryd.prog 96 #[.string x, .string ⟨#[10]⟩] (w.alloc (.cells c 9)) fun e w' => e = .returned (.int .i64 (Lib.indexB x ⟨#[10]⟩)) ∧ w' = w.alloc (.cells c 9) := fun x c _ =>
    (Tryd.strings_Index_one x 10 _).mono fun e w' ⟨he, hw⟩ => ⟨by rw [he]; show _ = Ending.returned (Value.int .i64 (Lib.index x.data.toList [10])); rw [Lib.index_one], hw⟩
  have hC : Calls Tryd.prog 95 #[.string s, .string ⟨#[10]⟩] w fun e w' => e = .returned (.int .i64 (Lib.countB s ⟨#[10]⟩)) ∧ w' = w :=
    (Tryd.strings_Count_one s 10 w).mono fun e w' ⟨he, hw⟩ => ⟨by rw [he]; show _ = Ending.returned (Value.int .i64 ((Lib.count s.data.toList [10] : Nat) : Int)); rw [Lib.count_one]; rfl, hw⟩
  have hcn : Lib.countB s ⟨#[10]⟩ = s.data.toList.count 10 := Lib.count_one 10 s.data.toList
  have hle := Lib.countB_le ⟨#[10]⟩ (by decide) s.size s (Nat.le_refl _)
  have hlen := Lib.splitB_all ⟨#[10]⟩ (by decide) 0 _ s rfl
  have c := Any.strings_genSplit_core Tryd.lays221 (by kernel_rfl) s ⟨#[10]⟩ 0 (-1) (Lib.countB s ⟨#[10]⟩ + 1) w hs (by decide) (Nat.zero_le _) hI hC (by decide) (by decide) (by rw [if_pos (by decide)]; omega)
  rw [Nat.add_sub_cancel, hlen] at c
  have e2 : Lib.cellsOf (Lib.splitB ⟨#[10]⟩ 0 (Lib.countB s ⟨#[10]⟩) s) (Lib.countB s ⟨#[10]⟩ + 1) = ((Lib.splitB ⟨#[10]⟩ 0 (Lib.countB s ⟨#[10]⟩) s).map Value.string).toArray := by rw [← hlen]; exact Lib.cellsOf_full _
  rw [e2] at c
  have hd : (Lib.splitB ⟨#[10]⟩ 0 (Lib.countB s ⟨#[10]⟩) s).map (·.data.toList) = partsL s.data.toList := by
    rw [Lib.splitB_data, hcn]; exact split_nl _
  have e3 : (Lib.splitB ⟨#[10]⟩ 0 (Lib.countB s ⟨#[10]⟩) s).map Value.string = (partsL s.data.toList).map fun l => Value.string ⟨l.toArray⟩ := by
    rw [← hd, List.map_map]
    exact List.map_congr_left fun b _ => by simp
  have e4 : Lib.countB s ⟨#[10]⟩ + 1 = (partsL s.data.toList).length := by rw [← hd, List.length_map, hlen]
  rw [e3, e4] at c
  obtain ⟨ps, hps⟩ : ∃ x, x = partsL s.data.toList := ⟨_, rfl⟩
  rw [← hps] at c ⊢
  have HC : Hid (Calls Tryd.prog 87 #[.string s, .string ⟨#[10]⟩, .int .i64 0, .int .i64 (-1)] w _) := c
  clear c hI hC hcn hle hlen e2 hd e3 e4 hps
  go_enter Tryd.func72, Tryd.ntmps72
  go_wp2_with (go_at_call 87; refine HC.out.mono ?_; rintro e w' ⟨rfl, hw⟩; rw [hw])
  go_ret
  exact ⟨rfl, rfl⟩
end Go.Proofs.YtpamfhplklhnpaaDoor
