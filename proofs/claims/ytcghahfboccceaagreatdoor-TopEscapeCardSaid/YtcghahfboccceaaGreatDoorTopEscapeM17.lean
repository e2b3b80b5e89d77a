/- Several texts in one: DomA, DomB. -/
import Derived.Test.YtcghahfboccceaaGreatDoorTopEscapeM14
import Derived.Test.YtcghahfboccceaaGreatDoorTopEscapeM7
import Derived.Lib.Hide
import Derived.Test.YtcghahfboccceaaGreatDoorTopEscapeM8
/- Contracts of dom: names, attributes. -/
namespace Go.Proofs.YtcghahfboccceaaGreatDoor
open Go.RowKit
set_option linter.unusedVariables false
set_option linter.unusedSimpArgs false

theorem ascii_all {l : List UInt8} (h : l.all (fun c => decide (c.toNat < 128)) = true) : ∀ (j : Nat) (b : UInt8), (⟨l.toArray⟩ : ByteArray).data.toList[j]? = some b → b.toNat < 128 := fun j b hj => by
  have := List.all_eq_true.1 h b (List.mem_of_getElem? hj)
  simpa using this
theorem trimN_calls (s : ByteArray) (w : World) (hs : s.size ≤ 400) :
    Calls Tryz.prog 65 #[.string s, .string ⟨signsL.toArray⟩] w fun e w' => e = .returned (.string ⟨(Lib.trimS s.data.toList signsL).toArray⟩) ∧ Below w.heap.size w w' :=
  Any.strings_Trim_laid Tryz.lays160 (by kernel_rfl) s ⟨signsL.toArray⟩ w (by omega) (by decide) (ascii_all (l := signsL) (by decide +kernel))
theorem bytes_none {s : ByteArray} (h : s.size = 0) : s = ⟨#[]⟩ := by
  cases s with | mk d => 
  have : d.size = 0 := h
  rw [Array.eq_empty_of_size_eq_zero this]
theorem u8_at (s : ByteArray) (k : Nat) (h : k < s.size) : s[k] = s.data.toList.getD k 0 := by
  have h' : k < s.data.toList.length := by simpa using h
  have e : s.data.toList.getD k 0 = s.data.toList[k] := by rw [List.getD, List.getElem?_eq_getElem h']; rfl
  rw [e]; rfl
theorem retB {a b : Bool} (h : a = b) : Ending.returned (.bool a) = .returned (.bool b) := by rw [h]
theorem named_calls (first : List UInt8) (s : ByteArray) (w : World) :
    Calls Tryz.prog 37 #[.string s, .string ⟨first.toArray⟩] w fun e w' => e = .returned (.bool (namedP first s)) ∧ Below w.heap.size w w' := by
  obtain ⟨r, hr⟩ : ∃ r, r = namedP first s := ⟨_, rfl⟩
  rw [← hr]
  have HR := Lib.hid hr
  clear hr
  by_cases h0 : s.size = 0
  · obtain rfl := bytes_none h0
    clear h0
    go_enter Tryz.func37, Tryz.ntmps37
    go_wp2_with fail
    go_ret
    exact ⟨retB (by rw [HR.out]; rfl), Below.refl _ _⟩
  · have hne : (!s.toList.isEmpty) = true := by
      have e : s.toList.length = s.size := by rw [ByteArray.toList_eq]; simp
      cases h : s.toList with
      | nil => rw [h] at e; simp at e; omega
      | cons x r => rfl
    have HZ : Hid ((s.size == 0) = false) := by show _ = _; simp [h0]
    by_cases h1 : s.size ≤ 40
    · have hd : decide ((s.size : Int) ≤ 40) = true := by simp; omega
      have H1 : Hid (decide (s.size ≤ 40) = true) := decide_eq_true h1
      have h0' : 0 < s.size := by omega
      have hix := u8_at s 0 h0'
      have hc := fun w => Tryz.strings_IndexByte ⟨first.toArray⟩ ((s.data.toList.getD 0 0).toNat : Int) w
      have e : (((s.data.toList.getD 0 0).toNat : Int).toNat.toUInt8) = s.data.toList.getD 0 0 := by simp
      rw [e] at hc
      have HT := Lib.hid (trimN_calls s w (by omega))
      obtain ⟨c, hcc⟩ : ∃ c, c = s.data.toList.getD 0 0 := ⟨_, rfl⟩
      rw [← hcc] at hc hix
      have HC := Lib.hid hc
      have HCC := Lib.hid hcc
      have HL : Hid ((⟨first.toArray⟩ : ByteArray).data.toList = first) := by show _ = _; simp
      clear hc e hcc h0 h1
      by_cases h2 : 0 ≤ Lib.indexByte first c
      · have hd2 : decide (0 ≤ Lib.indexByte first c) = true := decide_eq_true h2
        rw [HL.out] at HC
        have HR2 : Hid (r = (Lib.trimS s.data.toList signsL).isEmpty) := by show _ = _; rw [HR.out]; simp only [namedP]; rw [← HCC.out, hd2, HZ.out, H1.out]; simp
        obtain ⟨l, hl⟩ : ∃ l, l = Lib.trimS s.data.toList signsL := ⟨_, rfl⟩
        rw [← hl] at HT HR2
        have he : (⟨l.toArray⟩ : ByteArray).toList = l := by rw [ByteArray.toList_eq]
        clear h2 HR hl
        cases l with
        | nil =>
          clear he
          go_enter Tryz.func37, Tryz.ntmps37
          go_wp2_with (first | (go_at_call 64; refine (HC.out _).mono ?_; rintro e w' ⟨rfl, rfl⟩) | (go_at_call 65; refine HT.out.mono ?_; rintro e w' ⟨rfl, hb⟩))
          go_ret
          exact ⟨retB (by rw [HR2.out]; rfl), hb⟩
        | cons x l =>
          obtain ⟨t, ht⟩ : ∃ t : ByteArray, t = ⟨(x :: l).toArray⟩ := ⟨_, rfl⟩
          rw [← ht] at HT he
          have hte : t.toList.isEmpty = false := by rw [he]; rfl
          have hte2 : (!t.toList.isEmpty) = true := by rw [hte]; rfl
          clear ht he
          go_enter Tryz.func37, Tryz.ntmps37
          go_wp2_with (first | (go_at_call 64; refine (HC.out _).mono ?_; rintro e w' ⟨rfl, rfl⟩) | (go_at_call 65; refine HT.out.mono ?_; rintro e w' ⟨rfl, hb⟩))
          go_ret
          exact ⟨retB (by rw [HR2.out]; rfl), hb⟩
      · have hd2 : decide (0 ≤ Lib.indexByte first c) = false := decide_eq_false h2
        rw [HL.out] at HC
        have HR2 : Hid (r = false) := by show _ = _; rw [HR.out]; simp only [namedP]; rw [← HCC.out, hd2]; simp
        clear h2 HR
        go_enter Tryz.func37, Tryz.ntmps37
        go_wp2_with (go_at_call 64; refine (HC.out _).mono ?_; rintro e w' ⟨rfl, rfl⟩)
        go_ret
        exact ⟨retB (by rw [HR2.out]), Below.refl _ _⟩
    · have hd : decide ((s.size : Int) ≤ 40) = false := by simp; omega
      go_enter Tryz.func37, Tryz.ntmps37
      go_wp2_with fail
      go_ret
      refine ⟨retB ?_, Below.refl _ _⟩
      rw [HR.out]; simp [namedP, h1]
theorem name_calls (s : ByteArray) (w : World) :
    Calls Tryz.prog 21 #[.string s] w fun e w' => e = .returned (.bool (nameP s)) ∧ Below w.heap.size w w' := by
  have H := Lib.hid (named_calls lettersL s w)
  go_enter Tryz.func21, Tryz.ntmps21
  go_wp2_with (go_at_call 37; refine H.out.mono ?_; rintro e w' ⟨rfl, hb⟩)
  go_ret
  exact ⟨rfl, hb⟩
theorem attrName_calls (s : ByteArray) (w : World) :
    Calls Tryz.prog 103 #[.string s] w fun e w' => e = .returned (.bool (attrNameP s)) ∧ Below w.heap.size w w' := by
  have H := Lib.hid (named_calls (lettersL ++ [45, 95]) s w)
  go_enter Tryz.func103, Tryz.ntmps103
  go_wp2_with (go_at_call 37; refine H.out.mono ?_; rintro e w' ⟨rfl, hb⟩)
  go_ret
  exact ⟨rfl, hb⟩
end Go.Proofs.YtcghahfboccceaaGreatDoor
/- Contracts of dom: find an attribute; attributes. -/
namespace Go.Proofs.YtcghahfboccceaaGreatDoor
open Go.RowKit
set_option linter.unusedVariables false
set_option linter.unusedSimpArgs false

def at2 (l : List (ByteArray × ByteArray)) (k : Nat) : ByteArray × ByteArray := l.getD k (ByteArray.empty, ByteArray.empty)
theorem attr_at {w : World} {B : Nat} {A : Option Addr} {l : List (ByteArray × ByteArray)} (h : Holds w B A (l.flatMap attrF)) {k : Nat} (hk : k < l.length) : ∃ b off, A = some ⟨b, off, none⟩ ∧ b < B ∧ w.cell? ⟨b, off + k * 2, none⟩ = some (.string (at2 l k).1) ∧ w.cell? ⟨b, off + k * 2 + 1, none⟩ = some (.string (at2 l k).2) := by
  obtain ⟨b, off, e, hlt, hc⟩ := Holds.flatL h 2 (fun _ => rfl) (by decide) (ByteArray.empty, ByteArray.empty) hk
  exact ⟨b, off, e, hlt, hc 0 _ rfl, hc 1 _ rfl⟩
theorem find_at {l : List (ByteArray × ByteArray)} {s : ByteArray} {k : Nat} (h : k < l.length) : findP (l.drop k) s k = if (at2 l k).1 = s then (k : Int) else findP (l.drop (k + 1)) s (k + 1 : Nat) := by
  rw [List.drop_eq_getElem_cons h, findP]
  have e : at2 l k = l[k] := by unfold at2; rw [List.getD_eq_getElem?_getD, List.getElem?_eq_getElem h]; rfl
  rw [e]
  rfl
theorem str_eq (n s : ByteArray) : (n.toList == s.toList) = decide (n = s) := by
  by_cases h : n = s
  · subst h; simp
  · rw [decide_eq_false h]
    have : ¬ n.toList = s.toList := fun e => h (by
      rw [ByteArray.toList_eq, ByteArray.toList_eq] at e
      exact ByteArray.ext (Array.toList_inj.1 e))
    simpa using this
theorem findC_calls (n v s : ByteArray) (g : Nat) (w : World) (hS : Blk w g 9 #[.string s]) :
    Calls Tryz.prog 149 #[.agg #[.string n, .string v], .pointer (some ⟨g, 0, none⟩)] w fun e w' => e = .returned (.bool (n.toList == s.toList)) ∧ Below w.heap.size w w' := by
  have c0 := (hS.alloc (.cells #[.string n, .string v] 91)).cell 0
  have c0' : (w.alloc (.cells #[.string n, .string v] 91)).cell? ⟨g, 0, none⟩ = some (.string s) := c0
  have hb := below_alloc (Below.refl w.heap.size w) (.cells #[.string n, .string v] 91)
  clear hS c0
  go_enter Tryz.func149, Tryz.ntmps149
  go_wp2_with fail
  go_ret
  exact ⟨rfl, hb⟩
set_option maxHeartbeats 1000000 in
theorem index_calls (A : Option Addr) (n c B g : Nat) (l : List (ByteArray × ByteArray)) (s : ByteArray) (w : World) (hn : l.length = n) (h : Holds w B A (l.flatMap attrF)) (hB : B ≤ w.heap.size) (hS : Blk w g 9 #[.string s]) (hm : n ≤ 140737488355328) :
    Calls Tryz.prog 148 #[.slice A n c, .func (.func 149) #[] #[.pointer (some ⟨g, 0, none⟩)]] w fun e w' => e = .returned (.int .i64 (findP l s 0)) ∧ Below w.heap.size w w' := by
  subst hn
  have H := Lib.hid h
  have HS := Lib.hid hS
  have HB := Lib.hid hB
  obtain ⟨r, hr⟩ : ∃ r, r = findP l s 0 := ⟨_, rfl⟩
  rw [← hr]
  have HR := Lib.hid hr
  clear h hS hB hr
  go_enter Tryz.func148, Tryz.ntmps148
  go_wp2_with fail
  go_loopw [8] (fun i wr => ∃ k : Nat, k ≤ l.length ∧ i = .int .i64 k ∧ Hid (r = findP (l.drop k) s k) ∧ Below w.heap.size w wr) (fun i _ => l.length - (intOf i).toNat)
  case atStart => exact ⟨0, Nat.zero_le _, rfl, HR.out, Below.refl _ _⟩
  case round =>
    obtain ⟨k, hk, rfl, HK, hbel⟩ := hrel
    by_cases hlt : k < l.length
    · obtain ⟨b, off, rfl, hb, c0, c1⟩ := attr_at (H.out.below hbel HB.out) hlt
      have HF := Lib.hid (find_at (s := s) hlt)
      obtain ⟨x, hx⟩ : ∃ x, x = at2 l k := ⟨_, rfl⟩
      rw [← hx] at HF c0 c1
      obtain ⟨x1, x2⟩ := x
      have HC := Lib.hid (findC_calls x1 x2 s g wr (HS.out.below hbel HS.out.lt))
      have hbs := hbel.size
      clear hx
      by_cases he : x1 = s
      · have hq : (x1.toList == s.toList) = true := by rw [str_eq]; exact decide_eq_true he
        rw [hq] at HC
        have HN : Hid (r = (k : Int)) := by show _ = _; rw [HK.out, HF.out, if_pos he]
        clear he hq
        go_wp2_with (go_at_call 149; refine HC.out.mono ?_; rintro e w1 ⟨rfl, hb1⟩)
        go_ret
        exact ⟨by rw [HN.out]; rfl, below_then hbel hb1⟩
      · have hq : (x1.toList == s.toList) = false := by rw [str_eq]; exact decide_eq_false he
        rw [hq] at HC
        have HN : Hid (r = findP (l.drop (k + 1)) s (k + 1 : Nat)) := by show _ = _; rw [HK.out, HF.out, if_neg he]
        clear he hq
        go_wp2_with (go_at_call 149; refine HC.out.mono ?_; rintro e w1 ⟨rfl, hb1⟩)
        go_round
        case rel => exact ⟨k + 1, by omega, by go_num, HN.out, below_then hbel hb1⟩
        case measure => simp [intOf]; omega
    · have e : k = l.length := by omega
      subst e
      have HN : Hid (r = -1) := by show _ = _; rw [HK.out, List.drop_length]; rfl
      go_wp2_with fail
      go_ret
      exact ⟨by rw [HN.out]; rfl, hbel⟩
theorem find_calls (A : Option Addr) (n c B : Nat) (l : List (ByteArray × ByteArray)) (s : ByteArray) (w : World) (hn : l.length = n) (h : Holds w B A (l.flatMap attrF)) (hB : B ≤ w.heap.size) (hm : n ≤ 140737488355328) :
    Calls Tryz.prog 104 #[.slice A n c, .string s] w fun e w' => e = .returned (.int .i64 (findP l s 0)) ∧ Below w.heap.size w w' := by
  have hb := below_alloc (Below.refl w.heap.size w) (.cells #[.string s] 9)
  have HX := Lib.hid (index_calls A n c B w.heap.size l s _ hn (h.below hb hB) (Nat.le_trans hB hb.size) (Blk.new w 9 #[.string s]) hm)
  clear h
  go_enter Tryz.func104, Tryz.ntmps104
  go_wp2_with (go_at_call 148; refine HX.out.mono ?_; rintro e w1 ⟨rfl, hb1⟩)
  go_ret
  exact ⟨rfl, below_then hb hb1⟩
end Go.Proofs.YtcghahfboccceaaGreatDoor
