/- Several texts in one: DomA, DomB, RegionM. -/
import Derived.Test.YtkmmlcnoeeaekaaGreatDoorBoxesMakeM3
import Derived.Test.YtkmmlcnoeeaekaaGreatDoorBoxesMakeM5
import Derived.Test.YtkmmlcnoeeaekaaGreatDoorBoxesMakeM2
import Derived.WalkKit
import Derived.OrdersHeld
import Derived.Deep.RegionHeld3
/- Contracts of dom: names, attributes. -/
namespace Go.Proofs.YtkmmlcnoeeaekaaGreatDoor
open Go.RowKit
set_option linter.unusedVariables false
set_option linter.unusedSimpArgs false

theorem ascii_all {l : List UInt8} (h : l.all (fun c => decide (c.toNat < 128)) = true) : ∀ (j : Nat) (b : UInt8), (⟨l.toArray⟩ : ByteArray).data.toList[j]? = some b → b.toNat < 128 := fun j b hj => by
  have := List.all_eq_true.1 h b (List.mem_of_getElem? hj)
  simpa using this
theorem trimN_calls (s : ByteArray) (w : World) (hs : s.size ≤ 400) :
    Calls Tryz.prog 173 #[.string s, .string ⟨signsL.toArray⟩] w fun e w' => e = .returned (.string ⟨(Lib.trimS s.data.toList signsL).toArray⟩) ∧ Below w.heap.size w w' :=
  Any.strings_Trim_laid Tryz.lays160 (by kernel_rfl) s ⟨signsL.toArray⟩ w (by omega) (by decide) (ascii_all (l := signsL) (by decide +kernel))
theorem bytes_none {s : ByteArray} (h : s.size = 0) : s = ⟨#[]⟩ := by
  cases s with | mk d => 
  have : d.size = 0 := h
  rw [Array.eq_empty_of_size_eq_zero this]
theorem u8_at (s : ByteArray) (k : Nat) (h : k < s.size) : s[k] = s.data.toList.getD k 0 := by
  have h' : k < s.data.toList.length := by simpa using h
  have e : s.data.toList.getD k 0 = s.data.toList[k] := by rw [List.getD, List.getElem?_eq_getElem h']; rfl
  rw [e]; rfl
theorem retB {a b : Bool} (h : a = b) : Ending.returned (.bool a) = .returned (.bool b) := by rw [h]
theorem named_calls (first : List UInt8) (s : ByteArray) (w : World) :
    Calls Tryz.prog 146 #[.string s, .string ⟨first.toArray⟩] w fun e w' => e = .returned (.bool (namedP first s)) ∧ Below w.heap.size w w' := by
  obtain ⟨r, hr⟩ : ∃ r, r = namedP first s := ⟨_, rfl⟩
  rw [← hr]
  have HR := Lib.hid hr
  clear hr
  by_cases h0 : s.size = 0
  · obtain rfl := bytes_none h0
    clear h0
    go_enter Tryz.func146, Tryz.ntmps146
    go_wp2_with fail
    go_ret
    exact ⟨retB (by rw [HR.out]; rfl), Below.refl _ _⟩
  · have hne : (!s.toList.isEmpty) = true := by
      have e : s.toList.length = s.size := by rw [ByteArray.toList_eq]; simp
      cases h : s.toList with
      | nil => rw [h] at e; simp at e; omega
      | cons x r => rfl
    have HZ : Hid ((s.size == 0) = false) := by show _ = _; simp [h0]
    by_cases h1 : s.size ≤ 40
    · have hd : decide ((s.size : Int) ≤ 40) = true := by simp; omega
      have H1 : Hid (decide (s.size ≤ 40) = true) := decide_eq_true h1
      have h0' : 0 < s.size := by omega
      have hix := u8_at s 0 h0'
      have hc := fun w => Tryz.strings_IndexByte ⟨first.toArray⟩ ((s.data.toList.getD 0 0).toNat : Int) w
      have e : (((s.data.toList.getD 0 0).toNat : Int).toNat.toUInt8) = s.data.toList.getD 0 0 := by simp
      rw [e] at hc
      have HT := Lib.hid (trimN_calls s w (by omega))
      obtain ⟨c, hcc⟩ : ∃ c, c = s.data.toList.getD 0 0 := ⟨_, rfl⟩
      rw [← hcc] at hc hix
      have HC := Lib.hid hc
      have HCC := Lib.hid hcc
      have HL : Hid ((⟨first.toArray⟩ : ByteArray).data.toList = first) := by show _ = _; simp
      clear hc e hcc h0 h1
      by_cases h2 : 0 ≤ Lib.indexByte first c
      · have hd2 : decide (0 ≤ Lib.indexByte first c) = true := decide_eq_true h2
        rw [HL.out] at HC
        have HR2 : Hid (r = (Lib.trimS s.data.toList signsL).isEmpty) := by show _ = _; rw [HR.out]; simp only [namedP]; rw [← HCC.out, hd2, HZ.out, H1.out]; simp
        obtain ⟨l, hl⟩ : ∃ l, l = Lib.trimS s.data.toList signsL := ⟨_, rfl⟩
        rw [← hl] at HT HR2
        have he : (⟨l.toArray⟩ : ByteArray).toList = l := by rw [ByteArray.toList_eq]
        clear h2 HR hl
        cases l with
        | nil =>
          clear he
          go_enter Tryz.func146, Tryz.ntmps146
          go_wp2_with (first | (go_at_call 172; refine (HC.out _).mono ?_; rintro e w' ⟨rfl, rfl⟩) | (go_at_call 173; refine HT.out.mono ?_; rintro e w' ⟨rfl, hb⟩))
          go_ret
          exact ⟨retB (by rw [HR2.out]; rfl), hb⟩
        | cons x l =>
          obtain ⟨t, ht⟩ : ∃ t : ByteArray, t = ⟨(x :: l).toArray⟩ := ⟨_, rfl⟩
          rw [← ht] at HT he
          have hte : t.toList.isEmpty = false := by rw [he]; rfl
          have hte2 : (!t.toList.isEmpty) = true := by rw [hte]; rfl
          clear ht he
          go_enter Tryz.func146, Tryz.ntmps146
          go_wp2_with (first | (go_at_call 172; refine (HC.out _).mono ?_; rintro e w' ⟨rfl, rfl⟩) | (go_at_call 173; refine HT.out.mono ?_; rintro e w' ⟨rfl, hb⟩))
          go_ret
          exact ⟨retB (by rw [HR2.out]; rfl), hb⟩
      · have hd2 : decide (0 ≤ Lib.indexByte first c) = false := decide_eq_false h2
        rw [HL.out] at HC
        have HR2 : Hid (r = false) := by show _ = _; rw [HR.out]; simp only [namedP]; rw [← HCC.out, hd2]; simp
        clear h2 HR
        go_enter Tryz.func146, Tryz.ntmps146
        go_wp2_with (go_at_call 172; refine (HC.out _).mono ?_; rintro e w' ⟨rfl, rfl⟩)
        go_ret
        exact ⟨retB (by rw [HR2.out]), Below.refl _ _⟩
    · have hd : decide ((s.size : Int) ≤ 40) = false := by simp; omega
      go_enter Tryz.func146, Tryz.ntmps146
      go_wp2_with fail
      go_ret
      refine ⟨retB ?_, Below.refl _ _⟩
      rw [HR.out]; simp [namedP, h1]
theorem name_calls (s : ByteArray) (w : World) :
    Calls Tryz.prog 97 #[.string s] w fun e w' => e = .returned (.bool (nameP s)) ∧ Below w.heap.size w w' := by
  have H := Lib.hid (named_calls lettersL s w)
  go_enter Tryz.func97, Tryz.ntmps97
  go_wp2_with (go_at_call 146; refine H.out.mono ?_; rintro e w' ⟨rfl, hb⟩)
  go_ret
  exact ⟨rfl, hb⟩
theorem attrName_calls (s : ByteArray) (w : World) :
    Calls Tryz.prog 147 #[.string s] w fun e w' => e = .returned (.bool (attrNameP s)) ∧ Below w.heap.size w w' := by
  have H := Lib.hid (named_calls (lettersL ++ [45, 95]) s w)
  go_enter Tryz.func147, Tryz.ntmps147
  go_wp2_with (go_at_call 146; refine H.out.mono ?_; rintro e w' ⟨rfl, hb⟩)
  go_ret
  exact ⟨rfl, hb⟩
end Go.Proofs.YtkmmlcnoeeaekaaGreatDoor
/- Contracts of dom: find an attribute; attributes. -/
namespace Go.Proofs.YtkmmlcnoeeaekaaGreatDoor
open Go.RowKit
set_option linter.unusedVariables false
set_option linter.unusedSimpArgs false

def at2 (l : List (ByteArray × ByteArray)) (k : Nat) : ByteArray × ByteArray := l.getD k (ByteArray.empty, ByteArray.empty)
theorem attr_at {w : World} {B : Nat} {A : Option Addr} {l : List (ByteArray × ByteArray)} (h : Holds w B A (l.flatMap attrF)) {k : Nat} (hk : k < l.length) : ∃ b off, A = some ⟨b, off, none⟩ ∧ b < B ∧ w.cell? ⟨b, off + k * 2, none⟩ = some (.string (at2 l k).1) ∧ w.cell? ⟨b, off + k * 2 + 1, none⟩ = some (.string (at2 l k).2) := by
  obtain ⟨b, off, e, hlt, hc⟩ := Holds.flatL h 2 (fun _ => rfl) (by decide) (ByteArray.empty, ByteArray.empty) hk
  exact ⟨b, off, e, hlt, hc 0 _ rfl, hc 1 _ rfl⟩
theorem find_at {l : List (ByteArray × ByteArray)} {s : ByteArray} {k : Nat} (h : k < l.length) : findP (l.drop k) s k = if (at2 l k).1 = s then (k : Int) else findP (l.drop (k + 1)) s (k + 1 : Nat) := by
  rw [List.drop_eq_getElem_cons h, findP]
  have e : at2 l k = l[k] := by unfold at2; rw [List.getD_eq_getElem?_getD, List.getElem?_eq_getElem h]; rfl
  rw [e]
  rfl
theorem str_eq (n s : ByteArray) : (n.toList == s.toList) = decide (n = s) := by
  by_cases h : n = s
  · subst h; simp
  · rw [decide_eq_false h]
    have : ¬ n.toList = s.toList := fun e => h (by
      rw [ByteArray.toList_eq, ByteArray.toList_eq] at e
      exact ByteArray.ext (Array.toList_inj.1 e))
    simpa using this
theorem findC_calls (n v s : ByteArray) (g : Nat) (w : World) (hS : Blk w g 9 #[.string s]) :
    Calls Tryz.prog 175 #[.agg #[.string n, .string v], .pointer (some ⟨g, 0, none⟩)] w fun e w' => e = .returned (.bool (n.toList == s.toList)) ∧ Below w.heap.size w w' := by
  have c0 := (hS.alloc (.cells #[.string n, .string v] 178)).cell 0
  have c0' : (w.alloc (.cells #[.string n, .string v] 178)).cell? ⟨g, 0, none⟩ = some (.string s) := c0
  have hb := below_alloc (Below.refl w.heap.size w) (.cells #[.string n, .string v] 178)
  clear hS c0
  go_enter Tryz.func175, Tryz.ntmps175
  go_wp2_with fail
  go_ret
  exact ⟨rfl, hb⟩
set_option maxHeartbeats 1000000 in
theorem index_calls (A : Option Addr) (n c B g : Nat) (l : List (ByteArray × ByteArray)) (s : ByteArray) (w : World) (hn : l.length = n) (h : Holds w B A (l.flatMap attrF)) (hB : B ≤ w.heap.size) (hS : Blk w g 9 #[.string s]) (hm : n ≤ 140737488355328) :
    Calls Tryz.prog 174 #[.slice A n c, .func (.func 175) #[] #[.pointer (some ⟨g, 0, none⟩)]] w fun e w' => e = .returned (.int .i64 (findP l s 0)) ∧ Below w.heap.size w w' := by
  subst hn
  have H := Lib.hid h
  have HS := Lib.hid hS
  have HB := Lib.hid hB
  obtain ⟨r, hr⟩ : ∃ r, r = findP l s 0 := ⟨_, rfl⟩
  rw [← hr]
  have HR := Lib.hid hr
  clear h hS hB hr
  go_enter Tryz.func174, Tryz.ntmps174
  go_wp2_with fail
  go_loopw [8] (fun i wr => ∃ k : Nat, k ≤ l.length ∧ i = .int .i64 k ∧ Hid (r = findP (l.drop k) s k) ∧ Below w.heap.size w wr) (fun i _ => l.length - (intOf i).toNat)
  case atStart => exact ⟨0, Nat.zero_le _, rfl, HR.out, Below.refl _ _⟩
  case round =>
    obtain ⟨k, hk, rfl, HK, hbel⟩ := hrel
    by_cases hlt : k < l.length
    · obtain ⟨b, off, rfl, hb, c0, c1⟩ := attr_at (H.out.below hbel HB.out) hlt
      have HF := Lib.hid (find_at (s := s) hlt)
      obtain ⟨x, hx⟩ : ∃ x, x = at2 l k := ⟨_, rfl⟩
      rw [← hx] at HF c0 c1
      obtain ⟨x1, x2⟩ := x
      have HC := Lib.hid (findC_calls x1 x2 s g wr (HS.out.below hbel HS.out.lt))
      have hbs := hbel.size
      clear hx
      by_cases he : x1 = s
      · have hq : (x1.toList == s.toList) = true := by rw [str_eq]; exact decide_eq_true he
        rw [hq] at HC
        have HN : Hid (r = (k : Int)) := by show _ = _; rw [HK.out, HF.out, if_pos he]
        clear he hq
        go_wp2_with (go_at_call 175; refine HC.out.mono ?_; rintro e w1 ⟨rfl, hb1⟩)
        go_ret
        exact ⟨by rw [HN.out]; rfl, below_then hbel hb1⟩
      · have hq : (x1.toList == s.toList) = false := by rw [str_eq]; exact decide_eq_false he
        rw [hq] at HC
        have HN : Hid (r = findP (l.drop (k + 1)) s (k + 1 : Nat)) := by show _ = _; rw [HK.out, HF.out, if_neg he]
        clear he hq
        go_wp2_with (go_at_call 175; refine HC.out.mono ?_; rintro e w1 ⟨rfl, hb1⟩)
        go_round
        case rel => exact ⟨k + 1, by omega, by go_num, HN.out, below_then hbel hb1⟩
        case measure => simp [intOf]; omega
    · have e : k = l.length := by omega
      subst e
      have HN : Hid (r = -1) := by show _ = _; rw [HK.out, List.drop_length]; rfl
      go_wp2_with fail
      go_ret
      exact ⟨by rw [HN.out]; rfl, hbel⟩
theorem find_calls (A : Option Addr) (n c B : Nat) (l : List (ByteArray × ByteArray)) (s : ByteArray) (w : World) (hn : l.length = n) (h : Holds w B A (l.flatMap attrF)) (hB : B ≤ w.heap.size) (hm : n ≤ 140737488355328) :
    Calls Tryz.prog 148 #[.slice A n c, .string s] w fun e w' => e = .returned (.int .i64 (findP l s 0)) ∧ Below w.heap.size w w' := by
  have hb := below_alloc (Below.refl w.heap.size w) (.cells #[.string s] 9)
  have HX := Lib.hid (index_calls A n c B w.heap.size l s _ hn (h.below hb hB) (Nat.le_trans hB hb.size) (Blk.new w 9 #[.string s]) hm)
  clear h
  go_enter Tryz.func148, Tryz.ntmps148
  go_wp2_with (go_at_call 174; refine HX.out.mono ?_; rintro e w1 ⟨rfl, hb1⟩)
  go_ret
  exact ⟨rfl, below_then hb hb1⟩
end Go.Proofs.YtkmmlcnoeeaekaaGreatDoor
/- A region that draws its order: a condition on the world holds as long as one of the listed loads is still to come; behind them stores may come as they like. -/
namespace Go.Proofs.YtkmmlcnoeeaekaaGreatDoor
open Go.RowKit
set_option linter.unusedVariables false
section
variable {P : Program} {ops : Array Oper} {Q : Exit → Act → World → Prop} {md : Region.Mode} {S : World → Prop} {T : List Nat}

/-- Has one of the late operations been done? -/
def lateL (T : List Nat) (listed : Array Bool) : Bool := T.any fun t => listed.getD t false
theorem lateL_set {listed : Array Bool} {i : Nat} (hi : ¬ i ∈ T) : lateL T (listed.setIfInBounds i true) = lateL T listed := by
  unfold lateL
  rw [Bool.eq_iff_iff, List.any_eq_true, List.any_eq_true]
  have e : ∀ t, t ∈ T → (listed.setIfInBounds i true).getD t false = listed.getD t false := fun t ht => getD_set_ne false (fun h => hi (h ▸ ht))
  exact ⟨fun ⟨t, ht, h⟩ => ⟨t, ht, by rwa [e t ht] at h⟩, fun ⟨t, ht, h⟩ => ⟨t, ht, by rwa [e t ht]⟩⟩
/-- Each of T waits for operation i. -/
def lateB (md : Region.Mode) (ops : Array Oper) (T : List Nat) (i : Nat) : Bool := T.all fun j => match ops[j]? with | some o => o.after.any fun e => Region.binds md e && e.on == i | none => true
/-- Whatever order is picked; S holds behind each operation as long as a load is still to come. -/
def anyM (P : Program) (md : Region.Mode) (ops : Array Oper) (Q : Exit → Act → World → Prop) (S : World → Prop) (T : List Nat) : Nat → Array Bool → Act → World → Prop
  | 0, listed, a, w => Region.ready md ops listed = [] ∧ Q .normal a w
  | n + 1, listed, a, w => (Region.ready md ops listed = [] → Q .normal a w) ∧
    ∀ i ∈ Region.ready md ops listed, wpOp P ops Q i (fun a' w' => (lateL T (listed.setIfInBounds i true) = false → S w') ∧ anyM P md ops Q S T n (listed.setIfInBounds i true) a' w') a w
theorem anyM_any : ∀ (n : Nat) (listed : Array Bool) (a : Act) (w : World), anyM P md ops Q S T n listed a w → wpAny P md ops Q n listed a w
  | 0, _, _, _, h => h
  | n + 1, _, _, _, h => ⟨h.1, fun i hi => wpOp_mono (fun a' w' h' => anyM_any n _ a' w' h'.2) (h.2 i hi)⟩
theorem region_M {id : Nat} {a : Act} {w : World} (hm : P.follows .mixedOrders = true) (h : anyM P .any ops Q S T ops.size (Array.replicate ops.size false) a w.drew) : (Code.region id ops true).wp P Q a w :=
  wp_region_any hm (anyM_any _ _ _ _ h)
theorem anyM_one {fuel : Nat} {listed : Array Bool} {a : Act} {w : World} {i : Nat} {o : Oper} (hr : Region.ready md ops listed = [i]) (ho : ops[i]? = some o)
    (h : ∀ K' : Act → World → Prop, Shut (∀ a w, (lateL T (listed.setIfInBounds i true) = false → S w) → anyM P md ops Q S T fuel (listed.setIfInBounds i true) a w → K' a w) → if Region.wanted o (yielded ops a.tmps) = true then Oper.wp P o a w K' Q else K' (a.put o.dst undef) w) :
    anyM P md ops Q S T (fuel + 1) listed a w := by
  refine And.intro (fun h0 => by rw [h0] at hr; cases hr) (fun j hj => ?_)
  rw [hr] at hj
  obtain rfl : j = i := by simpa using hj
  exact wpOp_step ho fun K' hK => h K' (fun a w hS hA => hK a w ⟨hS, hA⟩)
theorem anyM_two {fuel : Nat} {listed : Array Bool} {a : Act} {w : World} {i j : Nat} {o o' : Oper} (hr : Region.ready md ops listed = [i, j]) (ho : ops[i]? = some o) (ho' : ops[j]? = some o')
    (h : ∀ K' : Act → World → Prop, Shut (∀ a w, (lateL T (listed.setIfInBounds i true) = false → S w) → anyM P md ops Q S T fuel (listed.setIfInBounds i true) a w → K' a w) → if Region.wanted o (yielded ops a.tmps) = true then Oper.wp P o a w K' Q else K' (a.put o.dst undef) w)
    (h' : ∀ K' : Act → World → Prop, Shut (∀ a w, (lateL T (listed.setIfInBounds j true) = false → S w) → anyM P md ops Q S T fuel (listed.setIfInBounds j true) a w → K' a w) → if Region.wanted o' (yielded ops a.tmps) = true then Oper.wp P o' a w K' Q else K' (a.put o'.dst undef) w) :
    anyM P md ops Q S T (fuel + 1) listed a w := by
  refine And.intro (fun h0 => by rw [h0] at hr; cases hr) (fun k hk => ?_)
  rw [hr] at hk
  rcases (by simpa using hk : k = i ∨ k = j) with rfl | rfl
  · exact wpOp_step ho fun K' hK => h K' (fun a w hS hA => hK a w ⟨hS, hA⟩)
  · exact wpOp_step ho' fun K' hK => h' K' (fun a w hS hA => hK a w ⟨hS, hA⟩)
theorem anyM_done {listed : Array Bool} {a : Act} {w : World} (hr : Region.ready md ops listed = []) (h : Q .normal a w) : ∀ n, anyM P md ops Q S T n listed a w
  | 0 => ⟨hr, h⟩
  | n + 1 => ⟨fun _ => h, fun i hi => by rw [hr] at hi; cases hi⟩
theorem anyM_first {i : Nat} {oi : Oper} {v : Value} {S' : World → Prop} {C : Array Bool → Prop} (hi : ops[i]? = some oi) (hs : Region.noSelect ops = true) (hiT : ¬ i ∈ T)
    (hS' : ∀ (listed : Array Bool) (w : World), C listed → (lateL T listed = false → S w) → S' w)
    (hC : ∀ (listed : Array Bool) (j : Nat) (oj : Oper), ops[j]? = some oj → (∀ e ∈ oj.after, Region.binds md e = true → e.on ≠ i) → C listed → C (listed.setIfInBounds j true))
    (hQ : ∀ c a w, Q (.panic c) (a.put oi.dst v) w → Q (.panic c) a w) : ∀ (n : Nat) (listed : Array Bool) (a : Act) (w : World),
      (∀ j oj, ops[j]? = some oj → j ≠ i → listed.getD j true = false → (∀ e ∈ oj.after, Region.binds md e = true → e.on ≠ i) → oi.apart ops oj = true) →
      i ∈ Region.ready md ops listed → YieldsIf P ops S' oi v a → C listed → (lateL T listed = false → S w) → anyM P md ops Q S T n (listed.setIfInBounds i true) (a.put oi.dst v) w → anyM P md ops Q S T (n + 1) listed a w := by
  intro n
  induction n with
  | zero =>
    intro listed a w _ hr hy hc hS H
    refine ⟨fun h => (by rw [h] at hr; cases hr), fun j hj => ?_⟩
    by_cases e : j = i
    · subst e; exact hy.wpOp hi (hS' _ _ hc hS) ⟨fun h => hS (by rwa [lateL_set hiT] at h), H⟩
    · have h1 := ready_mono hj e
      rw [H.1] at h1; cases h1
  | succ n ih =>
    intro listed a w hfree hr hy hc hS H
    refine ⟨fun h => (by rw [h] at hr; cases hr), fun j hj => ?_⟩
    by_cases e : j = i
    · subst e; exact hy.wpOp hi (hS' _ _ hc hS) ⟨fun h => hS (by rwa [lateL_set hiT] at h), H⟩
    · obtain ⟨hun, oj, hoj, hall⟩ := mem_ready.1 hj
      have hiu := (mem_ready.1 hr).1
      have hno : ∀ d ∈ oj.after, Region.binds md d = true → d.on ≠ i := fun d hd hb he => by
        have h1 := hall d hd hb
        rw [he] at h1
        rcases Nat.lt_or_ge i listed.size with h' | h'
        · simp [h'] at hiu h1; rw [hiu] at h1; cases h1
        · simp [Array.getElem?_eq_none h'] at h1
      have h2 := wpOp_putIf hoj (hfree j oj hoj e hun hno) (fun cs b => Region.noSelect_spec hs i oi cs b hi) (fun cs b => Region.noSelect_spec hs j oj cs b hoj) hQ hy (H.2 j (ready_mono hj e))
      have hfree' : ∀ k ok, ops[k]? = some ok → k ≠ i → (listed.setIfInBounds j true).getD k true = false → (∀ d ∈ ok.after, Region.binds md d = true → d.on ≠ i) → oi.apart ops ok = true := fun k ok hk hki hku hkn => by
        refine hfree k ok hk hki ?_ hkn
        by_cases hjk : j = k
        · subst hjk; exact hun
        · rw [getD_set_ne true hjk] at hku; exact hku
      refine wpOp_mono (fun a' w' h3 => ?_) h2
      have hn : lateL T (listed.setIfInBounds j true) = false → S w' := fun h => h3.2.1 (by rw [Array.setIfInBounds_comm _ _ (Ne.symm e), lateL_set hiT]; exact h)
      refine ⟨hn, ih (listed.setIfInBounds j true) a' w' hfree' (ready_mono hr (Ne.symm e)) h3.1 (hC _ _ _ hoj hno hc) hn ?_⟩
      rw [Array.setIfInBounds_comm _ _ e]
      exact h3.2.2
/-- A load under S, that every late operation waits for. -/
theorem anyM_take {i : Nat} {oi : Oper} {v : Value} {fuel : Nat} {listed : Array Bool} {a : Act} {w : World} (hi : ops[i]? = some oi)
    (hb : (Region.noSelect ops && Region.free md ops listed i && (Region.ready md ops listed).contains i && lateB md ops T i && !lateL T listed && !T.contains i) = true)
    (hQ : ∀ c a w, Q (.panic c) (a.put oi.dst v) w → Q (.panic c) a w) (hy : YieldsIf P ops S oi v a) (hS : S w)
    (h : anyM P md ops Q S T fuel (listed.setIfInBounds i true) (a.put oi.dst v) w) : anyM P md ops Q S T (fuel + 1) listed a w := by
  simp only [Bool.and_eq_true, Bool.not_eq_true'] at hb
  obtain ⟨⟨⟨⟨⟨hs, hf⟩, hr⟩, hT⟩, hl⟩, hi'⟩ := hb
  refine anyM_first (S' := S) (C := fun l => lateL T l = false) hi hs (by simpa using hi') (fun l w hc h => h hc) (fun l j oj hoj hno hc => ?_) hQ fuel listed a w (Region.free_spec hi hf) (by simpa using hr) hy hl (fun _ => hS) h
  have hjT : ¬ j ∈ T := fun hm => by
    have h1 := List.all_eq_true.1 hT j hm
    rw [hoj] at h1
    obtain ⟨d, hd, hp⟩ := Array.any_eq_true'.1 h1
    rw [Bool.and_eq_true, beq_iff_eq] at hp
    exact hno d hd hp.1 hp.2
  rw [lateL_set hjT]; exact hc
/-- An operation that yields in every world. -/
theorem anyM_free {i : Nat} {oi : Oper} {v : Value} {fuel : Nat} {listed : Array Bool} {a : Act} {w : World} (hi : ops[i]? = some oi)
    (hb : (Region.noSelect ops && Region.free md ops listed i && (Region.ready md ops listed).contains i && !T.contains i) = true)
    (hQ : ∀ c a w, Q (.panic c) (a.put oi.dst v) w → Q (.panic c) a w) (hy : YieldsIf P ops (fun _ => True) oi v a) (hS : lateL T listed = false → S w)
    (h : anyM P md ops Q S T fuel (listed.setIfInBounds i true) (a.put oi.dst v) w) : anyM P md ops Q S T (fuel + 1) listed a w := by
  simp only [Bool.and_eq_true, Bool.not_eq_true'] at hb
  obtain ⟨⟨⟨hs, hf⟩, hr⟩, hi'⟩ := hb
  exact anyM_first (S' := fun _ => True) (C := fun _ => True) hi hs (by simpa using hi') (fun _ _ _ _ => trivial) (fun _ _ _ _ _ _ => trivial) hQ fuel listed a w (Region.free_spec hi hf) (by simpa using hr) hy trivial hS h
/-- The same, behind a late operation. -/
theorem anyM_freeL {i : Nat} {oi : Oper} {v : Value} {fuel : Nat} {listed : Array Bool} {a : Act} {w : World} (hi : ops[i]? = some oi)
    (hb : (Region.noSelect ops && Region.free md ops listed i && (Region.ready md ops listed).contains i && !T.contains i && lateL T listed) = true)
    (hQ : ∀ c a w, Q (.panic c) (a.put oi.dst v) w → Q (.panic c) a w) (hy : YieldsIf P ops (fun _ => True) oi v a)
    (h : anyM P md ops Q S T fuel (listed.setIfInBounds i true) (a.put oi.dst v) w) : anyM P md ops Q S T (fuel + 1) listed a w := by
  rw [Bool.and_eq_true] at hb
  exact anyM_free hi hb.1 hQ hy (fun h => by rw [hb.2] at h; cases h) h
theorem late_no {C : Prop} {b : Bool} (h : b = false) (h' : b = true) : C := by rw [h'] at h; cases h
end
end Go.Proofs.YtkmmlcnoeeaekaaGreatDoor
