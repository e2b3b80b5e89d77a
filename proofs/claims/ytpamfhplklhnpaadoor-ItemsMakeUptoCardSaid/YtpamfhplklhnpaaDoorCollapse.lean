/- Contracts of white.Collapse and of the reference's Collapse. -/
import Derived.Test.YtpamfhplklhnpaaDoorShelf
import Derived.Test.YtpamfhplklhnpaaDoorMem
import Derived.Test.YtpamfhplklhnpaaDoorRows
import Derived.WalkKit
import Derived.WalkSpells
import Derived.WalkLawsBesides
import Derived.Lib.Hide
import Derived.Outline
import Derived.Deep.QuietTactic
import Derived.BigQuiet
namespace Go.Proofs.YtpamfhplklhnpaaDoor
open Go.RowKit
set_option linter.unusedVariables false

/-- A blank. -/
def isB (c : UInt8) : Bool := c == 32 || c == 9 || c == 10 || c == 12 || c == 13
theorem isB_all : ∀ i : Fin 256, decide (0 ≤ Lib.indexByte [32, 9, 10, 12, 13] (UInt8.ofNat i.val)) = isB (UInt8.ofNat i.val) := by decide +kernel
theorem isB_lib (c : UInt8) : decide (0 ≤ Lib.indexByte [32, 9, 10, 12, 13] c) = isB c := by
  have h := isB_all ⟨c.toNat, c.toNat_lt⟩
  simpa using h
theorem ret_bool {a b : Bool} (h : a = b) : Ending.returned (.bool a) = .returned (.bool b) := by rw [h]
set_option maxRecDepth 100000 in
set_option maxHeartbeats 400000 in
theorem isBlank_calls (c : UInt8) (w : World) :
    Calls Tryd.prog 86 #[.int .u8 c.toNat] w fun e w' => e = .returned (.bool (isB c)) ∧ w = w' := by
  have hc := fun w => Tryd.strings_IndexByte ⟨#[32, 9, 10, 12, 13]⟩ (c.toNat : Int) w
  have e : ((c.toNat : Int).toNat.toUInt8) = c := by simp
  rw [e] at hc
  have HC := Lib.hid hc
  clear hc e
  go_enter Tryd.func86, Tryd.ntmps86
  go_wp2_with (go_at_call 93; refine (HC.out _).mono ?_; rintro e w' ⟨rfl, rfl⟩)
  go_ret
  exact ⟨ret_bool (isB_lib c), rfl⟩

/-- A list of bytes as cells. -/
def u8s (l : List UInt8) : List Value := l.map fun c => .int .u8 c.toNat
theorem Holds.u8s {w : World} {B : Nat} {A : Option Addr} {l : List UInt8} (h : Holds w B A (u8s l)) {k : Nat} (hk : k < l.length) :
    ∃ b off, A = some ⟨b, off, none⟩ ∧ b < B ∧ w.cell? ⟨b, off + k, none⟩ = some (.int .u8 (l[k]).toNat) := by
  obtain ⟨b, off, e, hlt, hc⟩ := h (by simp [Go.Proofs.YtpamfhplklhnpaaDoor.u8s]; omega)
  refine ⟨b, off, e, hlt, ?_⟩
  rw [hc k (by simpa [Go.Proofs.YtpamfhplklhnpaaDoor.u8s] using hk)]
  simp [Go.Proofs.YtpamfhplklhnpaaDoor.u8s, List.getD, hk]
set_option maxHeartbeats 400000 in
theorem hasByte_calls (A : Option Addr) (n cap B : Nat) (l : List UInt8) (c : UInt8) (w : World) (hn : l.length = n) (h : Holds w B A (u8s l)) (hm : n ≤ 9223372036854775807) :
    Calls Tryd.prog 61 #[.slice A n cap, .int .u8 c.toNat] w fun e w' => e = .returned (.bool (l.contains c)) ∧ w = w' := by
  subst hn
  go_enter Tryd.func61, Tryd.ntmps61
  go_wp2
  go_loop [9] (fun i => ∃ k : Nat, k ≤ l.length ∧ i = .int .i64 k ∧ Hid (∀ j (hj : j < l.length), j < k → ¬ l[j] = c)) (fun i => l.length - (intOf i).toNat)
  case atStart => exact ⟨0, Nat.zero_le _, rfl, fun j _ hj => absurd hj (by omega)⟩
  case round =>
    obtain ⟨k, hk, rfl, H⟩ := hrel
    by_cases hlt : k < l.length
    · obtain ⟨b, off, rfl, hb, hc⟩ := h.u8s hlt
      obtain ⟨z, hz⟩ : ∃ z, z = l[k] := ⟨_, rfl⟩
      rw [← hz] at hc
      have HZ := Lib.hid hz
      clear hz h
      by_cases hzc : z = c
      · subst hzc
        go_wp2
        go_ret
        exact ⟨ret_bool (by rw [HZ.out]; simp), rfl⟩
      · have hne : ((z.toNat : Int) == (c.toNat : Int)) = false := by
          simp only [beq_eq_false_iff_ne, ne_eq]
          intro e
          exact hzc (UInt8.toNat_inj.1 (by omega))
        have hne' : ((c.toNat : Int) == (z.toNat : Int)) = false := by
          simp only [beq_eq_false_iff_ne, ne_eq]
          intro e
          exact hzc (UInt8.toNat_inj.1 (by omega))
        go_wp2
        go_round
        case rel =>
          refine ⟨k + 1, by omega, by go_num, fun j hj hjk => ?_⟩
          by_cases e : j = k
          · subst e; rw [← HZ.out]; exact hzc
          · exact H.out j hj (by omega)
        case measure => simp [intOf]; omega
    · have e : k = l.length := by omega
      subst e
      clear h
      go_wp2
      go_ret
      refine ⟨ret_bool ?_, rfl⟩
      have : ¬ c ∈ l := fun hc => by
        obtain ⟨j, hj, e⟩ := List.mem_iff_getElem.1 hc
        exact H.out j hj hj e
      simpa using this
set_option maxHeartbeats 400000 in
theorem rblank_calls (c : UInt8) (w : World) :
    Calls Tryd.prog 43 #[.int .u8 c.toNat] w fun e w' => e = .returned (.bool (isB c)) ∧ Below w.heap.size w w' := by
  have hc := hasByte_calls (some ⟨w.heap.size, 0, none⟩) 5 5 (w.heap.size + 1) [32, 9, 10, 12, 13] c (w.alloc (.cells #[.int .u8 32, .int .u8 9, .int .u8 10, .int .u8 12, .int .u8 13] 5)) rfl (Holds.new w _ _) (by omega)
  have e : [32, 9, 10, 12, 13].contains c = isB c := by simp [isB, List.contains, List.elem, Bool.or_assoc]; cases c == 32 <;> cases c == 9 <;> cases c == 10 <;> cases c == 12 <;> cases c == 13 <;> rfl
  rw [e] at hc
  have HC := Lib.hid hc
  clear hc e
  go_enter Tryd.func43, Tryd.ntmps43
  go_wp2_with (go_at_call 61; refine HC.out.mono ?_; rintro e w' ⟨rfl, rfl⟩)
  go_ret
  exact ⟨rfl, below_alloc (Below.refl _ _) _⟩

/-- P305: blanks that are collapsed. -/
def colStep (s : List UInt8 × Bool) (c : UInt8) : List UInt8 × Bool := if isB c then (if s.2 then s else (s.1 ++ [32], true)) else (s.1 ++ [c], false)
def col (l : List UInt8) (b : Bool) : List UInt8 × Bool := l.foldl colStep ([], b)
theorem col_snoc (l : List UInt8) (b : Bool) (c : UInt8) : col (l ++ [c]) b = colStep (col l b) c := by simp [col]
theorem col_len (l : List UInt8) (b : Bool) : (col l b).1.length ≤ l.length := by
  have h : ∀ (l : List UInt8) (s : List UInt8 × Bool), (l.foldl colStep s).1.length ≤ s.1.length + l.length := by
    intro l
    induction l with
    | nil => intro s; simp
    | cons c l ih =>
      intro s
      have h1 := ih (colStep s c)
      have h2 : (colStep s c).1.length ≤ s.1.length + 1 := by unfold colStep; split <;> (try split) <;> simp
      simp only [List.foldl_cons, List.length_cons]
      omega
  simpa [col] using h l ([], b)
def bytesTo (s : ByteArray) (k : Nat) : List UInt8 := s.data.toList.take k
theorem bytes_snoc (s : ByteArray) (k : Nat) (h : k < s.size) : bytesTo s (k + 1) = bytesTo s k ++ [s[k]] := by
  unfold bytesTo
  rw [List.take_succ_eq_append_getElem (by simpa using h)]; rfl
theorem u8s_snoc (l : List UInt8) (c : UInt8) : u8s (l ++ [c]) = u8s l ++ [.int .u8 c.toNat] := by simp [u8s]
theorem keeps_calls (m : Int) (w : World) :
    Calls Tryd.prog 71 #[.int .i64 m] w fun e w' => e = .returned (.bool (m == 1 || m == 3)) ∧ w = w' := by
  go_enter Tryd.func71, Tryd.ntmps71
  go_wp2
  all_goals
    go_ret
    refine ⟨ret_bool ?_, rfl⟩
    first | rfl | (simp [*]; done)
theorem fold_push (l : List UInt8) : ∀ r : ByteArray, (l.map fun c => ((c.toNat : Nat) : Int)).foldl (fun r n => r.push (UInt8.ofNat n.toNat)) r = ⟨r.data ++ l.toArray⟩ := by
  induction l with
  | nil => intro r; cases r; simp
  | cons c l ih =>
    intro r
    rw [List.map_cons, List.foldl_cons, ih]
    congr 1
    apply Array.ext'
    simp [ByteArray.push]
/-- A string out of bytes of the call's own. -/
theorem run_string_own (w : World) (base : Nat) (v : Value) (n : Nat) (l : List UInt8) (h : w.ownsRow base 5 1 v n (u8s l)) :
    (convert 99 9 v).run Tryd.prog w = .ok (.string ⟨l.toArray⟩) w := by
  rcases h.2 with ⟨rfl, rfl⟩ | ⟨g, cap, cur, rfl, _, hh, _⟩
  · have hl : l = [] := by
      have := h.1
      simp [u8s] at this
      exact this
    subst hl
    rw [run_convert_bytes_string w 99 9 5 none 0 0 Tryd.underlying99 Tryd.underlying5 Tryd.underlying9]
    rfl
  · rw [run_convert_bytes_string w 99 9 5 _ _ _ Tryd.underlying99 Tryd.underlying5 Tryd.underlying9]
    have hn : n = l.length := by have := h.1; simp [u8s] at this; omega
    have hl : (loadCells ⟨g, 0, none⟩ n).run Tryd.prog w = .ok ((l.map fun c => ((c.toNat : Nat) : Int)).map (Value.int .u8)).toArray w := by
      have := run_loadCells_list (P := Tryd.prog) w ⟨g, 0, none⟩ (u8s l) (h.cells rfl)
      have e : (l.map fun c => ((c.toNat : Nat) : Int)).map (Value.int .u8) = u8s l := by simp [u8s]
      rw [e, hn]
      simpa [u8s] using this
    rw [run_bytesToString w _ _ _ _ hl, fold_push]
    simp [ByteArray.empty, ByteArray.emptyWithCapacity]
    rfl
theorem info_u8 : (Tryd.prog.info? 5).map (fun i => (i.zero, i.size, i.bytes)) = some (some (.int .u8 0), 1, 1) := by kernel_rfl
set_option maxHeartbeats 800000 in
theorem collapse_calls (s : ByteArray) (m : Int) (b : Bool) (w : World) (hs : s.size ≤ 140737488351232) (h1 : ¬ m = 1) (h3 : ¬ m = 3) :
    Calls Tryd.prog 70 #[.string s, .int .i64 m, .bool b] w fun e w' => e = .returned (.tuple #[.string ⟨(col s.data.toList b).1.toArray⟩, .bool (col s.data.toList b).2]) ∧ Below w.heap.size w w' := by
  obtain ⟨i0, hi, hz0, hz1, hz2⟩ := info_parts info_u8
  have hk := keeps_calls m
  have e : (m == 1 || m == 3) = false := by simp [h1, h3]
  rw [e] at hk
  have HK := Lib.hid hk
  clear hk e
  go_enter Tryd.func70, Tryd.ntmps70
  go_wp2_with (go_at_call 71; refine (HK.out _).mono ?_; rintro e w' ⟨rfl, rfl⟩)
  go_loopw [2, 8, 16] (fun bl v i wr => ∃ k : Nat, k ≤ s.size ∧ i = .int .i64 k ∧ bl = .bool (col (bytesTo s k) b).2 ∧ wr.ownsRow w.heap.size 5 1 v (col (bytesTo s k) b).1.length (u8s (col (bytesTo s k) b).1) ∧ Below w.heap.size w wr) (fun _ _ i _ => s.size - (intOf i).toNat)
  case atStart => exact ⟨0, Nat.zero_le _, rfl, rfl, World.ownsRow_nil _ _ _ _, Below.refl _ _⟩
  case round =>
    obtain ⟨k, hk, rfl, rfl, hown, hbel⟩ := hrel
    have hlen : (col (bytesTo s k) b).1.length ≤ k := by
      have := col_len (bytesTo s k) b
      have h2 : (bytesTo s k).length ≤ k := by unfold bytesTo; exact List.length_take_le _ _
      omega
    by_cases hlt : k < s.size
    · have HS : Hid (col (bytesTo s (k + 1)) b = colStep (col (bytesTo s k) b) s[k]) := by rw [bytes_snoc s k hlt]; exact col_snoc _ _ _
      obtain ⟨out, bl, hst⟩ : ∃ out bl, col (bytesTo s k) b = (out, bl) := ⟨_, _, rfl⟩
      rw [hst] at HS hown hlen
      simp only [hst]
      clear hst
      have hw := hbel.size
      cases hB : isB s[k] with
      | false =>
        have HS' : Hid (col (bytesTo s (k + 1)) b = (out ++ [s[k]], false)) := by show col _ _ = _; rw [HS.out]; simp [colStep, hB]
        have HB : ∀ w, Calls Tryd.prog 86 #[.int .u8 (s[k]).toNat] w fun e w' => e = .returned (.bool false) ∧ w = w' := fun w => by have := isBlank_calls s[k] w; rw [hB] at this; exact this
        have HB' := Lib.hid HB
        clear HB hB HS HK
        go_wp2_with (first | (go_at_call 86; refine (HB'.out _).mono ?_; rintro e w' ⟨rfl, rfl⟩) | (at_builtin; refine wpList_append_own _ rfl _ _ 99 rfl w.heap.size 5 i0 (.int .u8 0) 1 1 Tryd.underlying99 hi hz0 hz1 hz2 rfl (by decide) _ _ _ rfl (hown.alloc _) ⟨wr.heap.size, 0, none⟩ 1 1 [.int .u8 (s[k]).toNat] rfl rfl (cell_one_new _ _ _) (fun u hu => by simp at hu; subst hu; rfl) (by unfold maxLen; omega) (by omega) (by simp; omega) ?_; intro v' w1 hown1 hg _))
        have hb1 := below_grown hbel hown hg
        go_roundw
        case rel => exact ⟨k + 1, by omega, by go_num, by rw [HS'.out], by rw [HS'.out]; simpa [u8s_snoc] using hown1, hb1⟩
        case measure => simp [intOf]; omega
      | true =>
        have HB : ∀ w, Calls Tryd.prog 86 #[.int .u8 (s[k]).toNat] w fun e w' => e = .returned (.bool true) ∧ w = w' := fun w => by have := isBlank_calls s[k] w; rw [hB] at this; exact this
        have HB' := Lib.hid HB
        cases bl with
        | true =>
          have HS' : Hid (col (bytesTo s (k + 1)) b = (out, true)) := by show col _ _ = _; rw [HS.out]; simp [colStep, hB]
          clear HB hB HS HK
          go_wp2_with (first | (go_at_call 86; refine (HB'.out _).mono ?_; rintro e w' ⟨rfl, rfl⟩))
          go_roundw
          case rel => exact ⟨k + 1, by omega, by go_num, by rw [HS'.out], by rw [HS'.out]; exact hown, hbel⟩
          case measure => simp [intOf]; omega
        | false =>
          have HS' : Hid (col (bytesTo s (k + 1)) b = (out ++ [32], true)) := by show col _ _ = _; rw [HS.out]; simp [colStep, hB]
          clear HB hB HS HK
          go_wp2_with (first | (go_at_call 86; refine (HB'.out _).mono ?_; rintro e w' ⟨rfl, rfl⟩) | (at_builtin; refine wpList_append_own _ rfl _ _ 99 rfl w.heap.size 5 i0 (.int .u8 0) 1 1 Tryd.underlying99 hi hz0 hz1 hz2 rfl (by decide) _ _ _ rfl (hown.alloc _) ⟨wr.heap.size, 0, none⟩ 1 1 [.int .u8 32] rfl rfl (cell_one_new _ _ _) (fun u hu => by simp at hu; subst hu; rfl) (by unfold maxLen; omega) (by omega) (by simp; omega) ?_; intro v' w1 hown1 hg _))
          have hb1 := below_grown hbel hown hg
          go_roundw
          case rel => exact ⟨k + 1, by omega, by go_num, by rw [HS'.out], by rw [HS'.out]; simpa [u8s_snoc] using hown1, hb1⟩
          case measure => simp [intOf]; omega
    · have e : bytesTo s k = s.data.toList := by unfold bytesTo; exact List.take_of_length_le (by simp; omega)
      rw [e] at hown hlen ⊢
      have hcv := run_string_own wr _ _ _ _ hown
      clear HK hown e
      go_wp2
      go_ret2
      exact ⟨rfl, hbel⟩

theorem ret_sb {a b : ByteArray} {c d : Bool} (h : a = b) (h' : c = d) : Ending.returned (.tuple #[.string a, .bool c]) = .returned (.tuple #[.string b, .bool d]) := by rw [h, h']
theorem u8_eq (c d : UInt8) : ((c.toNat : Int) == (d.toNat : Int)) = (c == d) := by
  rw [Bool.eq_iff_iff]
  simp only [beq_iff_eq]
  constructor
  · intro h; exact UInt8.toNat_inj.1 (by omega)
  · intro h; rw [h]
theorem byteArray_toList (l : List UInt8) : (⟨l.toArray⟩ : ByteArray).toList = l := by
  rw [ByteArray.toList_eq]
theorem col_end (l : List UInt8) (b : Bool) : ((col l b).1 = [] → (col l b).2 = b) ∧ (∀ o c, (col l b).1 = o ++ [c] → (col l b).2 = (c == 32)) := by
  have h : ∀ (l : List UInt8) (s : List UInt8 × Bool), ((s.1 = [] → s.2 = b) ∧ (∀ o c, s.1 = o ++ [c] → s.2 = (c == 32))) → (((l.foldl colStep s).1 = [] → (l.foldl colStep s).2 = b) ∧ (∀ o c, (l.foldl colStep s).1 = o ++ [c] → (l.foldl colStep s).2 = (c == 32))) := by
    intro l
    induction l with
    | nil => intro s h; exact h
    | cons c l ih =>
      intro s hs
      refine ih (colStep s c) ?_
      unfold colStep
      split
      · split
        · exact hs
        · refine ⟨fun h => by simp at h, fun o d h => ?_⟩
          have := (List.append_inj' h rfl).2
          simp at this
          simp [← this]
      · rename_i hc
        refine ⟨fun h => by simp at h, fun o d h => ?_⟩
        have := (List.append_inj' h rfl).2
        simp at this
        subst this
        have : ¬ c = 32 := fun e => hc (by rw [e]; rfl)
        simp [this]
  exact h l ([], b) ⟨fun _ => rfl, fun o c h => by simp at h⟩
theorem extract_one (s : ByteArray) (k : Nat) (h : k < s.size) : s.extract k (k + 1) = ⟨#[s[k]]⟩ := by
  apply ByteArray.ext
  rw [ByteArray.data_extract]
  apply Array.ext
  · have : k < s.data.size := h
    simp; omega
  · intro i h1 h2
    have : i = 0 := by simp at h2; omega
    subst this
    simp
    rfl
theorem add_one (out : List UInt8) (s : ByteArray) (k : Nat) (h : k < s.size) : (⟨out.toArray⟩ : ByteArray) ++ s.extract k (k + 1) = ⟨(out ++ [s[k]]).toArray⟩ := by
  rw [extract_one s k h]
  apply ByteArray.ext
  simp
theorem add_sp (out : List UInt8) : (⟨out.toArray⟩ : ByteArray) ++ ⟨#[32]⟩ = ⟨(out ++ [32]).toArray⟩ := by
  apply ByteArray.ext
  simp
theorem ret_string {a b : ByteArray} (h : a = b) : Value.string a = Value.string b := by rw [h]
theorem rkeeps_calls (m : Int) (w : World) :
    Calls Tryd.prog 32 #[.int .i64 m] w fun e w' => e = .returned (.bool (m == 1 || m == 3)) ∧ w = w' := by
  go_enter Tryd.func32, Tryd.ntmps32
  go_wp2
  all_goals
    go_ret
    refine ⟨ret_bool ?_, rfl⟩
    first | rfl | (simp [*]; done)
theorem col_blank (s : ByteArray) (b : Bool) (k : Nat) (h : k < s.size) : (col (bytesTo s (k + 1)) b).2 = isB s[k] := by
  rw [bytes_snoc s k h, col_snoc]
  unfold colStep
  split
  · rename_i e
    split
    · rename_i e2; rw [e2, e]
    · rw [e]
  · rename_i e; simp at e; rw [e]
set_option maxHeartbeats 800000 in
theorem rcollapse_calls (s : ByteArray) (m : Int) (b : Bool) (w : World) (hs : s.size ≤ 140737488351232) (h1 : ¬ m = 1) (h3 : ¬ m = 3) :
    Calls Tryd.prog 31 #[.string s, .int .i64 m, .bool b] w fun e w' => e = .returned (.tuple #[.string ⟨(col s.data.toList b).1.toArray⟩, .bool (col s.data.toList b).2]) ∧ Below w.heap.size w w' := by
  have hk := rkeeps_calls m
  have e : (m == 1 || m == 3) = false := by simp [h1, h3]
  rw [e] at hk
  have HK := Lib.hid hk
  clear hk e
  go_enter Tryd.func31, Tryd.ntmps31
  go_wp2_with (go_at_call 32; refine (HK.out _).mono ?_; rintro e w' ⟨rfl, rfl⟩)
  go_loopw [8, 16] (fun v i wr => ∃ k : Nat, k ≤ s.size ∧ i = .int .i64 k ∧ v = .string ⟨(col (bytesTo s k) b).1.toArray⟩ ∧ Below w.heap.size w wr) (fun _ i _ => s.size - (intOf i).toNat)
  case atStart => exact ⟨0, Nat.zero_le _, rfl, rfl, Below.refl _ _⟩
  case round =>
    obtain ⟨k, hk, rfl, rfl, hbel⟩ := hrel
    have hlen : (col (bytesTo s k) b).1.length ≤ k := by
      have := col_len (bytesTo s k) b
      have h2 : (bytesTo s k).length ≤ k := by unfold bytesTo; exact List.length_take_le _ _
      omega
    by_cases hlt : k < s.size
    · have HS : Hid (col (bytesTo s (k + 1)) b = colStep (col (bytesTo s k) b) s[k]) := by rw [bytes_snoc s k hlt]; exact col_snoc _ _ _
      have hw := hbel.size
      clear HK
      rcases Nat.eq_zero_or_pos k with hk0 | hk0
      · subst hk0
        have e0 : col (bytesTo s 0) b = ([], b) := rfl
        rw [e0] at HS
        simp only [e0]
        clear e0 hlen
        cases hB : isB s[0] with
        | false =>
          have HS' : Hid (col (bytesTo s (0 + 1)) b = ([s[0]], false)) := by show col _ _ = _; rw [HS.out]; simp [colStep, hB]
          clear HS
          go_wp2_with (go_at_call 43; refine (rblank_calls _ _).mono ?_; rintro e w1 ⟨rfl, hb1⟩; have hbel := below_then hbel hb1)
          go_roundw
          case rel => exact ⟨0 + 1, by omega, by go_num, by rw [HS'.out]; exact ret_string (add_one [] s 0 hlt), by assumption⟩
          case measure => simp [intOf]; omega
        | true =>
          cases b with
          | true =>
            have HS' : Hid (col (bytesTo s (0 + 1)) true = ([], true)) := by show col _ _ = _; rw [HS.out]; simp [colStep, hB]
            clear HS
            go_wp2_with (go_at_call 43; refine (rblank_calls _ _).mono ?_; rintro e w1 ⟨rfl, hb1⟩; have hbel := below_then hbel hb1)
            go_roundw
            case rel => exact ⟨0 + 1, by omega, by go_num, by rw [HS'.out], by assumption⟩
            case measure => simp [intOf]; omega
          | false =>
            have HS' : Hid (col (bytesTo s (0 + 1)) false = ([32], true)) := by show col _ _ = _; rw [HS.out]; simp [colStep, hB]
            clear HS
            go_wp2_with (go_at_call 43; refine (rblank_calls _ _).mono ?_; rintro e w1 ⟨rfl, hb1⟩; have hbel := below_then hbel hb1)
            go_roundw
            case rel => exact ⟨0 + 1, by omega, by go_num, by rw [HS'.out]; exact ret_string (add_sp []), by assumption⟩
            case measure => simp [intOf]; omega
      · obtain ⟨j, rfl⟩ : ∃ j, k = j + 1 := ⟨k - 1, by omega⟩
        have HBL := Lib.hid (col_blank s b j (by omega))
        have HST : Hid (col (bytesTo s (j + 1)) b = colStep (col (bytesTo s j) b) s[j]) := by rw [bytes_snoc s j (by omega)]; exact col_snoc _ _ _
        cases hJ : isB s[j] with
        | true =>
          obtain ⟨out, bl, hst⟩ : ∃ out bl, col (bytesTo s (j + 1)) b = (out, bl) := ⟨_, _, rfl⟩
          have hbl : bl = true := by have := HBL.out; rw [hst, hJ] at this; exact this
          subst hbl
          rw [hst] at HS hlen
          simp only [hst]
          clear hst HBL HST
          simp only at hlen
          have hsz : (⟨out.toArray⟩ : ByteArray).size = out.length := by simp [ByteArray.size]
          cases hB : isB s[j + 1] with
          | false =>
            have HS' : Hid (col (bytesTo s (j + 1 + 1)) b = (out ++ [s[j + 1]], false)) := by show col _ _ = _; rw [HS.out]; simp [colStep, hB]
            clear HS
            go_wp2_with (go_at_call 43; refine (rblank_calls _ _).mono ?_; rintro e w1 ⟨rfl, hb1⟩; have hbel := below_then hbel hb1)
            go_roundw
            case rel => exact ⟨j + 1 + 1, by omega, by go_num, by rw [HS'.out]; exact ret_string (add_one out s (j + 1) hlt), by assumption⟩
            case measure => simp [intOf]; omega
          | true =>
            have HS' : Hid (col (bytesTo s (j + 1 + 1)) b = (out, true)) := by show col _ _ = _; rw [HS.out]; simp [colStep, hB]
            clear HS
            go_wp2_with (go_at_call 43; refine (rblank_calls _ _).mono ?_; rintro e w1 ⟨rfl, hb1⟩; have hbel := below_then hbel hb1)
            go_roundw
            case rel => exact ⟨j + 1 + 1, by omega, by go_num, by rw [HS'.out], by assumption⟩
            case measure => simp [intOf]; omega
        | false =>
          obtain ⟨o0, b0, hst0⟩ : ∃ o0 b0, col (bytesTo s j) b = (o0, b0) := ⟨_, _, rfl⟩
          have hst : col (bytesTo s (j + 1)) b = (o0 ++ [s[j]], false) := by rw [HST.out, hst0]; simp [colStep, hJ]
          obtain ⟨out, ho⟩ : ∃ out, out = o0 ++ [s[j]] := ⟨_, rfl⟩
          have ho1 : out.isEmpty = false := by rw [ho]; simp
          have ho2 : (out == []) = false := by rw [ho]; simp
          rw [← ho] at hst
          rw [hst] at HS hlen
          simp only [hst]
          clear hst HBL HST hst0 ho
          simp only at hlen
          have hsz : (⟨out.toArray⟩ : ByteArray).size = out.length := by simp [ByteArray.size]
          cases hB : isB s[j + 1] with
          | false =>
            have HS' : Hid (col (bytesTo s (j + 1 + 1)) b = (out ++ [s[j + 1]], false)) := by show col _ _ = _; rw [HS.out]; simp [colStep, hB]
            clear HS
            go_wp2_with (go_at_call 43; refine (rblank_calls _ _).mono ?_; rintro e w1 ⟨rfl, hb1⟩; have hbel := below_then hbel hb1)
            go_roundw
            case rel => exact ⟨j + 1 + 1, by omega, by go_num, by rw [HS'.out]; exact ret_string (add_one out s (j + 1) hlt), by assumption⟩
            case measure => simp [intOf]; omega
          | true =>
            have HS' : Hid (col (bytesTo s (j + 1 + 1)) b = (out ++ [32], true)) := by show col _ _ = _; rw [HS.out]; simp [colStep, hB]
            clear HS
            go_wp2_with (go_at_call 43; refine (rblank_calls _ _).mono ?_; rintro e w1 ⟨rfl, hb1⟩; have hbel := below_then hbel hb1)
            go_roundw
            case rel => exact ⟨j + 1 + 1, by omega, by go_num, by rw [HS'.out]; exact ret_string (add_sp out), by assumption⟩
            case measure => simp [intOf]; omega
    · have e : bytesTo s k = s.data.toList := by unfold bytesTo; exact List.take_of_length_le (by simp; omega)
      rw [e] at hlen
      simp only [e]
      clear e HK
      have hend := col_end s.data.toList b
      obtain ⟨out, bl, hst⟩ : ∃ out bl, col s.data.toList b = (out, bl) := ⟨_, _, rfl⟩
      rw [hst] at hend hlen
      have HST := Lib.hid hst
      simp only [hst]
      clear hst
      simp only at hend hlen
      rcases List.eq_nil_or_concat out with ho | ⟨o0, c, ho⟩
      · subst ho
        have hb := hend.1 rfl
        subst hb
        clear hend
        go_wp2
        cases bl with
        | true =>
          go_quiet (fail)
          go_wp2
          go_ret2
          exact ⟨ret_sb (by rw [HST.out]) (by rw [HST.out]), below_drewN hbel _⟩
        | false =>
          go_quiet (fail)
          go_wp2
          go_ret2
          exact ⟨ret_sb (by rw [HST.out]) (by rw [HST.out]), below_drewN hbel _⟩
      · have hb := hend.2 o0 c (by simpa using ho)
        obtain ⟨t, ht⟩ : ∃ t : ByteArray, t = ⟨out.toArray⟩ := ⟨_, rfl⟩
        obtain ⟨n, hn⟩ : ∃ n, n = o0.length := ⟨_, rfl⟩
        have hts : t.size = n + 1 := by rw [ht, ho, hn]; simp [ByteArray.size]
        have htl : t.toList.isEmpty = false := by
          rw [ht, byteArray_toList, ho]
          simp
        have htc : ∀ h : n < t.size, t[n] = c := by
          subst ht; subst ho; subst hn
          intro h
          show (o0.concat c).toArray[o0.length] = c
          simp
        rw [← ht]
        have HT := Lib.hid ht
        have HB := Lib.hid hb
        have HC := Lib.hid htc
        have hol : out.length = n + 1 := by rw [ho, hn]; simp
        have hnb : n ≤ 9223372036854775806 := by omega
        have hw1 : IntKind.i64.wrap (n : Int) = n := IntWalk.i64_in _ (by omega)
        have hlt2 : (n : Int) < (n : Int) + 1 := by omega
        clear ht hb hend ho hn htc hlen hol
        go_wp2
        go_quiet (fail)
        go_wp2
        go_ret2
        exact ⟨ret_sb (by rw [HST.out, HT.out]) (by rw [HST.out]; simp only; rw [HB.out, HC.out]; exact u8_eq c 32), below_drewN hbel _⟩

/-- P305: what Collapse tells. -/
def colR (s : ByteArray) (m : Int) (b : Bool) : ByteArray × Bool := if m = 1 ∨ m = 3 then (s, false) else (⟨(col s.data.toList b).1.toArray⟩, (col s.data.toList b).2)
set_option maxHeartbeats 400000 in
theorem collapse_any (s : ByteArray) (m : Int) (b : Bool) (w : World) (hs : s.size ≤ 140737488351232) :
    Calls Tryd.prog 70 #[.string s, .int .i64 m, .bool b] w fun e w' => e = .returned (.tuple #[.string (colR s m b).1, .bool (colR s m b).2]) ∧ Below w.heap.size w w' := by
  by_cases hm : m = 1 ∨ m = 3
  · have hk := keeps_calls m
    have e : (m == 1 || m == 3) = true := by rcases hm with h | h <;> subst h <;> rfl
    rw [e] at hk
    have HK := Lib.hid hk
    have HM := Lib.hid hm
    clear hk e hm
    go_enter Tryd.func70, Tryd.ntmps70
    go_wp2_with (go_at_call 71; refine (HK.out _).mono ?_; rintro e w' ⟨rfl, rfl⟩)
    go_ret2
    exact ⟨ret_sb (by unfold colR; rw [if_pos HM.out]) (by unfold colR; rw [if_pos HM.out]), Below.refl _ _⟩
  · refine (collapse_calls s m b w hs (fun h => hm (.inl h)) (fun h => hm (.inr h))).mono ?_
    rintro e w' ⟨rfl, hb⟩
    exact ⟨ret_sb (by unfold colR; rw [if_neg hm]) (by unfold colR; rw [if_neg hm]), hb⟩
set_option maxHeartbeats 400000 in
theorem rcollapse_any (s : ByteArray) (m : Int) (b : Bool) (w : World) (hs : s.size ≤ 140737488351232) :
    Calls Tryd.prog 31 #[.string s, .int .i64 m, .bool b] w fun e w' => e = .returned (.tuple #[.string (colR s m b).1, .bool (colR s m b).2]) ∧ Below w.heap.size w w' := by
  by_cases hm : m = 1 ∨ m = 3
  · have hk := rkeeps_calls m
    have e : (m == 1 || m == 3) = true := by rcases hm with h | h <;> subst h <;> rfl
    rw [e] at hk
    have HK := Lib.hid hk
    have HM := Lib.hid hm
    clear hk e hm
    go_enter Tryd.func31, Tryd.ntmps31
    go_wp2_with (go_at_call 32; refine (HK.out _).mono ?_; rintro e w' ⟨rfl, rfl⟩)
    go_ret2
    exact ⟨ret_sb (by unfold colR; rw [if_pos HM.out]) (by unfold colR; rw [if_pos HM.out]), Below.refl _ _⟩
  · refine (rcollapse_calls s m b w hs (fun h => hm (.inl h)) (fun h => hm (.inr h))).mono ?_
    rintro e w' ⟨rfl, hb⟩
    exact ⟨ret_sb (by unfold colR; rw [if_neg hm]) (by unfold colR; rw [if_neg hm]), hb⟩
theorem extract_le (s : ByteArray) (a b c : Nat) (h : s.size ≤ c) : (s.extract a b).size ≤ c := by
  rw [ByteArray.size_extract]; omega
end Go.Proofs.YtpamfhplklhnpaaDoor
