/- Several texts in one: PropD, PropE. -/
import Derived.Test.YtkmmlcnoeeaekaaGreatDoorBoxesMakeM9
import Derived.Test.YtkmmlcnoeeaekaaGreatDoorBoxesMakeM10
import Derived.Test.YtkmmlcnoeeaekaaGreatDoorBoxesMakeM11
import Derived.Test.YtkmmlcnoeeaekaaGreatDoorBoxesMakeM6
import Derived.Test.YtkmmlcnoeeaekaaGreatDoorBoxesMakeM5
import Derived.Shelf.Strings.SplitCore
import Derived.Lib.SplitLaws
import Derived.Lib.IndexBytes
import Derived.Lib.IndexLaws
/- Contracts of prop: at, in, letter. -/
namespace Go.Proofs.YtkmmlcnoeeaekaaGreatDoor
open Go.RowKit Go.Great
set_option linter.unusedVariables false
set_option linter.unusedSimpArgs false

theorem secondsI (k : Nat) (p : Int) (h : p = k) (hk : k < 20) (w : World) :
    Calls Tryz.prog 151 #[.int .i64 p] w fun e w' => e = .returned (.agg #[.string (propAt (k + 20)).name, .string (propAt (k + 20)).kinds, .string (propAt (k + 20)).keys, .string (propAt (k + 20)).auto, .bool (propAt (k + 20)).above]) ∧ Below w.heap.size w w' := by
  subst h; exact seconds_calls k hk w
theorem thirdsI (k : Nat) (p : Int) (h : p = k) (hk : k < 19) (w : World) :
    Calls Tryz.prog 152 #[.int .i64 p] w fun e w' => e = .returned (.agg #[.string (propAt (k + 40)).name, .string (propAt (k + 40)).kinds, .string (propAt (k + 40)).keys, .string (propAt (k + 40)).auto, .bool (propAt (k + 40)).above]) ∧ Below w.heap.size w w' := by
  subst h; exact thirds_calls k hk w
set_option maxRecDepth 100000 in
set_option maxHeartbeats 2000000 in
theorem pat_calls (m : Nat) (p : Int) (hp : p = m) (hm : m < 59) (w : World) :
    Calls Tryz.prog 101 #[.int .i64 p] w fun e w' => e = .returned (.agg #[.string (propAt m).name, .string (propAt m).kinds, .string (propAt m).keys, .string (propAt m).auto, .bool (propAt m).above]) ∧ Below w.heap.size w w' := by
  have HB := Lib.hid (Blk.new w 156 #[.string ⟨#[]⟩, .string ⟨#[]⟩, .string ⟨#[]⟩, .string ⟨#[]⟩, .bool false])
  have HW := Lib.hid (below_alloc (Below.refl w.heap.size w) (.cells #[.string ⟨#[]⟩, .string ⟨#[]⟩, .string ⟨#[]⟩, .string ⟨#[]⟩, .bool false] 156))
  obtain ⟨x, hx⟩ : ∃ x, x = propAt m := ⟨_, rfl⟩
  rw [← hx]
  have FIN : ∀ (wt : World) (tmps : Array Value), Blk wt w.heap.size 156 #[.string ⟨#[]⟩, .string ⟨#[]⟩, .string ⟨#[]⟩, .string ⟨#[]⟩, .bool false] → Below w.heap.size w wt → tmps.getD 2 undef = .pointer (some ⟨w.heap.size, 0, none⟩) →
      bodyPost Tryz.prog Tryz.f101 (fun e w' => e = .returned (.agg #[.string x.name, .string x.kinds, .string x.keys, .string x.auto, .bool x.above]) ∧ Below w.heap.size w w') Exit.ret ⟨tmps, []⟩ (wt.setRow w.heap.size #[.string x.name, .string x.kinds, .string x.keys, .string x.auto, .bool x.above]) := by
    intro wt tmps hb hw ht
    have hR := setRow_heap wt w.heap.size _ #[.string x.name, .string x.kinds, .string x.keys, .string x.auto, .bool x.above] _ _ hb
    exact bodyPost_ret (v := .agg #[.string x.name, .string x.kinds, .string x.keys, .string x.auto, .bool x.above]) (results_cell_row Tryz.results101 _ _ w.heap.size 156 _ (0, 0) _ ht hR Tryz.underlying156 rfl (by kernel_rfl)) rfl ⟨rfl, below_setRow hw (Nat.le_refl _) _⟩
  have HFIN := Lib.hid FIN
  clear FIN
  by_cases h1 : m < 20
  · have q1 : decide (p < 20) = true := by simp; omega
    have HF := Lib.hid (fun ww => firsts_calls m h1 ww)
    subst hp
    rw [← hx] at HF
    clear hx
    go_enter Tryz.func101, Tryz.ntmps101
    go_wp2_with (first | (go_at_call 150; refine (HF.out _).mono ?_; rintro e w1 ⟨rfl, hb1⟩; have HB1 := Lib.hid (HB.out.below hb1 HB.out.lt); have HW1 := Lib.hid (below_then HW.out hb1)) | (refine wpList_store_rowTo rfl 156 _ _ rfl rfl w.heap.size #[.string x.name, .string x.kinds, .string x.keys, .string x.auto, .bool x.above] rfl rfl _ _ HB1.out (by kernel_rfl) (by kernel_rfl) (by kernel_rfl) ?_))
    exact HFIN.out _ _ HB1.out HW1.out rfl
  · have q1 : decide (p < 20) = false := by simp; omega
    by_cases h2 : m < 40
    · have q2 : decide (p < 40) = true := by simp; omega
      obtain ⟨k, rfl⟩ : ∃ k, m = k + 20 := ⟨m - 20, by omega⟩
      have hw : wrap64 (p - 20) = p - 20 := by unfold wrap64; omega
      have HF := Lib.hid (fun ww => secondsI k (p - 20) (by omega) (by omega) ww)
      rw [← hx] at HF
      clear hx hp
      go_enter Tryz.func101, Tryz.ntmps101
      go_wp2_with (first | (go_at_call 151; refine (HF.out _).mono ?_; rintro e w1 ⟨rfl, hb1⟩; have HB1 := Lib.hid (HB.out.below hb1 HB.out.lt); have HW1 := Lib.hid (below_then HW.out hb1)) | (refine wpList_store_rowTo rfl 156 _ _ rfl rfl w.heap.size #[.string x.name, .string x.kinds, .string x.keys, .string x.auto, .bool x.above] rfl rfl _ _ HB1.out (by kernel_rfl) (by kernel_rfl) (by kernel_rfl) ?_))
      exact HFIN.out _ _ HB1.out HW1.out rfl
    · have q2 : decide (p < 40) = false := by simp; omega
      obtain ⟨k, rfl⟩ : ∃ k, m = k + 40 := ⟨m - 40, by omega⟩
      have hw : wrap64 (p - 40) = p - 40 := by unfold wrap64; omega
      have HF := Lib.hid (fun ww => thirdsI k (p - 40) (by omega) (by omega) ww)
      rw [← hx] at HF
      clear hx hp
      go_enter Tryz.func101, Tryz.ntmps101
      go_wp2_with (first | (go_at_call 152; refine (HF.out _).mono ?_; rintro e w1 ⟨rfl, hb1⟩; have HB1 := Lib.hid (HB.out.below hb1 HB.out.lt); have HW1 := Lib.hid (below_then HW.out hb1)) | (refine wpList_store_rowTo rfl 156 _ _ rfl rfl w.heap.size #[.string x.name, .string x.kinds, .string x.keys, .string x.auto, .bool x.above] rfl rfl _ _ HB1.out (by kernel_rfl) (by kernel_rfl) (by kernel_rfl) ?_))
      exact HFIN.out _ _ HB1.out HW1.out rfl
theorem pin_calls (p : Int) (h0 : 0 ≤ p) (h1 : p < 59) (w : World) : Calls Tryz.prog 99 #[.int .i64 p] w fun e w' => e = .returned (.bool true) ∧ w = w' := by
  have q0 : decide (0 ≤ p) = true := by simp; omega
  have q1 : decide (p < 59) = true := by simp; omega
  go_enter Tryz.func99, Tryz.ntmps99
  go_wp2_with fail
  go_ret
  exact ⟨rfl, rfl⟩
def letterC (k : Int) : UInt8 := if k = 1 then 107 else if k = 2 then 108 else if k = 3 then 112 else if k = 4 then 110 else if k = 5 then 99 else if k = 6 then 97 else 63
theorem letter_calls (k : Int) (w : World) : Calls Tryz.prog 102 #[.int .i64 k] w fun e w' => e = .returned (.string ⟨#[letterC k]⟩) ∧ w = w' := by
  by_cases h0 : k < 1
  · have q0 : decide (k < 1) = true := by simp; omega
    have e : letterC k = 63 := by unfold letterC; repeat rw [if_neg (by omega)]
    rw [e]
    go_enter Tryz.func102, Tryz.ntmps102
    go_wp2_with fail
    go_ret
    exact ⟨rfl, rfl⟩
  · have q0 : decide (k < 1) = false := by simp; omega
    by_cases h1 : 6 < k
    · have q1 : decide (6 < k) = true := by simp; omega
      have e : letterC k = 63 := by unfold letterC; repeat rw [if_neg (by omega)]
      rw [e]
      go_enter Tryz.func102, Tryz.ntmps102
      go_wp2_with fail
      go_ret
      exact ⟨rfl, rfl⟩
    · have hk : k = 1 ∨ k = 2 ∨ k = 3 ∨ k = 4 ∨ k = 5 ∨ k = 6 := by omega
      clear q0 h0 h1
      rcases hk with rfl | rfl | rfl | rfl | rfl | rfl <;>
      · go_enter Tryz.func102, Tryz.ntmps102
        go_wp2_with fail
        go_ret
        exact ⟨rfl, rfl⟩
end Go.Proofs.YtkmmlcnoeeaekaaGreatDoor
/- Contracts: strings.Split at a blank; prop.key. -/
namespace Go.Proofs.YtkmmlcnoeeaekaaGreatDoor
open Go.RowKit
set_option linter.unusedVariables false
set_option linter.unusedSimpArgs false

def splitL (s : ByteArray) : List ByteArray := Lib.splitB ⟨#[32]⟩ 0 (Lib.countB s ⟨#[32]⟩) s
set_option maxHeartbeats 1000000 in
theorem splitS_calls (s : ByteArray) (w : World) (hs : s.size < 4294967281) :
    Calls Tryz.prog 153 #[.string s, .string ⟨#[32]⟩] w fun e w' =>
      e = .returned (.slice (some ⟨w.heap.size, 0, none⟩) (splitL s).length (splitL s).length) ∧ w' = w.alloc (.cells ((splitL s).map Value.string).toArray 9) := by
  have hI : ∀ (x : ByteArray) (c : Array Value), x.size ≤ s.size → Calls Tryz.prog 149 #[.string x, .string ⟨#[32]⟩] (w.alloc (.cells c 9)) fun e w' => e = .returned (.int .i64 (Lib.indexB x ⟨#[32]⟩)) ∧ w' = w.alloc (.cells c 9) := fun x c _ =>
    (Tryz.strings_Index_one x 32 _).mono fun e w' ⟨he, hw⟩ => ⟨by rw [he]; show _ = Ending.returned (Value.int .i64 (Lib.index x.data.toList [32])); rw [Lib.index_one], hw⟩
  have hC : Calls Tryz.prog 208 #[.string s, .string ⟨#[32]⟩] w fun e w' => e = .returned (.int .i64 (Lib.countB s ⟨#[32]⟩)) ∧ w' = w :=
    (Tryz.strings_Count_one s 32 w).mono fun e w' ⟨he, hw⟩ => ⟨by rw [he]; show _ = Ending.returned (Value.int .i64 ((Lib.count s.data.toList [32] : Nat) : Int)); rw [Lib.count_one]; rfl, hw⟩
  have hle := Lib.countB_le ⟨#[32]⟩ (by decide) s.size s (Nat.le_refl _)
  have hlen := Lib.splitB_all ⟨#[32]⟩ (by decide) 0 _ s rfl
  have c := Any.strings_genSplit_core Tryz.lays221 (by kernel_rfl) s ⟨#[32]⟩ 0 (-1) (Lib.countB s ⟨#[32]⟩ + 1) w hs (by decide) (Nat.zero_le _) hI hC (by decide) (by decide) (by rw [if_pos (by decide)]; omega)
  rw [Nat.add_sub_cancel, hlen] at c
  have e2 : Lib.cellsOf (Lib.splitB ⟨#[32]⟩ 0 (Lib.countB s ⟨#[32]⟩) s) (Lib.countB s ⟨#[32]⟩ + 1) = ((Lib.splitB ⟨#[32]⟩ 0 (Lib.countB s ⟨#[32]⟩) s).map Value.string).toArray := by rw [← hlen]; exact Lib.cellsOf_full _
  rw [e2] at c
  have e4 : Lib.countB s ⟨#[32]⟩ + 1 = (splitL s).length := hlen.symm
  rw [e4] at c
  obtain ⟨ps, hps⟩ : ∃ x, x = splitL s := ⟨_, rfl⟩
  have hps' : Lib.splitB ⟨#[32]⟩ 0 (Lib.countB s ⟨#[32]⟩) s = ps := hps.symm
  rw [hps'] at c
  rw [← hps] at c ⊢
  have HC : Hid (Calls Tryz.prog 177 #[.string s, .string ⟨#[32]⟩, .int .i64 0, .int .i64 (-1)] w _) := c
  clear c hI hC hle hlen e2 e4 hps hps'
  go_enter Tryz.func153, Tryz.ntmps153
  go_wp2_with (go_at_call 177; refine HC.out.mono ?_; rintro e w' ⟨rfl, hw⟩; rw [hw])
  go_ret
  exact ⟨rfl, rfl⟩
/-- What key gives. -/
def keyE (s : ByteArray) (n : Int) : ByteArray :=
  if n < 0 ∨ ((splitL s).length : Int) ≤ n then ⟨#[]⟩
  else if (splitL s).getD n.toNat ⟨#[]⟩ = ⟨#[45]⟩ then ⟨#[]⟩ else (splitL s).getD n.toNat ⟨#[]⟩
theorem str_eqD (n s : ByteArray) : (n.toList == s.toList) = decide (n = s) := by
  by_cases h : n = s
  · subst h; simp
  · rw [decide_eq_false h]
    have : ¬ n.toList = s.toList := fun e => h (by
      rw [ByteArray.toList_eq, ByteArray.toList_eq] at e
      exact ByteArray.ext (Array.toList_inj.1 e))
    simpa using this
theorem splitC_calls (s : ByteArray) (w : World) (hs : s.size < 4294967281) :
    Calls Tryz.prog 153 #[.string s, .string ⟨#[32]⟩] w fun e w' =>
      ∃ g, e = .returned (.slice (some ⟨g, 0, none⟩) (splitL s).length (splitL s).length) ∧ (∀ m, m < (splitL s).length → w'.cell? ⟨g, m, none⟩ = some (.string ((splitL s).getD m ⟨#[]⟩))) ∧ Below w.heap.size w w' := by
  refine (splitS_calls s w hs).mono ?_
  rintro e w' ⟨rfl, rfl⟩
  refine ⟨_, rfl, fun m hm => ?_, below_alloc (Below.refl _ _) _⟩
  rw [new_cell, List.getElem?_toArray, List.getElem?_map, List.getElem?_eq_getElem hm, List.getD_eq_getElem?_getD, List.getElem?_eq_getElem hm]
  rfl
set_option maxRecDepth 100000 in
set_option maxHeartbeats 4000000 in
theorem key_calls (a b c d : ByteArray) (e : Bool) (n : Int) (w : World) (hs : c.size < 4294967281) :
    Calls Tryz.prog 103 #[.agg #[.string a, .string b, .string c, .string d, .bool e], .int .i64 n] w fun e w' => e = .returned (.string (keyE c n)) ∧ Below w.heap.size w w' := by
  have HW := Lib.hid (below_alloc (Below.refl w.heap.size w) (.cells #[.string a, .string b, .string c, .string d, .bool e] 156))
  have HS := Lib.hid (splitC_calls c (w.alloc (.cells #[.string a, .string b, .string c, .string d, .bool e] 156)) hs)
  obtain ⟨r, hr⟩ : ∃ r, r = keyE c n := ⟨_, rfl⟩
  rw [← hr]
  unfold keyE at hr
  obtain ⟨l, hl⟩ : ∃ l, l = splitL c := ⟨_, rfl⟩
  rw [← hl] at HS hr
  have HR := Lib.hid hr
  clear hr hl hs
  by_cases h0 : n < 0
  · have q0 : decide (n < 0) = true := decide_eq_true h0
    have HE : Hid (r = ⟨#[]⟩) := by show _ = _; rw [HR.out, if_pos (.inl h0)]
    clear h0 HR
    go_enter Tryz.func103, Tryz.ntmps103
    go_wp2_with (go_at_call 153; refine HS.out.mono ?_; rintro e w1 ⟨g, rfl, hc, hb⟩)
    go_ret
    exact ⟨by rw [HE.out]; rfl, below_then HW.out hb⟩
  · have q0 : decide (n < 0) = false := decide_eq_false h0
    by_cases h1 : (l.length : Int) ≤ n
    · have q1 : decide ((l.length : Int) ≤ n) = true := decide_eq_true h1
      have HE : Hid (r = ⟨#[]⟩) := by show _ = _; rw [HR.out, if_pos (.inr h1)]
      clear h0 h1 HR
      go_enter Tryz.func103, Tryz.ntmps103
      go_wp2_with (go_at_call 153; refine HS.out.mono ?_; rintro e w1 ⟨g, rfl, hc, hb⟩)
      go_ret
      exact ⟨by rw [HE.out]; rfl, below_then HW.out hb⟩
    · obtain ⟨m, rfl⟩ : ∃ m : Nat, n = m := ⟨n.toNat, by omega⟩
      have hm : m < l.length := by omega
      have q1 : decide (l.length ≤ m) = false := by simp; omega
      have HR1 : Hid (r = if l.getD m ⟨#[]⟩ = ⟨#[45]⟩ then ⟨#[]⟩ else l.getD m ⟨#[]⟩) := by show _ = _; rw [HR.out, if_neg (by omega), Int.toNat_natCast]
      obtain ⟨t, ht⟩ : ∃ t, t = l.getD m ⟨#[]⟩ := ⟨_, rfl⟩
      rw [← ht] at HR1
      have HT := Lib.hid ht
      have e45 : (⟨#[45]⟩ : ByteArray).toList = [45] := by decide +kernel
      have HM := Lib.hid hm
      clear ht HR h0 h1
      by_cases h2 : t = ⟨#[45]⟩
      · have q2 : (t.toList == [45]) = true := by rw [← e45, str_eqD]; exact decide_eq_true h2
        have HE : Hid (r = ⟨#[]⟩) := by show _ = _; rw [HR1.out, if_pos h2]
        clear h2 HR1 e45
        go_enter Tryz.func103, Tryz.ntmps103
        go_wp2_with (go_at_call 153; refine HS.out.mono ?_; rintro e w1 ⟨g, rfl, hc, hb⟩; have hcell := hc m HM.out; rw [← HT.out] at hcell; clear hc; have HB := Lib.hid hb; clear hb)
        go_ret
        exact ⟨by rw [HE.out]; rfl, below_then HW.out HB.out⟩
      · have q2 : (t.toList == [45]) = false := by rw [← e45, str_eqD]; exact decide_eq_false h2
        have HE : Hid (r = t) := by show _ = _; rw [HR1.out, if_neg h2]
        clear h2 HR1 e45
        go_enter Tryz.func103, Tryz.ntmps103
        go_wp2_with (go_at_call 153; refine HS.out.mono ?_; rintro e w1 ⟨g, rfl, hc, hb⟩; have hcell := hc m HM.out; rw [← HT.out] at hcell; clear hc; have HB := Lib.hid hb; clear hb)
        go_ret
        exact ⟨by rw [HE.out]; rfl, below_then HW.out HB.out⟩
end Go.Proofs.YtkmmlcnoeeaekaaGreatDoor
