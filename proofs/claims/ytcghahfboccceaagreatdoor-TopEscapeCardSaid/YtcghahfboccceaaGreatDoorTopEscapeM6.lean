/- Several texts in one: TeB. -/
import Derived.Test.YtcghahfboccceaaGreatDoorTopEscapeM5
import Derived.RangeFuncNested
import Derived.RangeFuncBound
import Derived.RangeFuncCalls
import Derived.RangeFuncLeaves
import Derived.Shelf.Abstract
import Derived.Shelf.RegionOpen
import Derived.OwnWalkIn
import Derived.TacticsInMore
import Derived.LoopNIn
import Derived.LoopIn
/- chars.signs: an iterator over a text's signs: its contract. -/
namespace Go.Proofs.YtcghahfboccceaaGreatDoor
open Go.RowKit Go.Shelf
set_option linter.unusedVariables false
attribute [local go_sem] Oper.semAt_some

/-- A sign and its place. -/
structure Sg where
  at' : Nat
  r : Int
  h0 : 0 ≤ r
  h1 : r ≤ 1114111
/-- The sign at a place of a text. -/
def sgAt (l : List UInt8) (a : Nat) : Sg :=
  if h : a < l.length then ⟨a, (oneF (l.drop a)).1, by
      rw [List.drop_eq_getElem_cons h]; have := (oneF_ok l[a] (l.drop (a + 1))).1; omega, by
      rw [List.drop_eq_getElem_cons h]; have := (oneF_ok l[a] (l.drop (a + 1))).1; omega⟩
  else ⟨a, 0, by decide, by decide⟩
theorem sgAt_r {l : List UInt8} {a : Nat} (h : a < l.length) : (sgAt l a).r = (oneF (l.drop a)).1 := by rw [sgAt, dif_pos h]
theorem sgAt_at (l : List UInt8) (a : Nat) : (sgAt l a).at' = a := by unfold sgAt; split <;> rfl
/-- The signs from a place on. -/
def sgs (l : List UInt8) : Nat → Nat → List Sg
  | 0, _ => []
  | k + 1, a => if a < l.length then sgAt l a :: sgs l k (a + (oneF (l.drop a)).2) else []
theorem sgs_len (l : List UInt8) : ∀ k a, (sgs l k a).length ≤ k
  | 0, a => by simp [sgs]
  | k + 1, a => by
    rw [sgs]
    split
    · have := sgs_len l k (a + (oneF (l.drop a)).2)
      simp; omega
    · simp
theorem one_step {l : List UInt8} {a : Nat} (h : a < l.length) : 1 ≤ (oneF (l.drop a)).2 ∧ a + (oneF (l.drop a)).2 ≤ l.length := by
  have e := List.drop_eq_getElem_cons h
  have := oneF_ok l[a] (l.drop (a + 1))
  rw [← e] at this
  have hl : (l.drop a).length = l.length - a := List.length_drop
  omega
set_option maxRecDepth 100000 in
set_option maxHeartbeats 1000000 in
theorem signs_calls (s : ByteArray) (w : World) :
    Calls Tryz.prog 28 #[.string s] w fun e w' => e = .returned (.func (.func 51) #[] #[.pointer (some ⟨w.heap.size, 0, none⟩)]) ∧ w' = w.alloc (.cells #[.string s] 9) := by
  go_enter Tryz.func28, Tryz.ntmps28
  go_wp2
  go_ret
  exact ⟨rfl, rfl⟩
def sgV (x : Sg) : Array Value := #[.int .i64 (x.at' : Int), .int .i32 x.r]
theorem grown_of {w w' : World} (h : Below w.heap.size w w') : w.grownBy w' none := ⟨h.os, h.tape, h.output, h.size, fun k hk _ => h.block k hk⟩
/-- A block stays. -/
def KB (b : Nat) (W W' : World) : Prop := W'.heap[b]? = W.heap[b]?
set_option maxRecDepth 100000 in
set_option maxHeartbeats 4000000 in
theorem signs1_in (n : Nat) (hn : 1 ≤ n) (l Bs : Nat) (s : ByteArray) (hs : s.size ≤ 140737488355328) (J Jx : List Sg → World → Prop) (W : World) (hJ : AbidesFrom W.heap.size J)
    (hY : ∀ pre x W, J pre W → pre.length < s.size → YieldAt Fence.wide (n - 1) Tryz.prog l (sgV x) W fun e W' =>
      (e = .returned (.bool true) ∧ J (pre ++ [x]) W' ∧ KB Bs W W') ∨ (e = .returned (.bool false) ∧ Jx (pre ++ [x]) W'))
    (hc : W.cell? ⟨Bs, 0, none⟩ = some (.string s)) (h0 : J [] W) :
    CallsIn Fence.wide n Tryz.prog 51 #[.func (.yield l) #[] #[], .pointer (some ⟨Bs, 0, none⟩)] W fun e W' => (∃ v, e = .returned v) ∧
      ((∃ ys, ys = sgs s.data.toList s.size 0 ∧ J ys W') ∨ (∃ pre, pre <+: sgs s.data.toList s.size 0 ∧ Jx pre W')) := by
  have hlen : s.data.toList.length = s.size := by simp
  obtain ⟨L, hL⟩ : ∃ L, L = s.data.toList := ⟨_, rfl⟩
  rw [← hL] at hlen ⊢
  have HL := Lib.hid hL
  have HN := Lib.hid hlen
  clear hL hlen
  refine callsIn_of_wp Tryz.func51 rfl trivial ?_ rfl
  simp only [Tryz.ntmps51, List.size_toArray, List.length_cons, List.length_nil, Nat.reduceAdd, Nat.reduceSub, Array.replicate_succ, Array.replicate_zero, List.push_toArray, List.append_toArray, List.nil_append, List.cons_append]
  gi_wp2
  gi_loopw [3] (fun i wr => ∃ (a k : Nat) (pre : List Sg), i = .int .i64 (a : Int) ∧ a ≤ s.size ∧ s.size ≤ a + k ∧ Hid (pre ++ sgs L k a = sgs L s.size 0) ∧ Hid (pre.length + k = s.size) ∧ J pre wr ∧ KB Bs W wr)
    (fun i _ => s.size - (intOf i).toNat)
  case atStart => exact ⟨0, s.size, [], rfl, by omega, by omega, rfl, by show _ = _; simp, h0, rfl⟩
  case round =>
    obtain ⟨a, k, pre, rfl, ha, hk, HP, HK, hJs, hnx⟩ := hrel
    have hcx : wr.cell? ⟨Bs, 0, none⟩ = some (.string s) := (World.cell?_of_block (a := ⟨Bs, 0, none⟩) hnx).trans hc
    have hBl : Bs < wr.heap.size := block_lt_of_cell hcx
    by_cases hlt : a < s.size
    · have haL : a < L.length := by rw [HN.out]; exact hlt
      obtain ⟨m1, m2⟩ := one_step haL
      obtain ⟨r, m, hr⟩ : ∃ r m, oneF (L.drop a) = (r, m) := ⟨_, _, rfl⟩
      have hsg : sgV (sgAt L a) = #[.int .i64 (a : Int), .int .i32 r] := by rw [sgV, sgAt_at, sgAt_r haL, hr]
      obtain ⟨k, rfl⟩ : ∃ j, k = j + 1 := ⟨k - 1, by omega⟩
      have HP2 : Hid (pre ++ [sgAt L a] ++ sgs L k (a + m) = sgs L s.size 0) := by
        show _ = _
        rw [← HP.out, sgs, if_pos haL, hr]; simp
      rw [hr] at m1 m2
      rw [HN.out] at m2
      have m1 : 1 ≤ m := m1
      have m2 : a + m ≤ s.size := m2
      have hpl : pre.length < s.size := by have := HK.out; omega
      have HK2 : Hid ((pre ++ [sgAt L a]).length + k = s.size) := by show _ = _; rw [List.length_append]; have := HK.out; simp; omega
      have H1 := Lib.hid (fun w (h0 : 0 < (s.extract a s.size).size) => cone_calls (s.extract a s.size) w h0 (by simp; omega))
      have HE : Hid (oneF (s.extract a s.size).data.toList = (r, m)) := by
        show _ = _
        rw [← hr, HL.out]
        congr 1
        simp
        rw [List.take_of_length_le (by simp)]
      have HY := Lib.hid (fun w' (hj : J pre w') => hY pre (sgAt L a) w' hj hpl)
      rw [hsg] at HY
      have hse : 0 < (s.extract a s.size).size := by simp; omega
      clear hY HP HK hr
      gi_wp2_with (refine ⟨trivial, ?_⟩; gi_at_call 52; refine (callsIn_wide.2 (H1.out _ hse)).mono ?_; rw [HE.out]; rintro e w' ⟨rfl, hb⟩; (obtain ⟨fn, tmps, assign, body, hy, hR⟩ := HY.out w' (hJ _ _ _ none hJs (grown_of hb) (fun r h => by cases h))); unfold oneV)
      refine hR.mono ?_
      rintro e W3 (⟨rfl, hJ3, hk3⟩ | ⟨rfl, hJx3⟩)
      · have HJ3 := Lib.hid hJ3
        gi_wp2
        go_roundw
        case rel => exact ⟨a + m, k, pre ++ [sgAt L a], by go_num, by omega, by omega, HP2, HK2, HJ3.out, hk3.trans ((hb.block Bs hBl).trans hnx)⟩
        case measure => simp [intOf]; omega
      · gi_wp2
        refine bodyPost_ret (results_none rfl _ _ _) rfl ?_
        exact ⟨⟨_, rfl⟩, .inr ⟨_, ⟨_, HP2.out⟩, hJx3⟩⟩
    · obtain rfl : a = s.size := by omega
      gi_wp2
      go_end0
      refine ⟨⟨_, rfl⟩, .inl ⟨_, rfl, ?_⟩⟩
      have e : sgs L k s.size = [] := by
        cases k with
        | zero => rfl
        | succ k => rw [sgs, if_neg (by rw [HN.out]; omega)]
      have hp := HP.out
      rw [e, List.append_nil] at hp
      rw [← hp]
      exact hJs
/-- What chars.signs hands back is an iterator over the text's signs. -/
theorem signs_stops (n : Nat) (hn : 1 ≤ n) (Bs : Nat) (s : ByteArray) (hs : s.size ≤ 140737488355328) (w : World) (hc : w.cell? ⟨Bs, 0, none⟩ = some (.string s)) :
    SeqStopsK Fence.wide n Tryz.prog 51 #[.pointer (some ⟨Bs, 0, none⟩)] sgV (KB Bs) (fun ys => ys = sgs s.data.toList s.size 0) (fun pre => pre <+: sgs s.data.toList s.size 0) s.size w := fun l J Jx W hW hJ _ hY h0 =>
  signs1_in n hn l Bs s hs J Jx W hJ hY ((hW.cell (p := ⟨Bs, 0, none⟩) (block_lt_of_cell hc)).trans hc) h0
end Go.Proofs.YtcghahfboccceaaGreatDoor
