/- Words for the reference's Tell: steps, a frame, append of what may be nothing, Copy. -/
import Derived.Test.YtpamfhplklhnpaaDoorStkF
import Derived.Test.YtpamfhplklhnpaaDoorApart
import Derived.Deep.Upon
namespace Go.Proofs.YtpamfhplklhnpaaDoor
open Go.RowKit
set_option linter.unusedVariables false
set_option linter.unusedSimpArgs false

theorem info_nums : (Tryd.prog.info? 3).map (fun i => (i.zero, i.size, i.bytes)) = some (some (.int .i64 0), 1, 8) := by kernel_rfl
theorem info_step : (Tryd.prog.info? 55).map (fun i => (i.zero, i.size, i.bytes)) = some (some (.agg #[.int .i64 0, .int .i64 0]), 2, 16) := by kernel_rfl
/-- What is to be appended: cells at A, or nothing. -/
def SrcI (w : World) (A : Option Addr) (m : Nat) (news : List Value) : Prop := (∃ b off, A = some ⟨b, off, none⟩ ∧ ∀ j u, news[j]? = some u → w.cell? ⟨b, off + j, none⟩ = some u) ∨ (A = none ∧ m = 0)
theorem SrcI.at_ {w w' : World} {A : Option Addr} {m : Nat} {news : List Value} (h : SrcI w A m news) (hb : ∀ b off, A = some ⟨b, off, none⟩ → ∀ j u, w.cell? ⟨b, off + j, none⟩ = some u → w'.cell? ⟨b, off + j, none⟩ = some u) : SrcI w' A m news := by
  rcases h with ⟨b, off, rfl, hc⟩ | h
  · exact .inl ⟨b, off, rfl, fun j u hj => hb b off rfl j u (hc j u hj)⟩
  · exact .inr h
theorem run_append_any {P : Program} (w : World) (base : Nat) (t ty e : TypeId) (i : TypeInfo) (z : Value) (size bytes : Nat) (ht : P.underlying t = some (.slice e)) (hi : P.info? e = some i) (hz : i.zero = some z)
    (hsize : i.size = size) (hby : i.bytes = bytes) (hzs : z.cells.size = size) (hsz : 0 < size)
    (v : Value) (n : Nat) (xs : List Value) (hown : w.ownsRow base e size v n xs)
    (A : Option Addr) (m c : Nat) (news : List Value) (hl : news.length = m * size) (hs : SrcI w A m news) (h1 : ∀ u ∈ news, u.oneCell' = true)
    (h63 : n + m ≤ maxLen) (hbytes : (n + m) * bytes ≤ 140737488355328) (hbase : base ≤ w.heap.size) :
    ∃ v' w', (Builtin.append_ #[t, t] ty #[v, .slice A m c]).run P w = .ok v' w' ∧ w'.ownsRow base e size v' (n + m) (xs ++ news) ∧ w.grownBy w' v.ownBlock ∧ (v'.ownBlock = v.ownBlock ∨ v'.ownBlock = some w.heap.size) := by
  rcases hs with ⟨b, off, rfl, hc⟩ | ⟨rfl, rfl⟩
  · obtain ⟨v', w', h2, h3, h4, _, h5⟩ := run_append_own_at (P := P) w base t ty e i z size bytes ht hi hz hsize hby hzs hsz v n xs hown ⟨b, off, none⟩ m c news hl (fun j u hj => by
      have e1 : (⟨b, off, none⟩ : Addr).add j = ⟨b, off + j, none⟩ := by unfold Addr.add; split <;> simp_all
      rw [e1]; exact hc j u hj) h1 h63 hbytes hbase
    exact ⟨v', w', h2, h3, h4, h5⟩
  · have hnil : news = [] := List.eq_nil_of_length_eq_zero (by simpa using hl)
    subst hnil
    have hrun : ∃ A' n' c', v = .slice A' n' c' ∧ n' ≤ c' := by
      rcases hown.2 with ⟨rfl, rfl⟩ | ⟨g, cap, cur, rfl, _, _, h3, _⟩
      · exact ⟨none, 0, 0, rfl, Nat.le_refl _⟩
      · exact ⟨_, _, _, rfl, h3⟩
    obtain ⟨A', n', c', rfl, hle⟩ := hrun
    refine ⟨_, w, run_append_nothing (P := P) w t t ty e i ht hi A' n' c' hle _ (Src.ofNil w ht c), ?_, ⟨rfl, rfl, rfl, Nat.le_refl _, fun _ _ _ => rfl⟩, .inl rfl⟩
    simpa using hown
theorem wp_append_any {P : Program} {w : World} {o : Oper} {a : Act} {K : Act → World → Prop} {Q : Exit → Act → World → Prop} (s x : Operand) (t : TypeId)
    (ho : o.op = .call { callee := .builtin .append, args := #[s, x], argTypes := #[t, t] })
    (base : Nat) (e : TypeId) (i : TypeInfo) (z : Value) (size bytes : Nat) (ht : P.underlying t = some (.slice e)) (hi : P.info? e = some i) (hz : i.zero = some z)
    (hsize : i.size = size) (hby : i.bytes = bytes) (hzs : z.cells.size = size) (hsz : 0 < size)
    (v : Value) (n : Nat) (xs : List Value) (hs : a.eval s = v) (hown : w.ownsRow base e size v n xs)
    (A : Option Addr) (m c : Nat) (news : List Value) (hx : a.eval x = .slice A m c) (hl : news.length = m * size) (hsrc : SrcI w A m news) (h1 : ∀ u ∈ news, u.oneCell' = true)
    (h63 : n + m ≤ maxLen) (hbytes : (n + m) * bytes ≤ 140737488355328) (hbase : base ≤ w.heap.size)
    (h : ∀ A' c' w', w'.ownsRow base e size (.slice A' (n + m) c') (n + m) (xs ++ news) → w.grownBy w' v.ownBlock → ((Value.slice A' (n + m) c').ownBlock = v.ownBlock ∨ (Value.slice A' (n + m) c').ownBlock = some w.heap.size) → K (a.put o.dst (.slice A' (n + m) c')) w') : o.wp P a w K Q := by
  obtain ⟨v', w', hr, h2, h3, h4⟩ := run_append_any (P := P) w base t o.type e i z size bytes ht hi hz hsize hby hzs hsz v n xs hown A m c news hl hsrc h1 h63 hbytes hbase
  obtain ⟨A', c', rfl⟩ := own_open h2
  unfold Oper.wp execOp
  simp only [ho, resolve, invoke, builtin, Sem.run_bind, Sem.run_pure, Result.andThen_ok, List.map_toArray, List.map_cons, List.map_nil, hs, hx, hr]
  exact h A' c' w' h2 h3 h4
theorem wpList_append_any {P : Program} {w : World} {ops : Array Oper} {rest : List Oper} {o : Oper} {a : Act} {Q : Exit → Act → World → Prop} (hgd : o.guard = none) (s x : Operand) (t : TypeId)
    (ho : o.op = .call { callee := .builtin .append, args := #[s, x], argTypes := #[t, t] })
    (base : Nat) (e : TypeId) (i : TypeInfo) (z : Value) (size bytes : Nat) (ht : P.underlying t = some (.slice e)) (hi : P.info? e = some i) (hz : i.zero = some z)
    (hsize : i.size = size) (hby : i.bytes = bytes) (hzs : z.cells.size = size) (hsz : 0 < size)
    (v : Value) (n : Nat) (xs : List Value) (hs : a.eval s = v) (hown : w.ownsRow base e size v n xs)
    (A : Option Addr) (m c : Nat) (news : List Value) (hx : a.eval x = .slice A m c) (hl : news.length = m * size) (hsrc : SrcI w A m news) (h1 : ∀ u ∈ news, u.oneCell' = true)
    (h63 : n + m ≤ maxLen) (hbytes : (n + m) * bytes ≤ 140737488355328) (hbase : base ≤ w.heap.size)
    (h : ∀ A' c' w', w'.ownsRow base e size (.slice A' (n + m) c') (n + m) (xs ++ news) → w.grownBy w' v.ownBlock → ((Value.slice A' (n + m) c').ownBlock = v.ownBlock ∨ (Value.slice A' (n + m) c').ownBlock = some w.heap.size) → wpList P ops Q rest (a.put o.dst (.slice A' (n + m) c')) w') :
    wpList P ops Q (o :: rest) a w :=
  wpList_plain hgd fun _ hK => wp_append_any s x t ho base e i z size bytes ht hi hz hsize hby hzs hsz v n xs hs hown A m c news hx hl hsrc h1 h63 hbytes hbase fun A' c' w' h2 h3 h4 => hK _ _ (h A' c' w' h2 h3 h4)
theorem step_append_any {P : Program} {w : World} {ops : Array Oper} {o : Oper} {a : Act} {K : Act → World → Prop} {Q : Exit → Act → World → Prop} {E : Prop} (hgd : o.guard = none) (s x : Operand) (t : TypeId)
    (ho : o.op = .call { callee := .builtin .append, args := #[s, x], argTypes := #[t, t] })
    (base : Nat) (e : TypeId) (i : TypeInfo) (z : Value) (size bytes : Nat) (ht : P.underlying t = some (.slice e)) (hi : P.info? e = some i) (hz : i.zero = some z)
    (hsize : i.size = size) (hby : i.bytes = bytes) (hzs : z.cells.size = size) (hsz : 0 < size)
    (v : Value) (n : Nat) (xs : List Value) (hs : a.eval s = v) (hown : w.ownsRow base e size v n xs)
    (A : Option Addr) (m c : Nat) (news : List Value) (hx : a.eval x = .slice A m c) (hl : news.length = m * size) (hsrc : SrcI w A m news) (h1 : ∀ u ∈ news, u.oneCell' = true)
    (h63 : n + m ≤ maxLen) (hbytes : (n + m) * bytes ≤ 140737488355328) (hbase : base ≤ w.heap.size)
    (h : ∀ A' c' w', w'.ownsRow base e size (.slice A' (n + m) c') (n + m) (xs ++ news) → w.grownBy w' v.ownBlock → ((Value.slice A' (n + m) c').ownBlock = v.ownBlock ∨ (Value.slice A' (n + m) c').ownBlock = some w.heap.size) → K (a.put o.dst (.slice A' (n + m) c')) w') :
    if Region.wanted o (yielded ops a.tmps) = true then Oper.wp P o a w K Q else E := by
  have hw : Region.wanted o (yielded ops a.tmps) = true := by simp [Region.wanted, hgd]
  rw [if_pos hw]
  exact wp_append_any s x t ho base e i z size bytes ht hi hz hsize hby hzs hsz v n xs hs hown A m c news hx hl hsrc h1 h63 hbytes hbase h

/-- Numbers as cells. -/
def nums (l : List Nat) : List Value := l.map (fun k => .int .i64 (k : Nat))
theorem nums_len (l : List Nat) : (nums l).length = l.length := by simp [nums]
theorem nums_one (l : List Nat) : ∀ u ∈ nums l, u.oneCell' = true := fun u hu => by
  simp [nums] at hu; obtain ⟨z, _, rfl⟩ := hu; rfl
theorem nums_at (l : List Nat) {j : Nat} (h : j < l.length) : (nums l)[j]? = some (.int .i64 (l.getD j 0 : Nat)) := by
  simp [nums, List.getD, h]
theorem nums_append (l l' : List Nat) : nums l ++ nums l' = nums (l ++ l') := by simp [nums]
theorem own_src {w : World} {base n m : Nat} {e : TypeId} {A : Option Addr} {c : Nat} {l : List Value} (h : w.ownsRow base e 1 (.slice A n c) n l) (hn : n = m) : SrcI w A m l := by
  rcases h.2 with ⟨h1, h0⟩ | ⟨g, cap, cur, hv, hb, hh, _⟩
  · injection h1 with h1
    exact .inr ⟨h1, by omega⟩
  · have hA : A = some ⟨g, 0, none⟩ := by injection hv
    subst hA
    refine .inl ⟨g, 0, rfl, fun j u hj => ?_⟩
    have := h.cells (g := g) rfl j u hj
    have e1 : (⟨g, 0, none⟩ : Addr).add j = ⟨g, 0 + j, none⟩ := by unfold Addr.add; split <;> simp_all
    rwa [e1] at this
set_option maxHeartbeats 1000000 in
/-- The reference's Copy of numbers. -/
theorem rcopy_calls (A : Option Addr) (m c : Nat) (l : List Nat) (w : World) (hl : l.length = m) (h : SrcI w A m (nums l)) (hm : m ≤ 2097152) :
    Calls Tryd.prog 54 #[.slice A m c] w fun e w' => ∃ v', e = .returned v' ∧ w'.ownsRow w.heap.size 3 1 v' m (nums l) ∧ Below w.heap.size w w' := by
  obtain ⟨i0, hi, hz0, hz1, hz2⟩ := info_parts info_nums
  have H := Lib.hid h
  have HL := Lib.hid (show (nums l).length = m * 1 by rw [nums_len]; omega)
  clear h hl
  go_enter Tryd.func54, Tryd.ntmps54
  go_wp2_with (at_builtin; refine wpList_append_any rfl _ _ 35 rfl w.heap.size 3 i0 (.int .i64 0) 1 8 Tryd.underlying35 hi hz0 hz1 hz2 rfl (by decide) _ 0 [] rfl (World.ownsRow_nil _ _ _ _) A m c (nums l) rfl HL.out H.out (nums_one l) (by unfold maxLen; omega) (by omega) (Nat.le_refl _) ?_; intro A1 c1 w1 o1 hg1 hat1)
  have hbel := below_grownA (Below.refl _ w) (World.ownsRow_nil w w.heap.size 3 1) hg1
  rw [Nat.zero_add, List.nil_append] at o1
  have HO := Lib.hid o1
  clear o1 hg1 hat1
  go_ret
  exact ⟨_, rfl, HO.out, hbel⟩

/-- The cells of steps. -/
def stepF (p : Nat × Nat) : List Value := [.int .i64 (p.1 : Nat), .int .i64 (p.2 : Nat)]
def steps (l : List (Nat × Nat)) : List Value := l.flatMap stepF
theorem steps_len : ∀ (l : List (Nat × Nat)), (steps l).length = l.length * 2
  | [] => rfl
  | x :: l => by simp [steps, stepF] at *; have := steps_len l; simp [steps, stepF] at this; omega
theorem steps_append (l l' : List (Nat × Nat)) : steps (l ++ l') = steps l ++ steps l' := by simp [steps]
theorem steps_one (l : List (Nat × Nat)) : ∀ u ∈ steps l, u.oneCell' = true := fun u hu => by
  simp only [steps, List.mem_flatMap, stepF] at hu
  obtain ⟨x, _, hu⟩ := hu
  simp at hu
  rcases hu with rfl | rfl <;> rfl
theorem steps_end (l r : List (Nat × Nat)) (f a b : Nat) : (steps (l ++ (f, a) :: r)).set (l.length * 2 + 1) (.int .i64 (b : Nat)) = steps (l ++ (f, b) :: r) := by
  have e1 : steps (l ++ (f, a) :: r) = steps l ++ (Value.int .i64 (f : Nat) :: Value.int .i64 (a : Nat) :: steps r) := by rw [steps_append]; simp [steps, stepF]
  have e2 : steps (l ++ (f, b) :: r) = steps l ++ (Value.int .i64 (f : Nat) :: Value.int .i64 (b : Nat) :: steps r) := by rw [steps_append]; simp [steps, stepF]
  rw [e1, e2, List.set_append_right _ _ (by rw [steps_len]; omega), steps_len, Nat.add_sub_cancel_left]
  rfl
/-- What became of a world in which one block and one owned row may have been written. -/
structure Fr (gS : Nat) (v : Value) (w w' : World) : Prop where
  os : w'.os = w.os
  tape : w'.tape = w.tape
  output : w'.output = w.output
  size : w.heap.size ≤ w'.heap.size
  block : ∀ k, k < w.heap.size → k ≠ gS → v.ownBlock ≠ some k → w'.heap[k]? = w.heap[k]?
section
variable {gS : Nat} {v v1 : Value} {w w1 w2 : World}
theorem Fr.refl : Fr gS v w w := ⟨rfl, rfl, rfl, Nat.le_refl _, fun _ _ _ _ => rfl⟩
theorem Fr.trans (h : Fr gS v w w1) (hv : v1.ownBlock = v.ownBlock ∨ ∃ g, v1.ownBlock = some g ∧ w.heap.size ≤ g) (h' : Fr gS v1 w1 w2) : Fr gS v w w2 :=
  ⟨h'.os.trans h.os, h'.tape.trans h.tape, h'.output.trans h.output, Nat.le_trans h.size h'.size, fun k hk h1 h2 => (h'.block k (Nat.lt_of_lt_of_le hk h.size) h1 (fun e => by
    rcases hv with hv | ⟨g, hv, hg⟩
    · rw [hv] at e; exact h2 e
    · rw [hv] at e; injection e with e; omega)).trans (h.block k hk h1 h2)⟩
theorem Fr.below (h : Below w.heap.size w w1) : Fr gS v w w1 := ⟨h.os, h.tape, h.output, h.size, fun k hk _ _ => h.block k hk⟩
theorem Fr.then (h : Fr gS v w w1) (h' : Below w1.heap.size w1 w2) : Fr gS v w w2 := h.trans (.inl rfl) (Fr.below h')
theorem Fr.grown (h : w.grownBy w1 v.ownBlock) : Fr gS v w w1 := ⟨h.os, h.tape, h.output, h.size, fun k hk _ h2 => h.block k hk (fun e => h2 e.symm)⟩
theorem Fr.set (j : Nat) (u : Value) : Fr gS v w (w.setCell ⟨gS, j, none⟩ u) := ⟨by simp [World.setCell], by simp [World.setCell], by simp [World.setCell], by simp, fun k _ h1 _ => Below.heap_setCell w ⟨gS, j, none⟩ u k h1⟩
theorem Fr.setOwn {g j : Nat} {u : Value} (hv : v.ownBlock = some g) : Fr gS v w (w.setCell ⟨g, j, none⟩ u) := ⟨by simp [World.setCell], by simp [World.setCell], by simp [World.setCell], by simp, fun k _ _ h2 => Below.heap_setCell w ⟨g, j, none⟩ u k (fun e => h2 (by rw [hv]; exact congrArg some e.symm))⟩
/-- What lies below a bound that neither reaches. -/
theorem Fr.under {B : Nat} (h : Fr gS v w w1) (hB : B ≤ w.heap.size) (hg : B ≤ gS) (hv : ∀ k, v.ownBlock = some k → B ≤ k) : Below B w w1 :=
  ⟨h.os, h.tape, h.output, h.size, fun k hk => h.block k (by omega) (by omega) (fun e => by have := hv k e; omega)⟩
end
end Go.Proofs.YtpamfhplklhnpaaDoor
