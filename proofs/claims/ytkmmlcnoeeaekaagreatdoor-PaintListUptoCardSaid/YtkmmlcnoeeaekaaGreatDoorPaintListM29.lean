/- Several texts in one: StkG, StkH. -/
import Derived.Test.YtkmmlcnoeeaekaaGreatDoorPaintListM28
import Derived.Test.YtkmmlcnoeeaekaaGreatDoorPaintListM24
import Derived.Deep.Upon
/- Words for the reference's Tell: steps, a frame, append of what may be nothing, Copy. -/
namespace Go.Proofs.YtkmmlcnoeeaekaaGreatDoor
open Go.RowKit
set_option linter.unusedVariables false
set_option linter.unusedSimpArgs false

theorem info_nums : (Tryz.prog.info? 3).map (fun i => (i.zero, i.size, i.bytes)) = some (some (.int .i64 0), 1, 8) := by kernel_rfl
theorem info_step : (Tryz.prog.info? 94).map (fun i => (i.zero, i.size, i.bytes)) = some (some (.agg #[.int .i64 0, .int .i64 0]), 2, 16) := by kernel_rfl
/-- What is to be appended: cells at A, or nothing. -/
def SrcI (w : World) (A : Option Addr) (m : Nat) (news : List Value) : Prop := (∃ b off, A = some ⟨b, off, none⟩ ∧ ∀ j u, news[j]? = some u → w.cell? ⟨b, off + j, none⟩ = some u) ∨ (A = none ∧ m = 0)
theorem SrcI.at_ {w w' : World} {A : Option Addr} {m : Nat} {news : List Value} (h : SrcI w A m news) (hb : ∀ b off, A = some ⟨b, off, none⟩ → ∀ j u, w.cell? ⟨b, off + j, none⟩ = some u → w'.cell? ⟨b, off + j, none⟩ = some u) : SrcI w' A m news := by
  rcases h with ⟨b, off, rfl, hc⟩ | h
  · exact .inl ⟨b, off, rfl, fun j u hj => hb b off rfl j u (hc j u hj)⟩
  · exact .inr h
theorem run_append_any {P : Program} (w : World) (base : Nat) (t ty e : TypeId) (i : TypeInfo) (z : Value) (size bytes : Nat) (ht : P.underlying t = some (.slice e)) (hi : P.info? e = some i) (hz : i.zero = some z)
    (hsize : i.size = size) (hby : i.bytes = bytes) (hzs : z.cells.size = size) (hsz : 0 < size)
    (v : Value) (n : Nat) (xs : List Value) (hown : w.ownsRow base e size v n xs)
    (A : Option Addr) (m c : Nat) (news : List Value) (hl : news.length = m * size) (hs : SrcI w A m news) (h1 : ∀ u ∈ news, u.oneCell' = true)
    (h63 : n + m ≤ maxLen) (hbytes : (n + m) * bytes ≤ 140737488355328) (hbase : base ≤ w.heap.size) :
    ∃ v' w', (Builtin.append_ #[t, t] ty #[v, .slice A m c]).run P w = .ok v' w' ∧ w'.ownsRow base e size v' (n + m) (xs ++ news) ∧ w.grownBy w' v.ownBlock ∧ (v'.ownBlock = v.ownBlock ∨ v'.ownBlock = some w.heap.size) := by
  rcases hs with ⟨b, off, rfl, hc⟩ | ⟨rfl, rfl⟩
  · obtain ⟨v', w', h2, h3, h4, _, h5⟩ := run_append_own_at (P := P) w base t ty e i z size bytes ht hi hz hsize hby hzs hsz v n xs hown ⟨b, off, none⟩ m c news hl (fun j u hj => by
      have e1 : (⟨b, off, none⟩ : Addr).add j = ⟨b, off + j, none⟩ := by unfold Addr.add; split <;> simp_all
      rw [e1]; exact hc j u hj) h1 h63 hbytes hbase
    exact ⟨v', w', h2, h3, h4, h5⟩
  · have hnil : news = [] := List.eq_nil_of_length_eq_zero (by simpa using hl)
    subst hnil
    have hrun : ∃ A' n' c', v = .slice A' n' c' ∧ n' ≤ c' := by
      rcases hown.2 with ⟨rfl, rfl⟩ | ⟨g, cap, cur, rfl, _, _, h3, _⟩
      · exact ⟨none, 0, 0, rfl, Nat.le_refl _⟩
      · exact ⟨_, _, _, rfl, h3⟩
    obtain ⟨A', n', c', rfl, hle⟩ := hrun
    refine ⟨_, w, run_append_nothing (P := P) w t t ty e i ht hi A' n' c' hle _ (Src.ofNil w ht c), ?_, ⟨rfl, rfl, rfl, Nat.le_refl _, fun _ _ _ => rfl⟩, .inl rfl⟩
    simpa using hown
theorem wp_append_any {P : Program} {w : World} {o : Oper} {a : Act} {K : Act → World → Prop} {Q : Exit → Act → World → Prop} (s x : Operand) (t : TypeId)
    (ho : o.op = .call { callee := .builtin .append, args := #[s, x], argTypes := #[t, t] })
    (base : Nat) (e : TypeId) (i : TypeInfo) (z : Value) (size bytes : Nat) (ht : P.underlying t = some (.slice e)) (hi : P.info? e = some i) (hz : i.zero = some z)
    (hsize : i.size = size) (hby : i.bytes = bytes) (hzs : z.cells.size = size) (hsz : 0 < size)
    (v : Value) (n : Nat) (xs : List Value) (hs : a.eval s = v) (hown : w.ownsRow base e size v n xs)
    (A : Option Addr) (m c : Nat) (news : List Value) (hx : a.eval x = .slice A m c) (hl : news.length = m * size) (hsrc : SrcI w A m news) (h1 : ∀ u ∈ news, u.oneCell' = true)
    (h63 : n + m ≤ maxLen) (hbytes : (n + m) * bytes ≤ 140737488355328) (hbase : base ≤ w.heap.size)
    (h : ∀ A' c' w', w'.ownsRow base e size (.slice A' (n + m) c') (n + m) (xs ++ news) → w.grownBy w' v.ownBlock → ((Value.slice A' (n + m) c').ownBlock = v.ownBlock ∨ (Value.slice A' (n + m) c').ownBlock = some w.heap.size) → K (a.put o.dst (.slice A' (n + m) c')) w') : o.wp P a w K Q := by
  obtain ⟨v', w', hr, h2, h3, h4⟩ := run_append_any (P := P) w base t o.type e i z size bytes ht hi hz hsize hby hzs hsz v n xs hown A m c news hl hsrc h1 h63 hbytes hbase
  obtain ⟨A', c', rfl⟩ := own_open h2
  unfold Oper.wp execOp
  simp only [ho, resolve, invoke, builtin, Sem.run_bind, Sem.run_pure, Result.andThen_ok, List.map_toArray, List.map_cons, List.map_nil, hs, hx, hr]
  exact h A' c' w' h2 h3 h4
theorem wpList_append_any {P : Program} {w : World} {ops : Array Oper} {rest : List Oper} {o : Oper} {a : Act} {Q : Exit → Act → World → Prop} (hgd : o.guard = none) (s x : Operand) (t : TypeId)
    (ho : o.op = .call { callee := .builtin .append, args := #[s, x], argTypes := #[t, t] })
    (base : Nat) (e : TypeId) (i : TypeInfo) (z : Value) (size bytes : Nat) (ht : P.underlying t = some (.slice e)) (hi : P.info? e = some i) (hz : i.zero = some z)
    (hsize : i.size = size) (hby : i.bytes = bytes) (hzs : z.cells.size = size) (hsz : 0 < size)
    (v : Value) (n : Nat) (xs : List Value) (hs : a.eval s = v) (hown : w.ownsRow base e size v n xs)
    (A : Option Addr) (m c : Nat) (news : List Value) (hx : a.eval x = .slice A m c) (hl : news.length = m * size) (hsrc : SrcI w A m news) (h1 : ∀ u ∈ news, u.oneCell' = true)
    (h63 : n + m ≤ maxLen) (hbytes : (n + m) * bytes ≤ 140737488355328) (hbase : base ≤ w.heap.size)
    (h : ∀ A' c' w', w'.ownsRow base e size (.slice A' (n + m) c') (n + m) (xs ++ news) → w.grownBy w' v.ownBlock → ((Value.slice A' (n + m) c').ownBlock = v.ownBlock ∨ (Value.slice A' (n + m) c').ownBlock = some w.heap.size) → wpList P ops Q rest (a.put o.dst (.slice A' (n + m) c')) w') :
    wpList P ops Q (o :: rest) a w :=
  wpList_plain hgd fun _ hK => wp_append_any s x t ho base e i z size bytes ht hi hz hsize hby hzs hsz v n xs hs hown A m c news hx hl hsrc h1 h63 hbytes hbase fun A' c' w' h2 h3 h4 => hK _ _ (h A' c' w' h2 h3 h4)
theorem step_append_any {P : Program} {w : World} {ops : Array Oper} {o : Oper} {a : Act} {K : Act → World → Prop} {Q : Exit → Act → World → Prop} {E : Prop} (hgd : o.guard = none) (s x : Operand) (t : TypeId)
    (ho : o.op = .call { callee := .builtin .append, args := #[s, x], argTypes := #[t, t] })
    (base : Nat) (e : TypeId) (i : TypeInfo) (z : Value) (size bytes : Nat) (ht : P.underlying t = some (.slice e)) (hi : P.info? e = some i) (hz : i.zero = some z)
    (hsize : i.size = size) (hby : i.bytes = bytes) (hzs : z.cells.size = size) (hsz : 0 < size)
    (v : Value) (n : Nat) (xs : List Value) (hs : a.eval s = v) (hown : w.ownsRow base e size v n xs)
    (A : Option Addr) (m c : Nat) (news : List Value) (hx : a.eval x = .slice A m c) (hl : news.length = m * size) (hsrc : SrcI w A m news) (h1 : ∀ u ∈ news, u.oneCell' = true)
    (h63 : n + m ≤ maxLen) (hbytes : (n + m) * bytes ≤ 140737488355328) (hbase : base ≤ w.heap.size)
    (h : ∀ A' c' w', w'.ownsRow base e size (.slice A' (n + m) c') (n + m) (xs ++ news) → w.grownBy w' v.ownBlock → ((Value.slice A' (n + m) c').ownBlock = v.ownBlock ∨ (Value.slice A' (n + m) c').ownBlock = some w.heap.size) → K (a.put o.dst (.slice A' (n + m) c')) w') :
    if Region.wanted o (yielded ops a.tmps) = true then Oper.wp P o a w K Q else E := by
  have hw : Region.wanted o (yielded ops a.tmps) = true := by simp [Region.wanted, hgd]
  rw [if_pos hw]
  exact wp_append_any s x t ho base e i z size bytes ht hi hz hsize hby hzs hsz v n xs hs hown A m c news hx hl hsrc h1 h63 hbytes hbase h

/-- Numbers as cells. -/
def nums (l : List Nat) : List Value := l.map (fun k => .int .i64 (k : Nat))
theorem nums_len (l : List Nat) : (nums l).length = l.length := by simp [nums]
theorem nums_one (l : List Nat) : ∀ u ∈ nums l, u.oneCell' = true := fun u hu => by
  simp [nums] at hu; obtain ⟨z, _, rfl⟩ := hu; rfl
theorem nums_at (l : List Nat) {j : Nat} (h : j < l.length) : (nums l)[j]? = some (.int .i64 (l.getD j 0 : Nat)) := by
  simp [nums, List.getD, h]
theorem nums_append (l l' : List Nat) : nums l ++ nums l' = nums (l ++ l') := by simp [nums]
theorem own_src {w : World} {base n m : Nat} {e : TypeId} {A : Option Addr} {c : Nat} {l : List Value} (h : w.ownsRow base e 1 (.slice A n c) n l) (hn : n = m) : SrcI w A m l := by
  rcases h.2 with ⟨h1, h0⟩ | ⟨g, cap, cur, hv, hb, hh, _⟩
  · injection h1 with h1
    exact .inr ⟨h1, by omega⟩
  · have hA : A = some ⟨g, 0, none⟩ := by injection hv
    subst hA
    refine .inl ⟨g, 0, rfl, fun j u hj => ?_⟩
    have := h.cells (g := g) rfl j u hj
    have e1 : (⟨g, 0, none⟩ : Addr).add j = ⟨g, 0 + j, none⟩ := by unfold Addr.add; split <;> simp_all
    rwa [e1] at this
set_option maxHeartbeats 1000000 in
/-- The reference's Copy of numbers. -/
theorem rcopy_calls (A : Option Addr) (m c : Nat) (l : List Nat) (w : World) (hl : l.length = m) (h : SrcI w A m (nums l)) (hm : m ≤ 2097152) :
    Calls Tryz.prog 89 #[.slice A m c] w fun e w' => ∃ v', e = .returned v' ∧ w'.ownsRow w.heap.size 3 1 v' m (nums l) ∧ Below w.heap.size w w' := by
  obtain ⟨i0, hi, hz0, hz1, hz2⟩ := info_parts info_nums
  have H := Lib.hid h
  have HL := Lib.hid (show (nums l).length = m * 1 by rw [nums_len]; omega)
  clear h hl
  go_enter Tryz.func89, Tryz.ntmps89
  go_wp2_with (at_builtin; refine wpList_append_any rfl _ _ 44 rfl w.heap.size 3 i0 (.int .i64 0) 1 8 Tryz.underlying44 hi hz0 hz1 hz2 rfl (by decide) _ 0 [] rfl (World.ownsRow_nil _ _ _ _) A m c (nums l) rfl HL.out H.out (nums_one l) (by unfold maxLen; omega) (by omega) (Nat.le_refl _) ?_; intro A1 c1 w1 o1 hg1 hat1)
  have hbel := below_grownA (Below.refl _ w) (World.ownsRow_nil w w.heap.size 3 1) hg1
  rw [Nat.zero_add, List.nil_append] at o1
  have HO := Lib.hid o1
  clear o1 hg1 hat1
  go_ret
  exact ⟨_, rfl, HO.out, hbel⟩

/-- The cells of steps. -/
def stepF (p : Nat × Nat) : List Value := [.int .i64 (p.1 : Nat), .int .i64 (p.2 : Nat)]
def steps (l : List (Nat × Nat)) : List Value := l.flatMap stepF
theorem steps_len : ∀ (l : List (Nat × Nat)), (steps l).length = l.length * 2
  | [] => rfl
  | x :: l => by simp [steps, stepF] at *; have := steps_len l; simp [steps, stepF] at this; omega
theorem steps_append (l l' : List (Nat × Nat)) : steps (l ++ l') = steps l ++ steps l' := by simp [steps]
theorem steps_one (l : List (Nat × Nat)) : ∀ u ∈ steps l, u.oneCell' = true := fun u hu => by
  simp only [steps, List.mem_flatMap, stepF] at hu
  obtain ⟨x, _, hu⟩ := hu
  simp at hu
  rcases hu with rfl | rfl <;> rfl
theorem steps_end (l r : List (Nat × Nat)) (f a b : Nat) : (steps (l ++ (f, a) :: r)).set (l.length * 2 + 1) (.int .i64 (b : Nat)) = steps (l ++ (f, b) :: r) := by
  have e1 : steps (l ++ (f, a) :: r) = steps l ++ (Value.int .i64 (f : Nat) :: Value.int .i64 (a : Nat) :: steps r) := by rw [steps_append]; simp [steps, stepF]
  have e2 : steps (l ++ (f, b) :: r) = steps l ++ (Value.int .i64 (f : Nat) :: Value.int .i64 (b : Nat) :: steps r) := by rw [steps_append]; simp [steps, stepF]
  rw [e1, e2, List.set_append_right _ _ (by rw [steps_len]; omega), steps_len, Nat.add_sub_cancel_left]
  rfl
/-- What became of a world in which one block and one owned row may have been written. -/
structure Fr (gS : Nat) (v : Value) (w w' : World) : Prop where
  os : w'.os = w.os
  tape : w'.tape = w.tape
  output : w'.output = w.output
  size : w.heap.size ≤ w'.heap.size
  block : ∀ k, k < w.heap.size → k ≠ gS → v.ownBlock ≠ some k → w'.heap[k]? = w.heap[k]?
section
variable {gS : Nat} {v v1 : Value} {w w1 w2 : World}
theorem Fr.refl : Fr gS v w w := ⟨rfl, rfl, rfl, Nat.le_refl _, fun _ _ _ _ => rfl⟩
theorem Fr.trans (h : Fr gS v w w1) (hv : v1.ownBlock = v.ownBlock ∨ ∃ g, v1.ownBlock = some g ∧ w.heap.size ≤ g) (h' : Fr gS v1 w1 w2) : Fr gS v w w2 :=
  ⟨h'.os.trans h.os, h'.tape.trans h.tape, h'.output.trans h.output, Nat.le_trans h.size h'.size, fun k hk h1 h2 => (h'.block k (Nat.lt_of_lt_of_le hk h.size) h1 (fun e => by
    rcases hv with hv | ⟨g, hv, hg⟩
    · rw [hv] at e; exact h2 e
    · rw [hv] at e; injection e with e; omega)).trans (h.block k hk h1 h2)⟩
theorem Fr.below (h : Below w.heap.size w w1) : Fr gS v w w1 := ⟨h.os, h.tape, h.output, h.size, fun k hk _ _ => h.block k hk⟩
theorem Fr.then (h : Fr gS v w w1) (h' : Below w1.heap.size w1 w2) : Fr gS v w w2 := h.trans (.inl rfl) (Fr.below h')
theorem Fr.grown (h : w.grownBy w1 v.ownBlock) : Fr gS v w w1 := ⟨h.os, h.tape, h.output, h.size, fun k hk _ h2 => h.block k hk (fun e => h2 e.symm)⟩
theorem Fr.set (j : Nat) (u : Value) : Fr gS v w (w.setCell ⟨gS, j, none⟩ u) := ⟨by simp [World.setCell], by simp [World.setCell], by simp [World.setCell], by simp, fun k _ h1 _ => Below.heap_setCell w ⟨gS, j, none⟩ u k h1⟩
theorem Fr.setOwn {g j : Nat} {u : Value} (hv : v.ownBlock = some g) : Fr gS v w (w.setCell ⟨g, j, none⟩ u) := ⟨by simp [World.setCell], by simp [World.setCell], by simp [World.setCell], by simp, fun k _ _ h2 => Below.heap_setCell w ⟨g, j, none⟩ u k (fun e => h2 (by rw [hv]; exact congrArg some e.symm))⟩
/-- What lies below a bound that neither reaches. -/
theorem Fr.under {B : Nat} (h : Fr gS v w w1) (hB : B ≤ w.heap.size) (hg : B ≤ gS) (hv : ∀ k, v.ownBlock = some k → B ≤ k) : Below B w w1 :=
  ⟨h.os, h.tape, h.output, h.size, fun k hk => h.block k (by omega) (by omega) (fun e => by have := hv k e; omega)⟩
end
end Go.Proofs.YtkmmlcnoeeaekaaGreatDoor
/- What the reference's Tell writes: plain laws of steps told, the state of a stacker that tells. -/
namespace Go.Proofs.YtkmmlcnoeeaekaaGreatDoor
open Go.RowKit
set_option linter.unusedVariables false
set_option linter.unusedSimpArgs false

section
variable {n : Nat} {par : Nat → Nat} {flat : Nat → Bool} {z phase : Nat → Int}
theorem climb_le (hp : ∀ k, 0 < k → k < n → par k < k) : ∀ (u g : Nat), g < n → climb par flat u g ≤ g
  | 0, g, _ => Nat.le_refl _
  | u + 1, g, hg => by
    rw [climb]
    split
    · rename_i h
      have h1 := hp g h.1 hg
      have := climb_le hp u (par g) (by omega)
      omega
    · exact Nat.le_refl _
theorem owner_lt (hp : ∀ k, 0 < k → k < n → par k < k) {k : Nat} (h0 : 0 < k) (hk : k < n) : ownerP par flat k < k := by
  have h1 := hp k h0 hk
  have := climb_le (flat := flat) hp (par k) (par k) (by omega)
  unfold ownerP; omega
theorem climb_firm (hp : ∀ k, 0 < k → k < n → par k < k) : ∀ (u g : Nat), g ≤ u → g < n → climb par flat u g = 0 ∨ flat (climb par flat u g) = false
  | 0, g, h, _ => by obtain rfl : g = 0 := by omega
                     exact .inl rfl
  | u + 1, g, h, hg => by
    rw [climb]
    split
    · rename_i h'
      have h1 := hp g h'.1 hg
      exact climb_firm hp u (par g) (by omega) (by omega)
    · rename_i h'
      by_cases e : g = 0
      · exact .inl e
      · refine .inr ?_
        cases hf : flat g
        · rfl
        · exact absurd ⟨by omega, hf⟩ h'
theorem owner_firm (hp : ∀ k, 0 < k → k < n → par k < k) (h00 : flat 0 = false) {k : Nat} (h0 : 0 < k) (hk : k < n) : flat (ownerP par flat k) = false := by
  have h1 := hp k h0 hk
  rcases climb_firm (flat := flat) hp (par k) (par k) (Nat.le_refl _) (by omega) with h | h
  · unfold ownerP; rw [h]; exact h00
  · exact h
theorem rankedP_step (f : Nat) (ph : Int) (m : Nat) : rankedP par flat z phase f ph (m + 1) = if 0 < m ∧ ownerP par flat m = f ∧ phase m = ph then insR z m (rankedP par flat z phase f ph m) else rankedP par flat z phase f ph m := rfl
theorem insR_len (k : Nat) : ∀ l, (insR z k l).length = l.length + 1
  | [] => rfl
  | a :: l => by rw [insR]; split <;> simp [insR_len k l]
theorem ranked_len (f : Nat) (ph : Int) : ∀ m, (rankedP par flat z phase f ph m).length ≤ m
  | 0 => by simp [rankedP]
  | m + 1 => by
    rw [rankedP_step]
    have := ranked_len f ph m
    split
    · rw [insR_len]; omega
    · omega
theorem len_nodup {l : List Nat} {n : Nat} (h : l.Nodup) (hl : ∀ x ∈ l, x < n) : l.length ≤ n := by
  have hp : l.Perm ((List.range n).filter (fun x => decide (x ∈ l))) := (List.perm_ext_iff_of_nodup h (List.Nodup.sublist List.filter_sublist List.nodup_range)).2 (fun x => by
    simp only [List.mem_filter, List.mem_range, decide_eq_true_eq]
    exact ⟨fun hx => ⟨hl x hx, hx⟩, fun hx => hx.2⟩)
  rw [hp.length_eq]
  have := List.length_filter_le (fun x => decide (x ∈ l)) (List.range n)
  simpa using this
/-- What is told, counted. -/
theorem tells_len (g : Nat → Nat → List (Nat × Nat)) (c : Nat → Nat) (hg : ∀ k a, (g k a).length = c k) : ∀ (l : List Nat) (a : Nat), (tells g l a).length = (l.map c).sum
  | [], a => rfl
  | k :: l, a => by simp [tells, hg, tells_len g c hg l]
def cntT (own : Nat → List Nat) : Nat → Nat → Nat
  | 0, _ => 0
  | u + 1, f => 1 + ((own f).map (cntT own u)).sum
theorem tellN_len (own : Nat → List Nat) : ∀ (u f a : Nat), (tellN own u f a).length = cntT own u f
  | 0, f, a => rfl
  | u + 1, f, a => by
    rw [tellN, List.length_cons, tells_len (tellN own u) (cntT own u) (fun k a => tellN_len own u k a), cntT]
    omega
/-- .. as many as there are below, at most. -/
theorem cntT_le (hp : ∀ k, 0 < k → k < n → par k < k) (own : Nat → List Nat) (ow : Nat → Nat) (ho : ∀ k, 0 < k → k < n → ow k < k) (hown : ∀ f, own f = [] ∨ (own f).Perm (kidsP n ow f)) : ∀ (u f : Nat), cntT own u f ≤ 1 + (belongP n ow (fun _ => true) u f).length
  | 0, f => by simp [cntT]
  | u + 1, f => by
    rw [cntT, belongP]
    rcases hown f with h | h
    · rw [h]; simp
    · rw [(h.map (cntT own u)).sum_nat]
      have : ∀ l : List Nat, (l.map (cntT own u)).sum ≤ (l.flatMap (fun k => k :: if (fun _ => true) k = true then belongP n ow (fun _ => true) u k else [])).length := by
        intro l
        induction l with
        | nil => simp
        | cons k l ih =>
          have h1 := cntT_le hp own ow ho hown u k
          simp only [List.map_cons, List.sum_cons, List.flatMap_cons, List.length_append, List.length_cons, if_true]
          simp only [if_true] at ih
          omega
      exact Nat.add_le_add_left (this (kidsP n ow f)) 1
theorem tell_count (hp : ∀ k, 0 < k → k < n → par k < k) (h00 : flat 0 = false) (hph : ∀ k, 0 ≤ phase k ∧ phase k < 5) (h0 : 0 < n) (a : Nat) :
    (tellN (fun f => if flat f then [] else ownL n par flat z phase f) n 0 a).length ≤ n := by
  have ho : ∀ k, 0 < k → k < n → ownerP par flat k < k := fun k h1 h2 => owner_lt hp h1 h2
  rw [tellN_len]
  have h1 := cntT_le (n := n) hp (fun f => if flat f then [] else ownL n par flat z phase f) (ownerP par flat) ho (fun f => by
    cases hf : flat f
    · refine .inr ?_
      simp only [Bool.false_eq_true, if_false]
      refine (List.perm_ext_iff_of_nodup ?_ (kids_nodup n (ownerP par flat) ho f)).2 (fun x => ?_)
      · exact (ownL_sorted n par flat z phase f).imp (fun {a b} h => by intro e; subst e; exact ltP_irr z phase a h)
      · rw [mem_ownL n par flat z phase hph, mem_kids]
        constructor
        · rintro ⟨⟨h1, h2⟩, h3⟩; exact ⟨h2, h1, h3⟩
        · rintro ⟨h1, h2, h3⟩; exact ⟨⟨h2, h1⟩, h3⟩
    · left; simp) n 0
  have h2 : (belongP n (ownerP par flat) (fun _ => true) n 0).length + 1 ≤ n := by
    have hnd := belong_nodup n (ownerP par flat) (fun _ => true) ho n 0 (by omega)
    have hsub : (0 :: belongP n (ownerP par flat) (fun _ => true) n 0) ⊆ List.range n := by
      intro x hx
      rcases List.mem_cons.1 hx with rfl | hx
      · simpa using h0
      · have := belong_gt n (ownerP par flat) (fun _ => true) ho _ _ _ hx
        simpa using this.2
    have hnd2 : (0 :: belongP n (ownerP par flat) (fun _ => true) n 0).Nodup := by
      rw [List.nodup_cons]
      exact ⟨fun hx => by have := belong_gt n (ownerP par flat) (fun _ => true) ho _ _ _ hx; omega, hnd⟩
    have := len_nodup hnd2 (fun x hx => by simpa using hsub hx)
    simpa using this
  omega
end
end Go.Proofs.YtkmmlcnoeeaekaaGreatDoor
