/- Several texts in one: Apart, Appd, TeC. -/
import Derived.Test.YtcghahfboccceaaGreatDoorTopEscapeM8
import Derived.Deep.AppendLies
import Derived.Deep.Upon
import Derived.WalkKit
import Derived.Test.YtcghahfboccceaaGreatDoorTopEscapeM6
import Derived.Test.YtcghahfboccceaaGreatDoorTopEscapeM7
import Derived.Lib.Builder
import Derived.Lib.AppendStr
import Derived.Lib.FrozenHead
import Derived.Lib.OthersKept
/- Owned slices that lie apart; append, where the list then lies. -/
namespace Go.Proofs.YtcghahfboccceaaGreatDoor
open Go.RowKit
set_option linter.unusedVariables false

def Ap (a b : Value) : Prop := ∀ g, a.ownBlock = some g → b.ownBlock ≠ some g
theorem Ap.symm {a b : Value} (h : Ap a b) : Ap b a := fun g h1 h2 => h g h2 h1
theorem Ap.nil (b : Value) (n c : Nat) : Ap (.slice none n c) b := fun g h => by simp [Value.ownBlock] at h
theorem Ap.of_ne {g g' n n' c c' : Nat} (h : g ≠ g') : Ap (.slice (some ⟨g, 0, none⟩) n c) (.slice (some ⟨g', 0, none⟩) n' c') := fun x h1 h2 => by
  simp [Value.ownBlock] at h1 h2; omega
theorem Ap.far {a : Value} {g n c : Nat} (h : Ap (.slice (some ⟨g, 0, none⟩) n c) a) : a.ownBlock ≠ some g := h g (by simp [Value.ownBlock])
section
variable {w w' : World} {base size n : Nat} {e : TypeId} {v v1 : Value} {xs : List Value}
/-- Another list grows. -/
theorem own_grownFar (h : w.ownsRow base e size v n xs) (hap : Ap v1 v) (hg : w.grownBy w' v1.ownBlock) : w'.ownsRow base e size v n xs :=
  own_heap h fun g hv => hg.block g (h.lt g hv).2 (fun e => hap g e.symm hv)
theorem ap_grown {g m c H : Nat} (h : w.ownsRow base e size v n xs) (hap : Ap v1 v) (hat : v1.ownBlock = some g ∨ g = H) (hH : w.heap.size ≤ H) : Ap (.slice (some ⟨g, 0, none⟩) m c) v := fun x h1 h2 => by
  have hx : g = x := by simpa [Value.ownBlock] using h1
  subst hx
  rcases hat with h3 | h3
  · exact hap g h3 h2
  · have := (h.lt g h2).2; omega
theorem below_grownA {W wr : World} (hb : Below W.heap.size W w) (h : wr.ownsRow W.heap.size e size v n xs) (hg : w.grownBy w' v.ownBlock) : Below W.heap.size W w' :=
  hb.grown hg hb.size (fun k hk => (h.lt k hk).1)
end
theorem wpList_append_lies {P : Program} {w : World} {ops : Array Oper} {rest : List Oper} {o : Oper} {a : Act} {Q : Exit → Act → World → Prop} (hgd : o.guard = none) (s x : Operand) (t : TypeId)
    (ho : o.op = .call { callee := .builtin .append, args := #[s, x], argTypes := #[t, t] })
    (base : Nat) (e : TypeId) (i : TypeInfo) (z : Value) (size bytes : Nat) (ht : P.underlying t = some (.slice e)) (hi : P.info? e = some i) (hz : i.zero = some z)
    (hsize : i.size = size) (hby : i.bytes = bytes) (hzs : z.cells.size = size) (hsz : 0 < size)
    (v : Value) (n : Nat) (xs : List Value) (hs : a.eval s = v) (hown : w.ownsRow base e size v n xs)
    (ad : Addr) (m c : Nat) (news : List Value) (hx : a.eval x = .slice (some ad) m c) (hl : news.length = m * size) (hnews : ∀ j u, news[j]? = some u → w.cell? (ad.add j) = some u) (h1 : ∀ u ∈ news, u.oneCell' = true)
    (hm : 0 < m) (h63 : n + m ≤ maxLen) (hbytes : (n + m) * bytes ≤ 140737488355328) (hbase : base ≤ w.heap.size) (H : Nat) (hH : w.heap.size = H)
    (h : ∀ g cap w', w'.ownsRow base e size (.slice (some ⟨g, 0, none⟩) (n + m) cap) (n + m) (xs ++ news) → w.grownBy w' v.ownBlock → (v.ownBlock = some g ∨ g = H) → g < w'.heap.size → wpList P ops Q rest (a.put o.dst (.slice (some ⟨g, 0, none⟩) (n + m) cap)) w') :
    wpList P ops Q (o :: rest) a w :=
  wpList_plain hgd fun _ hK => wp_append_lies w s x t ho base e i z size bytes ht hi hz hsize hby hzs hsz v n xs hs hown ad m c news hx hl hnews h1 hm h63 hbytes hbase H hH fun g cap w' h2 h3 h4 h5 => hK _ _ (h g cap w' h2 h3 h4 h5)
end Go.Proofs.YtcghahfboccceaaGreatDoor
/- Append of what may be nothing, to a row that is owned (as in StkG). -/
namespace Go.Proofs.YtcghahfboccceaaGreatDoor
open Go.RowKit
set_option linter.unusedVariables false
set_option linter.unusedSimpArgs false
/-- What is to be appended: cells at A, or nothing. -/
def SrcI (w : World) (A : Option Addr) (m : Nat) (news : List Value) : Prop := (∃ b off, A = some ⟨b, off, none⟩ ∧ ∀ j u, news[j]? = some u → w.cell? ⟨b, off + j, none⟩ = some u) ∨ (A = none ∧ m = 0)
theorem SrcI.at_ {w w' : World} {A : Option Addr} {m : Nat} {news : List Value} (h : SrcI w A m news) (hb : ∀ b off, A = some ⟨b, off, none⟩ → ∀ j u, w.cell? ⟨b, off + j, none⟩ = some u → w'.cell? ⟨b, off + j, none⟩ = some u) : SrcI w' A m news := by
  rcases h with ⟨b, off, rfl, hc⟩ | h
  · exact .inl ⟨b, off, rfl, fun j u hj => hb b off rfl j u (hc j u hj)⟩
  · exact .inr h
theorem run_append_any {P : Program} (w : World) (base : Nat) (t ty e : TypeId) (i : TypeInfo) (z : Value) (size bytes : Nat) (ht : P.underlying t = some (.slice e)) (hi : P.info? e = some i) (hz : i.zero = some z)
    (hsize : i.size = size) (hby : i.bytes = bytes) (hzs : z.cells.size = size) (hsz : 0 < size)
    (v : Value) (n : Nat) (xs : List Value) (hown : w.ownsRow base e size v n xs)
    (A : Option Addr) (m c : Nat) (news : List Value) (hl : news.length = m * size) (hs : SrcI w A m news) (h1 : ∀ u ∈ news, u.oneCell' = true)
    (h63 : n + m ≤ maxLen) (hbytes : (n + m) * bytes ≤ 140737488355328) (hbase : base ≤ w.heap.size) :
    ∃ v' w', (Builtin.append_ #[t, t] ty #[v, .slice A m c]).run P w = .ok v' w' ∧ w'.ownsRow base e size v' (n + m) (xs ++ news) ∧ w.grownBy w' v.ownBlock ∧ (v'.ownBlock = v.ownBlock ∨ v'.ownBlock = some w.heap.size) := by
  rcases hs with ⟨b, off, rfl, hc⟩ | ⟨rfl, rfl⟩
  · obtain ⟨v', w', h2, h3, h4, _, h5⟩ := run_append_own_at (P := P) w base t ty e i z size bytes ht hi hz hsize hby hzs hsz v n xs hown ⟨b, off, none⟩ m c news hl (fun j u hj => by
      have e1 : (⟨b, off, none⟩ : Addr).add j = ⟨b, off + j, none⟩ := by unfold Addr.add; split <;> simp_all
      rw [e1]; exact hc j u hj) h1 h63 hbytes hbase
    exact ⟨v', w', h2, h3, h4, h5⟩
  · have hnil : news = [] := List.eq_nil_of_length_eq_zero (by simpa using hl)
    subst hnil
    have hrun : ∃ A' n' c', v = .slice A' n' c' ∧ n' ≤ c' := by
      rcases hown.2 with ⟨rfl, rfl⟩ | ⟨g, cap, cur, rfl, _, _, h3, _⟩
      · exact ⟨none, 0, 0, rfl, Nat.le_refl _⟩
      · exact ⟨_, _, _, rfl, h3⟩
    obtain ⟨A', n', c', rfl, hle⟩ := hrun
    refine ⟨_, w, run_append_nothing (P := P) w t t ty e i ht hi A' n' c' hle _ (Src.ofNil w ht c), ?_, ⟨rfl, rfl, rfl, Nat.le_refl _, fun _ _ _ => rfl⟩, .inl rfl⟩
    simpa using hown
theorem wp_append_any {P : Program} {w : World} {o : Oper} {a : Act} {K : Act → World → Prop} {Q : Exit → Act → World → Prop} (s x : Operand) (t : TypeId)
    (ho : o.op = .call { callee := .builtin .append, args := #[s, x], argTypes := #[t, t] })
    (base : Nat) (e : TypeId) (i : TypeInfo) (z : Value) (size bytes : Nat) (ht : P.underlying t = some (.slice e)) (hi : P.info? e = some i) (hz : i.zero = some z)
    (hsize : i.size = size) (hby : i.bytes = bytes) (hzs : z.cells.size = size) (hsz : 0 < size)
    (v : Value) (n : Nat) (xs : List Value) (hs : a.eval s = v) (hown : w.ownsRow base e size v n xs)
    (A : Option Addr) (m c : Nat) (news : List Value) (hx : a.eval x = .slice A m c) (hl : news.length = m * size) (hsrc : SrcI w A m news) (h1 : ∀ u ∈ news, u.oneCell' = true)
    (h63 : n + m ≤ maxLen) (hbytes : (n + m) * bytes ≤ 140737488355328) (hbase : base ≤ w.heap.size)
    (h : ∀ A' c' w', w'.ownsRow base e size (.slice A' (n + m) c') (n + m) (xs ++ news) → w.grownBy w' v.ownBlock → ((Value.slice A' (n + m) c').ownBlock = v.ownBlock ∨ (Value.slice A' (n + m) c').ownBlock = some w.heap.size) → K (a.put o.dst (.slice A' (n + m) c')) w') : o.wp P a w K Q := by
  obtain ⟨v', w', hr, h2, h3, h4⟩ := run_append_any (P := P) w base t o.type e i z size bytes ht hi hz hsize hby hzs hsz v n xs hown A m c news hl hsrc h1 h63 hbytes hbase
  obtain ⟨A', c', rfl⟩ := own_open h2
  unfold Oper.wp execOp
  simp only [ho, resolve, invoke, builtin, Sem.run_bind, Sem.run_pure, Result.andThen_ok, List.map_toArray, List.map_cons, List.map_nil, hs, hx, hr]
  exact h A' c' w' h2 h3 h4
theorem wpList_append_any {P : Program} {w : World} {ops : Array Oper} {rest : List Oper} {o : Oper} {a : Act} {Q : Exit → Act → World → Prop} (hgd : o.guard = none) (s x : Operand) (t : TypeId)
    (ho : o.op = .call { callee := .builtin .append, args := #[s, x], argTypes := #[t, t] })
    (base : Nat) (e : TypeId) (i : TypeInfo) (z : Value) (size bytes : Nat) (ht : P.underlying t = some (.slice e)) (hi : P.info? e = some i) (hz : i.zero = some z)
    (hsize : i.size = size) (hby : i.bytes = bytes) (hzs : z.cells.size = size) (hsz : 0 < size)
    (v : Value) (n : Nat) (xs : List Value) (hs : a.eval s = v) (hown : w.ownsRow base e size v n xs)
    (A : Option Addr) (m c : Nat) (news : List Value) (hx : a.eval x = .slice A m c) (hl : news.length = m * size) (hsrc : SrcI w A m news) (h1 : ∀ u ∈ news, u.oneCell' = true)
    (h63 : n + m ≤ maxLen) (hbytes : (n + m) * bytes ≤ 140737488355328) (hbase : base ≤ w.heap.size)
    (h : ∀ A' c' w', w'.ownsRow base e size (.slice A' (n + m) c') (n + m) (xs ++ news) → w.grownBy w' v.ownBlock → ((Value.slice A' (n + m) c').ownBlock = v.ownBlock ∨ (Value.slice A' (n + m) c').ownBlock = some w.heap.size) → wpList P ops Q rest (a.put o.dst (.slice A' (n + m) c')) w') :
    wpList P ops Q (o :: rest) a w :=
  wpList_plain hgd fun _ hK => wp_append_any s x t ho base e i z size bytes ht hi hz hsize hby hzs hsz v n xs hs hown A m c news hx hl hsrc h1 h63 hbytes hbase fun A' c' w' h2 h3 h4 => hK _ _ (h A' c' w' h2 h3 h4)
end Go.Proofs.YtcghahfboccceaaGreatDoor
/- strings.Builder: what writes (the shelf's contracts of these do not fit this program: copyCheck's panic is refused by the loader). -/
namespace Go.Proofs.YtcghahfboccceaaGreatDoor
open Go.RowKit Go.Shelf
set_option linter.unusedVariables false
set_option linter.unusedSimpArgs false

/-- A Builder at b that holds the cells xs, in a row v. -/
structure BldAt (B b : Nat) (p v : Value) (xs : List Value) (w : World) : Prop where
  lo : B ≤ b
  blk : Blk w b 65 #[p, v]
  own : w.ownsRow B 5 1 v xs.length xs
def Bld (B b : Nat) (xs : List Value) (w : World) : Prop := ∃ p v, (p = .pointer none ∨ p = .pointer (some ⟨b, 0, none⟩)) ∧ BldAt B b p v xs w
theorem BldAt.ne {B b : Nat} {p v : Value} {xs : List Value} {w : World} (h : BldAt B b p v xs w) : v.ownBlock ≠ some b := blk_ne h.blk h.own (by decide)
theorem Bld.is {B b : Nat} {xs : List Value} {w : World} (h : Bld B b xs w) : Lib.IsBuilderF 65 5 B b xs w := by
  obtain ⟨p, v, hp | hp, h⟩ := h
  · subst hp; exact Lib.IsBuilderF.of (.inl ⟨h.lo, v, h.blk, h.own, h.ne⟩)
  · subst hp; exact Lib.IsBuilderF.of (.inr ⟨h.lo, v, h.blk, h.own, h.ne⟩)
theorem infoBuilder : (Tryz.prog.info? 65).map (fun i => i.size) = some 2 := by kernel_rfl
theorem liesBuilder : liesAt Tryz.prog Tryz.prog.depth 65 (2 / Tryz.prog.cellsOf 65) 0 65 1 = true := by kernel_rfl
theorem blk_shape {w : World} {g : Nat} {t : TypeId} {cs : Array Value} (h : Blk w g t cs) : w.shape? g = some (t, cs.size) := by
  unfold Blk at h
  simp [World.shape?, h]
/-- Nothing but block b is written; no block is new. -/
structure OnlyB (b : Nat) (w w' : World) : Prop where
  os : w'.os = w.os
  tape : w'.tape = w.tape
  output : w'.output = w.output
  size : w'.heap.size = w.heap.size
  block : ∀ k, k ≠ b → w'.heap[k]? = w.heap[k]?
set_option maxRecDepth 100000 in
set_option maxHeartbeats 2000000 in
theorem copyCheck_calls (b : Nat) (p v : Value) (w : World) (hp : p = .pointer none ∨ p = .pointer (some ⟨b, 0, none⟩)) (h : Blk w b 65 #[p, v]) :
    Calls Tryz.prog 53 #[.pointer (some ⟨b, 0, none⟩)] w fun e w' => e = .returned (.tuple #[]) ∧ OnlyB b w w' ∧ Blk w' b 65 #[.pointer (some ⟨b, 0, none⟩), v] := by
  obtain ⟨j, hj, hjs⟩ := Option.map_eq_some_iff.1 infoBuilder
  have c0 : w.cell? ⟨b, 0, none⟩ = some p := h.cell 0
  have f0 := h.free 0
  have hsh : w.shape? b = some (65, 2) := blk_shape h
  have HH := Lib.hid h
  have HSH := Lib.hid hsh
  have HJ := Lib.hid hj
  have HJS := Lib.hid hjs
  clear h hsh hj hjs
  rcases hp with rfl | rfl
  · go_enter Tryz.func53, Tryz.ntmps53
    go_wp2
    rw [Lib.run_to_unsafe w ⟨b, 0, none⟩ Tryz.underlying62 Tryz.underlying126 HJ.out (by rw [HJS.out]; decide) HSH.out (Nat.zero_lt_succ 1)]
    simp only [Result.andThen]
    rw [Oper.upon_value]
    go_wp2
    rw [run_callFunc_extern Tryz.func74 (by kernel_rfl) (by kernel_rfl) (by kernel_rfl) (e := Extern.AbiNoEscape.same) (by kernel_rfl)]
    rw [Lib.run_noEscape]
    simp only [Result.andThen]
    rw [Oper.upon_value]
    go_wp2
    rw [Lib.run_from_unsafe w ⟨b, 0, none⟩ Tryz.underlying126 Tryz.underlying62 HJ.out HSH.out liesBuilder]
    simp only [Result.andThen]
    rw [Oper.upon_value]
    have c1 : (w.setCell ⟨b, 0, none⟩ (.pointer (some ⟨b, 0, none⟩))).cell? ⟨b, 0, none⟩ = some (.pointer (some ⟨b, 0, none⟩)) := (HH.out.stored 0 _).cell 0
    go_wp2
    go_end0
    exact ⟨rfl, ⟨rfl, rfl, rfl, by simp, fun k hk => Below.heap_setCell w ⟨b, 0, none⟩ _ k hk⟩, HH.out.stored 0 _⟩
  · go_enter Tryz.func53, Tryz.ntmps53
    go_wp2
    rw [Lib.run_neq_ptr_same w _ Tryz.underlying62 HJ.out]
    go_wp2
    go_end0
    exact ⟨rfl, ⟨rfl, rfl, rfl, rfl, fun _ _ => rfl⟩, HH.out⟩
theorem infoU8 : (Tryz.prog.info? 5).map (fun i => (i.zero, i.size, i.bytes)) = some (some (.int .u8 0), 1, 1) := by kernel_rfl
/-- What WriteByte, WriteString, WriteRune leave: blocks that are neither b nor rows of bytes stay. -/
def Wrote (B b : Nat) (xs : List Value) (w w' : World) : Prop := (∃ v', BldAt B b (.pointer (some ⟨b, 0, none⟩)) v' xs w') ∧ Below B w w' ∧ Lib.OthersKept 5 (some b) w w'
theorem own_cells {w : World} {base n size : Nat} {e : TypeId} {v : Value} {xs : List Value} (h : w.ownsRow base e size v n xs) {g : Nat} (hg : v.ownBlock = some g) : ∃ c fz, w.heap[g]? = some (.cells c e fz) := by
  rcases h.2 with ⟨rfl, _⟩ | ⟨g', cap, cur, rfl, _, h2, _⟩
  · cases hg
  · have : g' = g := by simpa [Value.ownBlock] using hg
    subst this
    exact ⟨_, _, h2⟩
theorem blk_grownB {w w' : World} {g : Nat} {t : TypeId} {cs : Array Value} {row : Option Nat} (h : Blk w g t cs) (hg : w.grownBy w' row) (hr : row ≠ some g) : Blk w' g t cs := (hg.block g h.lt (fun e => hr e.symm)).trans h
theorem wrote_of {B b : Nat} {p v v9 : Value} {xs ys : List Value} {w w1 w9 : World} {o : Obj} (H : BldAt B b p v xs w) (hO : OnlyB b w w1) (hb : Blk w1 b 65 #[.pointer (some ⟨b, 0, none⟩), v])
    (hB : B ≤ w.heap.size) (ho9 : w9.ownsRow B 5 1 v9 ys.length ys) (hg9 : (w1.alloc o).grownBy w9 v.ownBlock) :
    Blk w9 b 65 #[.pointer (some ⟨b, 0, none⟩), v] ∧ Wrote B b ys w (w9.setCell ⟨b, 1, none⟩ v9) := by
  have hb9 := blk_grownB (hb.alloc o) hg9 H.ne
  have hlt0 : b < w.heap.size := H.blk.lt
  have hsz := hO.size
  have h1 : Lib.OthersKept 5 (some b) w w1 := fun k x hk hkb _ => (hO.block k (fun e => hkb (congrArg some e))).trans hk
  have hw1 : Below B w w1 := ⟨hO.os, hO.tape, hO.output, by omega, fun k hk => hO.block k (by have := H.lo; omega)⟩
  have hrow : ∀ g, v.ownBlock = some g → ∃ c fz, (w1.alloc o).heap[g]? = some (.cells c 5 fz) := fun g hg => by
    obtain ⟨c, fz, hc⟩ := own_cells H.own hg
    refine ⟨c, fz, ?_⟩
    have hgl := (H.own.lt g hg).2
    rw [Below.heap_alloc w1 o g (by omega), hO.block g (fun e => H.ne (by rw [hg, e]))]
    exact hc
  refine ⟨hb9, ⟨_, H.lo, hb9.stored 1 _, own_setFar ho9 (blk_ne hb9 ho9 (by decide))⟩, ?_, ?_⟩
  · exact ((hw1.alloc (by omega) o).grown hg9 (by simp; omega) (fun q hq => (H.own.lt q hq).1)).setCell (p := ⟨b, 1, none⟩) H.lo _
  · exact ((h1.alloc o).grown hg9 hrow).setCell ⟨b, 1, none⟩ rfl _
set_option maxRecDepth 100000 in
set_option maxHeartbeats 4000000 in
theorem writeByte_calls (B b : Nat) (p v : Value) (xs : List Value) (c : Int) (w : World) (hp : p = .pointer none ∨ p = .pointer (some ⟨b, 0, none⟩)) (h : BldAt B b p v xs w) (hlen : xs.length + 1 ≤ 140737488355328) (hB : B ≤ w.heap.size) :
    Calls Tryz.prog 30 #[.pointer (some ⟨b, 0, none⟩), .int .u8 c] w fun e w' => e = .returned .nilIface ∧ Wrote B b (xs ++ [.int .u8 c]) w w' := by
  obtain ⟨i0, hi, hz0, hz1, hz2⟩ := info_parts infoU8
  obtain ⟨A, cp, rfl⟩ : ∃ A cp, v = .slice A xs.length cp := own_open h.own
  have HC := Lib.hid (copyCheck_calls b p _ w hp h.blk)
  have H := Lib.hid h
  have HNE := Lib.hid h.ne
  have hlt := h.blk.lt
  obtain ⟨n, hn⟩ : ∃ n, n = xs.length := ⟨_, rfl⟩
  rw [← hn] at hlen HC H HNE
  have HN := Lib.hid hn
  have HWO : Hid (∀ (w1 w9 : World) (o : Obj) (v9 : Value), OnlyB b w w1 → Blk w1 b 65 #[.pointer (some ⟨b, 0, none⟩), .slice A n cp] → w9.ownsRow B 5 1 v9 (n + 1) (xs ++ [.int .u8 c]) → (w1.alloc o).grownBy w9 (Value.slice A n cp).ownBlock →
      Blk w9 b 65 #[.pointer (some ⟨b, 0, none⟩), .slice A n cp] ∧ Wrote B b (xs ++ [.int .u8 c]) w (w9.setCell ⟨b, 1, none⟩ v9)) := fun w1 w9 o v9 h1 h2 h3 h4 => wrote_of H.out h1 h2 hB (by rw [List.length_append, ← HN.out]; exact h3) h4
  clear h hp hn
  go_enter Tryz.func30, Tryz.ntmps30
  go_wp2_with (first
    | (go_at_call 53; refine HC.out.mono ?_; rintro e w1 ⟨rfl, ho, hb⟩; (have c1 := hb.cell 1); simp only [List.getElem?_toArray, List.getElem?_cons_succ, List.getElem?_cons_zero] at c1; (have HO := Lib.hid ho); (have HB := Lib.hid hb); (have hown := own_heap H.out.own (fun g hg => ho.block g (fun e => HNE.out (by rw [hg, e])))); rw [← HN.out] at hown; (have HOA := Lib.hid (own_heap hown (w' := w1.alloc (.cells #[.int .u8 c] 5)) (fun g hg => Below.heap_alloc _ _ g (hown.lt g hg).2))); clear ho hb hown)
    | (at_builtin; refine wpList_append_any rfl _ _ 63 rfl B 5 i0 (.int .u8 0) 1 1 Tryz.underlying63 hi hz0 hz1 hz2 rfl (by decide) _ n xs rfl HOA.out (some ⟨w1.heap.size, 0, none⟩) 1 1 [.int .u8 c] rfl rfl (.inl ⟨w1.heap.size, 0, rfl, fun j u hj => by rw [Nat.zero_add, (Blk.new w1 5 #[.int .u8 c]).cell j]; simpa using hj⟩) (fun u hu => by simp at hu; subst hu; rfl) (by unfold maxLen; omega) (by omega) (by have := HO.out.size; simp; omega) ?_; intro A9 c9 w9 ho9 hg9 hat9; go_loud ((have HP := Lib.hid (HWO.out _ _ _ _ HO.out HB.out ho9 hg9)); (have f2 : w9.frozen? ⟨b, 1, none⟩ = false := HP.out.1.free 1); (have m9 : w9.cell? ⟨b, 1, none⟩ = some (.slice A n cp) := HP.out.1.cell 1); clear ho9 hg9 hat9 c1)))
  go_ret
  exact ⟨rfl, HP.out.2⟩
theorem runeCells_len (r : Int) : (Lib.runeCells r).length ≤ 4 := by rw [Lib.runeCells, List.length_map]; exact (Lib.encodeRuneZ_length r).2
set_option maxRecDepth 100000 in
set_option maxHeartbeats 4000000 in
theorem writeRune_calls (B b : Nat) (p v : Value) (xs : List Value) (r : Int) (hr0 : -2147483648 ≤ r) (hr1 : r ≤ 2147483647) (w : World) (hp : p = .pointer none ∨ p = .pointer (some ⟨b, 0, none⟩)) (h : BldAt B b p v xs w) (hlen : xs.length + 4 ≤ 140737488355328) (hB : B ≤ w.heap.size) :
    Calls Tryz.prog 29 #[.pointer (some ⟨b, 0, none⟩), .int .i32 r] w fun e w' => (∃ v0, e = .returned v0) ∧ Wrote B b (xs ++ Lib.runeCells r) w w' := by
  obtain ⟨A, cp, rfl⟩ : ∃ A cp, v = .slice A xs.length cp := own_open h.own
  have HC := Lib.hid (copyCheck_calls b p _ w hp h.blk)
  have H := Lib.hid h
  have HNE := Lib.hid h.ne
  have hlt := h.blk.lt
  obtain ⟨n, hn⟩ : ∃ n, n = xs.length := ⟨_, rfl⟩
  rw [← hn] at hlen HC H HNE
  have HN := Lib.hid hn
  have HR := Lib.hid (runeCells_len r)
  have HWO : Hid (∀ (w1 w9 : World) (o : Obj) (v9 : Value), OnlyB b w w1 → Blk w1 b 65 #[.pointer (some ⟨b, 0, none⟩), .slice A n cp] → w9.ownsRow B 5 1 v9 (n + (Lib.runeCells r).length) (xs ++ Lib.runeCells r) → (w1.alloc o).grownBy w9 (Value.slice A n cp).ownBlock →
      Blk w9 b 65 #[.pointer (some ⟨b, 0, none⟩), .slice A n cp] ∧ Wrote B b (xs ++ Lib.runeCells r) w (w9.setCell ⟨b, 1, none⟩ v9)) := fun w1 w9 o v9 h1 h2 h3 h4 => wrote_of H.out h1 h2 hB (by rw [List.length_append, ← HN.out]; exact h3) h4
  clear h hp hn
  go_enter Tryz.func29, Tryz.ntmps29
  go_wp2_with (first
    | (go_at_call 53; refine HC.out.mono ?_; rintro e w1 ⟨rfl, ho, hb⟩; (have c1 := hb.cell 1); simp only [List.getElem?_toArray, List.getElem?_cons_succ, List.getElem?_cons_zero] at c1; (have HO := Lib.hid ho); (have HB := Lib.hid hb); (have hown := own_heap H.out.own (fun g hg => ho.block g (fun e => HNE.out (by rw [hg, e])))); rw [← HN.out] at hown; (have HOA := Lib.hid hown); clear ho hb hown)
    | (go_at_call 54; refine (Tryz.utf8_AppendRune_plain B _ n xs r hr0 hr1 w1 HOA.out hlen (by have := HO.out.size; omega)).mono ?_; rintro e w9 ⟨v9, rfl, ho9, o, hg9⟩; go_loud ((obtain ⟨A9, c9, rfl⟩ := own_open ho9); (have HP := Lib.hid (HWO.out _ _ _ _ HO.out HB.out ho9 hg9)); (have f2 : w9.frozen? ⟨b, 1, none⟩ = false := HP.out.1.free 1); (have m9 : w9.cell? ⟨b, 1, none⟩ = some (.slice A n cp) := HP.out.1.cell 1); (have m10 : (w9.setCell ⟨b, 1, none⟩ (.slice A9 (n + (Lib.runeCells r).length) c9)).cell? ⟨b, 1, none⟩ = some (.slice A9 (n + (Lib.runeCells r).length) c9) := (HP.out.1.stored 1 _).cell 1); clear ho9 hg9 c1)))
  refine bodyPost_ret (results_tmp2 rfl _ _ _) rfl ⟨⟨_, rfl⟩, HP.out.2⟩
theorem wrote_of0 {B b : Nat} {p v v9 : Value} {xs ys : List Value} {w w1 w9 : World} (H : BldAt B b p v xs w) (hO : OnlyB b w w1) (hb : Blk w1 b 65 #[.pointer (some ⟨b, 0, none⟩), v])
    (hB : B ≤ w.heap.size) (ho9 : w9.ownsRow B 5 1 v9 ys.length ys) (hg9 : w1.grownBy w9 v.ownBlock) :
    Blk w9 b 65 #[.pointer (some ⟨b, 0, none⟩), v] ∧ Wrote B b ys w (w9.setCell ⟨b, 1, none⟩ v9) := by
  have hb9 := blk_grownB hb hg9 H.ne
  have hlt0 : b < w.heap.size := H.blk.lt
  have hsz := hO.size
  have h1 : Lib.OthersKept 5 (some b) w w1 := fun k x hk hkb _ => (hO.block k (fun e => hkb (congrArg some e))).trans hk
  have hw1 : Below B w w1 := ⟨hO.os, hO.tape, hO.output, by omega, fun k hk => hO.block k (by have := H.lo; omega)⟩
  have hrow : ∀ g, v.ownBlock = some g → ∃ c fz, w1.heap[g]? = some (.cells c 5 fz) := fun g hg => by
    obtain ⟨c, fz, hc⟩ := own_cells H.own hg
    refine ⟨c, fz, ?_⟩
    rw [hO.block g (fun e => H.ne (by rw [hg, e]))]
    exact hc
  refine ⟨hb9, ⟨_, H.lo, hb9.stored 1 _, own_setFar ho9 (blk_ne hb9 ho9 (by decide))⟩, ?_, ?_⟩
  · exact (hw1.grown hg9 (by omega) (fun q hq => (H.own.lt q hq).1)).setCell (p := ⟨b, 1, none⟩) H.lo _
  · exact (h1.grown hg9 hrow).setCell ⟨b, 1, none⟩ rfl _
set_option maxRecDepth 100000 in
set_option maxHeartbeats 4000000 in
theorem writeString_calls (B b : Nat) (p v : Value) (xs : List Value) (s : ByteArray) (w : World) (hp : p = .pointer none ∨ p = .pointer (some ⟨b, 0, none⟩)) (h : BldAt B b p v xs w) (hlen : xs.length + s.size ≤ 140737488355328) (hB : B ≤ w.heap.size) :
    Calls Tryz.prog 47 #[.pointer (some ⟨b, 0, none⟩), .string s] w fun e w' => (∃ v0, e = .returned v0) ∧ Wrote B b (xs ++ Lib.strCells s) w w' := by
  obtain ⟨i0, hi, hz0, hz1, hz2⟩ := info_parts infoU8
  obtain ⟨A, cp, rfl⟩ : ∃ A cp, v = .slice A xs.length cp := own_open h.own
  have HC := Lib.hid (copyCheck_calls b p _ w hp h.blk)
  have H := Lib.hid h
  have HNE := Lib.hid h.ne
  have hlt := h.blk.lt
  obtain ⟨n, hn⟩ : ∃ n, n = xs.length := ⟨_, rfl⟩
  rw [← hn] at hlen HC H HNE
  have HN := Lib.hid hn
  have HWO : Hid (∀ (w1 w9 : World) (v9 : Value), OnlyB b w w1 → Blk w1 b 65 #[.pointer (some ⟨b, 0, none⟩), .slice A n cp] → w9.ownsRow B 5 1 v9 (n + s.size) (xs ++ Lib.strCells s) → w1.grownBy w9 (Value.slice A n cp).ownBlock →
      Blk w9 b 65 #[.pointer (some ⟨b, 0, none⟩), .slice A n cp] ∧ Wrote B b (xs ++ Lib.strCells s) w (w9.setCell ⟨b, 1, none⟩ v9)) := fun w1 w9 v9 h1 h2 h3 h4 => wrote_of0 H.out h1 h2 hB (by rw [List.length_append, ← HN.out, Lib.strCells_length]; exact h3) h4
  clear h hp hn
  go_enter Tryz.func47, Tryz.ntmps47
  go_wp2_with (first
    | (go_at_call 53; refine HC.out.mono ?_; rintro e w1 ⟨rfl, ho, hb⟩; (have c1 := hb.cell 1); simp only [List.getElem?_toArray, List.getElem?_cons_succ, List.getElem?_cons_zero] at c1; (have HO := Lib.hid ho); (have HB := Lib.hid hb); (have hown := own_heap H.out.own (fun g hg => ho.block g (fun e => HNE.out (by rw [hg, e])))); rw [← HN.out] at hown; (have HOA := Lib.hid hown); clear ho hb hown)
    | (at_builtin; refine Lib.wpList_append_own_string _ rfl _ _ 63 9 rfl B 5 i0 rfl rfl hi hz0 hz1 hz2 _ n xs rfl HOA.out s rfl (by unfold maxLen; omega) (by omega) (by have := HO.out.size; omega) ?_; intro v9 w9 ho9 hg9 hat9; go_loud ((obtain ⟨A9, c9, rfl⟩ := own_open ho9); (have HP := Lib.hid (HWO.out _ _ _ HO.out HB.out ho9 hg9)); (have f2 : w9.frozen? ⟨b, 1, none⟩ = false := HP.out.1.free 1); (have m9 : w9.cell? ⟨b, 1, none⟩ = some (.slice A n cp) := HP.out.1.cell 1); clear ho9 hg9 hat9 c1)))
  refine bodyPost_ret (results_tmp2 rfl _ _ _) rfl ⟨⟨_, rfl⟩, HP.out.2⟩
end Go.Proofs.YtcghahfboccceaaGreatDoor
