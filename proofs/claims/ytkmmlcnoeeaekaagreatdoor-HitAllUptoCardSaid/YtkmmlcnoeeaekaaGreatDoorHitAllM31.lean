/- Several texts in one: LooksA, Apart. -/
import Derived.Test.YtkmmlcnoeeaekaaGreatDoorHitAllM6
import Derived.Outline
import Derived.Test.YtkmmlcnoeeaekaaGreatDoorHitAllM4
import Derived.Deep.AppendLies
/- Contracts of style.Inherits and style.Initial. -/
namespace Go.Proofs.YtkmmlcnoeeaekaaGreatDoor
open Go.RowKit
set_option linter.unusedVariables false
set_option linter.unusedSimpArgs false

theorem inh_num (p : Nat) : inhP p = (p == 33 || (p == 35 || (p == 37 || (p == 38 || (p == 39 || (p == 40 || (p == 41 || (p == 43 || (p == 44 || (p == 56 || (p == 57 || p == 58))))))))))) := by
  simp only [inhP, List.contains_cons, List.contains_nil, Bool.or_false]
theorem inherits_at (i : Fin 59) (w : World) : Calls Tryz.prog 47 #[.int .i64 (i.val : Nat)] w fun e w' => e = .returned (.bool (inhP i.val)) ∧ w = w' := by
  obtain ⟨i, hi⟩ := i
  simp only
  rcases (show i = 33 ∨ i = 35 ∨ i = 37 ∨ i = 38 ∨ i = 39 ∨ i = 40 ∨ i = 41 ∨ i = 43 ∨ i = 44 ∨ i = 56 ∨ i = 57 ∨ i = 58 ∨ (i ≠ 33 ∧ i ≠ 35 ∧ i ≠ 37 ∧ i ≠ 38 ∧ i ≠ 39 ∧ i ≠ 40 ∧ i ≠ 41 ∧ i ≠ 43 ∧ i ≠ 44 ∧ i ≠ 56 ∧ i ≠ 57 ∧ i ≠ 58) by omega) with rfl | rfl | rfl | rfl | rfl | rfl | rfl | rfl | rfl | rfl | rfl | rfl | ⟨h1, h2, h3, h4, h5, h6, h7, h8, h9, h10, h11, h12⟩
  all_goals try
    go_enter Tryz.func47, Tryz.ntmps47
    go_wp2_with fail
    go_ret
    exact ⟨rfl, rfl⟩
  · have e : inhP i = false := by rw [inh_num]; simp [*]
    rw [e]
    have d1 : ((i : Int) == 33) = false := by simp; omega
    have d2 : ((i : Int) == 35) = false := by simp; omega
    have d3 : ((i : Int) == 37) = false := by simp; omega
    have d4 : ((i : Int) == 38) = false := by simp; omega
    have d5 : ((i : Int) == 39) = false := by simp; omega
    have d6 : ((i : Int) == 40) = false := by simp; omega
    have d7 : ((i : Int) == 41) = false := by simp; omega
    have d8 : ((i : Int) == 43) = false := by simp; omega
    have d9 : ((i : Int) == 44) = false := by simp; omega
    have d10 : ((i : Int) == 56) = false := by simp; omega
    have d11 : ((i : Int) == 57) = false := by simp; omega
    have d12 : ((i : Int) == 58) = false := by simp; omega
    clear h1 h2 h3 h4 h5 h6 h7 h8 h9 h10 h11 h12 e
    go_enter Tryz.func47, Tryz.ntmps47
    go_wp2_with fail
    go_ret
    exact ⟨rfl, rfl⟩
theorem inherits_calls (i : Nat) (w : World) (hi : i < 59) : Calls Tryz.prog 47 #[.int .i64 (i : Nat)] w fun e w' => e = .returned (.bool (inhP i)) ∧ w = w' := inherits_at ⟨i, hi⟩ w
theorem new_at (w : World) (cs : Array Value) (t : TypeId) : (w.alloc (.cells cs t)).heap[w.heap.size]? = some (.cells cs t (0, 0)) := by
  simp only [World.alloc, Array.getElem?_push_size]
/-- The table of initial values lies in block 0. -/
def TabAt (w : World) (tbl : List Int) : Prop := tbl.length = 118 ∧ ∀ q, q < 118 → w.cell? ⟨0, q, none⟩ = some (.int .i64 (tbl.getD q 0))
theorem TabAt.below {w w' : World} {tbl : List Int} {B : Nat} (h : TabAt w tbl) (hb : Below B w w') (hB : 0 < B) : TabAt w' tbl := ⟨h.1, fun q hq => (hb.cell (p := ⟨0, q, none⟩) hB).trans (h.2 q hq)⟩
set_option maxRecDepth 100000 in
theorem initial_calls (i : Nat) (w : World) (tbl : List Int) (h : TabAt w tbl) (hw : 0 < w.heap.size) (hi : i < 59) : Calls Tryz.prog 48 #[.int .i64 (i : Nat)] w fun e w' => e = .returned (.agg #[.int .i64 (tbl.getD (i * 2) 0), .int .i64 (tbl.getD (i * 2 + 1) 0)]) ∧ Below w.heap.size w w' := by
  have hbel := below_alloc (Below.refl _ w) (.cells #[.int .i64 0, .int .i64 0] 33)
  have c0 : (w.alloc (.cells #[.int .i64 0, .int .i64 0] 33)).cell? ⟨0, i * 2, none⟩ = some (.int .i64 (tbl.getD (i * 2) 0)) := ((below_alloc (Below.refl _ w) _).cell (p := ⟨0, i * 2, none⟩) hw).trans (h.2 _ (by omega))
  have c1 : (w.alloc (.cells #[.int .i64 0, .int .i64 0] 33)).cell? ⟨0, i * 2 + 1, none⟩ = some (.int .i64 (tbl.getD (i * 2 + 1) 0)) := ((below_alloc (Below.refl _ w) _).cell (p := ⟨0, i * 2 + 1, none⟩) hw).trans (h.2 _ (by omega))
  obtain ⟨a, ha⟩ : ∃ a, a = tbl.getD (i * 2) 0 := ⟨_, rfl⟩
  obtain ⟨b, hb⟩ : ∃ b, b = tbl.getD (i * 2 + 1) 0 := ⟨_, rfl⟩
  rw [← ha] at c0
  rw [← hb] at c1
  rw [← ha, ← hb]
  clear ha hb h
  have h1 : ¬ (59 : Int) ≤ (i : Int) := by omega
  go_enter Tryz.func48, Tryz.ntmps48
  go_wp2_with fail
  have hB : (w.alloc (.cells #[.int .i64 a, .int .i64 b] 33)).heap[w.heap.size]? = some (.cells #[.int .i64 a, .int .i64 b] 33 (0, 0)) := new_at w _ _
  exact bodyPost_ret (v := .agg #[.int .i64 a, .int .i64 b]) (results_cell_row Tryz.results48 _ _ w.heap.size 33 _ (0, 0) _ rfl hB Tryz.underlying33 rfl (by kernel_rfl)) rfl ⟨rfl, below_alloc (Below.refl _ _) _⟩
end Go.Proofs.YtkmmlcnoeeaekaaGreatDoor
/- Owned slices that lie apart; append, where the list then lies. -/
namespace Go.Proofs.YtkmmlcnoeeaekaaGreatDoor
open Go.RowKit
set_option linter.unusedVariables false

def Ap (a b : Value) : Prop := ∀ g, a.ownBlock = some g → b.ownBlock ≠ some g
theorem Ap.symm {a b : Value} (h : Ap a b) : Ap b a := fun g h1 h2 => h g h2 h1
theorem Ap.nil (b : Value) (n c : Nat) : Ap (.slice none n c) b := fun g h => by simp [Value.ownBlock] at h
theorem Ap.of_ne {g g' n n' c c' : Nat} (h : g ≠ g') : Ap (.slice (some ⟨g, 0, none⟩) n c) (.slice (some ⟨g', 0, none⟩) n' c') := fun x h1 h2 => by
  simp [Value.ownBlock] at h1 h2; omega
theorem Ap.far {a : Value} {g n c : Nat} (h : Ap (.slice (some ⟨g, 0, none⟩) n c) a) : a.ownBlock ≠ some g := h g (by simp [Value.ownBlock])
section
variable {w w' : World} {base size n : Nat} {e : TypeId} {v v1 : Value} {xs : List Value}
/-- Another list grows. -/
theorem own_grownFar (h : w.ownsRow base e size v n xs) (hap : Ap v1 v) (hg : w.grownBy w' v1.ownBlock) : w'.ownsRow base e size v n xs :=
  own_heap h fun g hv => hg.block g (h.lt g hv).2 (fun e => hap g e.symm hv)
theorem ap_grown {g m c H : Nat} (h : w.ownsRow base e size v n xs) (hap : Ap v1 v) (hat : v1.ownBlock = some g ∨ g = H) (hH : w.heap.size ≤ H) : Ap (.slice (some ⟨g, 0, none⟩) m c) v := fun x h1 h2 => by
  have hx : g = x := by simpa [Value.ownBlock] using h1
  subst hx
  rcases hat with h3 | h3
  · exact hap g h3 h2
  · have := (h.lt g h2).2; omega
theorem below_grownA {W wr : World} (hb : Below W.heap.size W w) (h : wr.ownsRow W.heap.size e size v n xs) (hg : w.grownBy w' v.ownBlock) : Below W.heap.size W w' :=
  hb.grown hg hb.size (fun k hk => (h.lt k hk).1)
end
theorem wpList_append_lies {P : Program} {w : World} {ops : Array Oper} {rest : List Oper} {o : Oper} {a : Act} {Q : Exit → Act → World → Prop} (hgd : o.guard = none) (s x : Operand) (t : TypeId)
    (ho : o.op = .call { callee := .builtin .append, args := #[s, x], argTypes := #[t, t] })
    (base : Nat) (e : TypeId) (i : TypeInfo) (z : Value) (size bytes : Nat) (ht : P.underlying t = some (.slice e)) (hi : P.info? e = some i) (hz : i.zero = some z)
    (hsize : i.size = size) (hby : i.bytes = bytes) (hzs : z.cells.size = size) (hsz : 0 < size)
    (v : Value) (n : Nat) (xs : List Value) (hs : a.eval s = v) (hown : w.ownsRow base e size v n xs)
    (ad : Addr) (m c : Nat) (news : List Value) (hx : a.eval x = .slice (some ad) m c) (hl : news.length = m * size) (hnews : ∀ j u, news[j]? = some u → w.cell? (ad.add j) = some u) (h1 : ∀ u ∈ news, u.oneCell' = true)
    (hm : 0 < m) (h63 : n + m ≤ maxLen) (hbytes : (n + m) * bytes ≤ 140737488355328) (hbase : base ≤ w.heap.size) (H : Nat) (hH : w.heap.size = H)
    (h : ∀ g cap w', w'.ownsRow base e size (.slice (some ⟨g, 0, none⟩) (n + m) cap) (n + m) (xs ++ news) → w.grownBy w' v.ownBlock → (v.ownBlock = some g ∨ g = H) → g < w'.heap.size → wpList P ops Q rest (a.put o.dst (.slice (some ⟨g, 0, none⟩) (n + m) cap)) w') :
    wpList P ops Q (o :: rest) a w :=
  wpList_plain hgd fun _ hK => wp_append_lies w s x t ho base e i z size bytes ht hi hz hsize hby hzs hsz v n xs hs hown ad m c news hx hl hnews h1 hm h63 hbytes hbase H hH fun g cap w' h2 h3 h4 h5 => hK _ _ (h g cap w' h2 h3 h4 h5)
end Go.Proofs.YtkmmlcnoeeaekaaGreatDoor
