/- Owned slices that lie apart; append, where the list then lies. -/
import Derived.Test.YtabbpdlnlibngaaOwn
import Derived.Deep.AppendLies
namespace Go.Proofs.Ytabbpdlnlibngaa
open Go.RowKit
set_option linter.unusedVariables false

def Ap (a b : Value) : Prop := ∀ g, a.ownBlock = some g → b.ownBlock ≠ some g
theorem Ap.symm {a b : Value} (h : Ap a b) : Ap b a := fun g h1 h2 => h g h2 h1
theorem Ap.nil (b : Value) (n c : Nat) : Ap (.slice none n c) b := fun g h => by simp [Value.ownBlock] at h
theorem Ap.of_ne {g g' n n' c c' : Nat} (h : g ≠ g') : Ap (.slice (some ⟨g, 0, none⟩) n c) (.slice (some ⟨g', 0, none⟩) n' c') := fun x h1 h2 => by
  simp [Value.ownBlock] at h1 h2; omega
theorem Ap.far {a : Value} {g n c : Nat} (h : Ap (.slice (some ⟨g, 0, none⟩) n c) a) : a.ownBlock ≠ some g := h g (by simp [Value.ownBlock])
section
variable {w w' : World} {base size n : Nat} {e : TypeId} {v v1 : Value} {xs : List Value}
/-- Another list grows. -/
theorem own_grownFar (h : w.ownsRow base e size v n xs) (hap : Ap v1 v) (hg : w.grownBy w' v1.ownBlock) : w'.ownsRow base e size v n xs :=
  own_heap h fun g hv => hg.block g (h.lt g hv).2 (fun e => hap g e.symm hv)
theorem ap_grown {g m c H : Nat} (h : w.ownsRow base e size v n xs) (hap : Ap v1 v) (hat : v1.ownBlock = some g ∨ g = H) (hH : w.heap.size ≤ H) : Ap (.slice (some ⟨g, 0, none⟩) m c) v := fun x h1 h2 => by
  have hx : g = x := by simpa [Value.ownBlock] using h1
  subst hx
  rcases hat with h3 | h3
  · exact hap g h3 h2
  · have := (h.lt g h2).2; omega
theorem below_grownA {W wr : World} (hb : Below W.heap.size W w) (h : wr.ownsRow W.heap.size e size v n xs) (hg : w.grownBy w' v.ownBlock) : Below W.heap.size W w' :=
  hb.grown hg hb.size (fun k hk => (h.lt k hk).1)
end
theorem wpList_append_lies {P : Program} {w : World} {ops : Array Oper} {rest : List Oper} {o : Oper} {a : Act} {Q : Exit → Act → World → Prop} (hgd : o.guard = none) (s x : Operand) (t : TypeId)
    (ho : o.op = .call { callee := .builtin .append, args := #[s, x], argTypes := #[t, t] })
    (base : Nat) (e : TypeId) (i : TypeInfo) (z : Value) (size bytes : Nat) (ht : P.underlying t = some (.slice e)) (hi : P.info? e = some i) (hz : i.zero = some z)
    (hsize : i.size = size) (hby : i.bytes = bytes) (hzs : z.cells.size = size) (hsz : 0 < size)
    (v : Value) (n : Nat) (xs : List Value) (hs : a.eval s = v) (hown : w.ownsRow base e size v n xs)
    (ad : Addr) (m c : Nat) (news : List Value) (hx : a.eval x = .slice (some ad) m c) (hl : news.length = m * size) (hnews : ∀ j u, news[j]? = some u → w.cell? (ad.add j) = some u) (h1 : ∀ u ∈ news, u.oneCell' = true)
    (hm : 0 < m) (h63 : n + m ≤ maxLen) (hbytes : (n + m) * bytes ≤ 140737488355328) (hbase : base ≤ w.heap.size) (H : Nat) (hH : w.heap.size = H)
    (h : ∀ g cap w', w'.ownsRow base e size (.slice (some ⟨g, 0, none⟩) (n + m) cap) (n + m) (xs ++ news) → w.grownBy w' v.ownBlock → (v.ownBlock = some g ∨ g = H) → g < w'.heap.size → wpList P ops Q rest (a.put o.dst (.slice (some ⟨g, 0, none⟩) (n + m) cap)) w') :
    wpList P ops Q (o :: rest) a w :=
  wpList_plain hgd fun _ hK => wp_append_lies w s x t ho base e i z size bytes ht hi hz hsize hby hzs hsz v n xs hs hown ad m c news hx hl hnews h1 hm h63 hbytes hbase H hH fun g cap w' h2 h3 h4 h5 => hK _ _ (h g cap w' h2 h3 h4 h5)
end Go.Proofs.Ytabbpdlnlibngaa
