/- Storing an array whole (as in XRow, for seats without styles). -/
import Derived.Test.YtabbpdlnlibngaaMem
import Derived.Deep.MidRow
import Derived.Deep.WholeRow
namespace Go.Proofs.Ytabbpdlnlibngaa
open Go.RowKit
set_option linter.unusedVariables false

def setFrom (cs : Array Value) : Nat → List Value → Array Value
  | _, [] => cs
  | o, v :: r => setFrom (cs.setIfInBounds o v) (o + 1) r
theorem setFrom_size : ∀ (vs : List Value) (cs : Array Value) (o : Nat), (setFrom cs o vs).size = cs.size
  | [], _, _ => rfl
  | v :: r, cs, o => by rw [setFrom, setFrom_size r]; simp
theorem setFrom_at : ∀ (vs : List Value) (cs : Array Value) (o i : Nat), o + vs.length ≤ cs.size → (setFrom cs o vs)[i]? = if o ≤ i ∧ i < o + vs.length then vs[i - o]? else cs[i]?
  | [], cs, o, i, h => by rw [setFrom, if_neg (by simp)]
  | v :: r, cs, o, i, h => by
    simp only [List.length_cons] at h
    rw [setFrom, setFrom_at r _ _ _ (by simp; omega)]
    by_cases h1 : o + 1 ≤ i ∧ i < o + 1 + r.length
    · rw [if_pos h1, if_pos (by simp; omega), show i - o = (i - (o + 1)) + 1 from by omega, List.getElem?_cons_succ]
    · rw [if_neg h1, Array.getElem?_setIfInBounds]
      by_cases h2 : o = i
      · subst h2; rw [if_pos rfl, if_pos (by omega), if_pos (by simp)]; simp
      · rw [if_neg h2, if_neg (by simp; omega)]
theorem setFrom_all (vs cs : Array Value) (h : vs.size = cs.size) : setFrom cs 0 vs.toList = vs := by
  apply Array.ext_getElem?
  intro i
  rw [setFrom_at _ _ _ _ (by simp; omega)]
  by_cases hi : i < vs.size
  · rw [if_pos (by simp; omega)]; simp
  · rw [if_neg (by simp; omega), Array.getElem?_eq_none (by omega), Array.getElem?_eq_none (by omega)]
theorem Blk.setFrom {t : TypeId} {g : Nat} : ∀ (vs : List Value) (o : Nat) (w : World) (cs : Array Value), Blk w g t cs → Blk (w.setCells g o vs) g t (setFrom cs o vs)
  | [], _, _, _, h => h
  | v :: r, o, w, cs, h => by rw [World.setCells, Proofs.Ytabbpdlnlibngaa.setFrom]; exact Blk.setFrom r _ _ _ (Blk.stored h o v)
theorem Blk.setAll {t : TypeId} {g : Nat} {w : World} {cs : Array Value} (h : Blk w g t cs) (vs : Array Value) (hs : vs.size = cs.size) : Blk (w.setCells g 0 vs.toList) g t vs := by
  have := Blk.setFrom vs.toList 0 w cs h
  rwa [setFrom_all vs cs hs] at this
theorem Blk.farCells {t : TypeId} {g b : Nat} (hb : g ≠ b) : ∀ (vs : List Value) (o : Nat) (w : World) (cs : Array Value), Blk w g t cs → Blk (w.setCells b o vs) g t cs
  | [], _, _, _, h => h
  | v :: r, o, w, cs, h => by rw [World.setCells]; exact Blk.farCells hb r _ _ _ (Blk.far h hb v)
theorem below_setCells {W : World} {b : Nat} (hb : W.heap.size ≤ b) : ∀ (vs : List Value) (o : Nat) (w : World), Below W.heap.size W w → Below W.heap.size W (w.setCells b o vs)
  | [], _, _, h => h
  | v :: r, o, w, h => by rw [World.setCells]; exact below_setCells hb r _ _ (below_set h hb v)
theorem Blk.there {t : TypeId} {g : Nat} {w : World} {cs : Array Value} (h : Blk w g t cs) (n : Nat) (hn : n ≤ cs.size) : w.there g 0 n := fun j hj => by
  rw [Nat.zero_add]; exact ⟨by rw [h.cell]; simp; omega, h.free j⟩
end Go.Proofs.Ytabbpdlnlibngaa
