/- Contracts for the closed fact lined: a line's copy. -/
import Derived.Test.YtabbpdlnlibngaaLinK
namespace Go.Proofs.Ytabbpdlnlibngaa
open Go.RowKit Go.Sort
set_option linter.unusedVariables false
set_option linter.unusedSimpArgs false
attribute [local go_sem high] run_min2 run_max2

theorem eqlNilG (w : World) (a : Addr) (n c : Nat) : (binOp .eql 41 (.slice (some a) n c) (.slice none 0 0)).run Try.prog w = .ok (.bool false) w := by
  have h : ∀ d : Nat, (Op.equalIn (d + 1) 41 (.slice (some a) n c) (.slice none 0 0)).run Try.prog w = .ok false w := fun d => by
    simp [Op.equalIn, run_underlying Try.underlying41]
  simp only [binOp]
  simp [Op.equal, Op.maxDepth, h 9999]
theorem PartAt.adds {w : World} {b o gL : Nat} {t : ByteArray} {wd : Int} {last : Bool} (h : PartAt w b o gL t wd last) : ∀ j u, (#[.pointer (some ⟨gL, 0, none⟩), .int .i64 0, .string t, .int .i64 wd, .bool last] : Array Value).toList[j]? = some u → w.cell? ((⟨b, o, none⟩ : Addr).add j) = some u := fun j u hj => by
  have e : (⟨b, o, none⟩ : Addr).add j = ⟨b, o + j, none⟩ := by unfold Addr.add; split <;> simp_all
  rw [e]
  match j, hj with
  | 0, hj => injection hj with hj; subst hj; exact h.c0
  | 1, hj => injection hj with hj; subst hj; exact h.c1
  | 2, hj => injection hj with hj; subst hj; exact h.c2
  | 3, hj => injection hj with hj; subst hj; exact h.c3
  | 4, hj => injection hj with hj; subst hj; exact h.c4
  | j + 5, hj => cases hj
set_option maxRecDepth 100000 in
set_option maxHeartbeats 2000000 in
theorem clone1_calls (b o c gL : Nat) (t : ByteArray) (wd : Int) (last : Bool) (w : World) (h : PartAt w b o gL t wd last) :
    Calls Try.prog 49 #[.slice (some ⟨b, o, none⟩) 1 c] w fun e w' => ∃ g c', e = .returned (.slice (some ⟨g, 0, none⟩) 1 c') ∧ w'.ownsRow w.heap.size 54 5 (.slice (some ⟨g, 0, none⟩) 1 c') 1 ((#[.pointer (some ⟨gL, 0, none⟩), .int .i64 0, .string t, .int .i64 wd, .bool last] : Array Value).toList) ∧ Below w.heap.size w w' := by
  obtain ⟨i1, hib, hzb0, hzb1, hzb2⟩ := info_parts info_prt
  have HAD := Lib.hid ((h.below (below_alloc (Below.refl _ _) (.cells #[] 54))).adds)
  have hq := eqlNilG w ⟨b, o, none⟩ 1 c
  clear h
  go_enter Try.func49, Try.ntmps49
  go_wp2_with (at_builtin; refine wpList_append_lies rfl _ _ 41 rfl w.heap.size 54 i1 (.agg #[.pointer none, .int .i64 0, .string ⟨#[]⟩, .int .i64 0, .bool false]) 5 48 Try.underlying41 hib hzb0 hzb1 hzb2 rfl (by decide) _ 0 [] rfl (World.ownsRow_lit (size := 5) _ #[] 0 (Nat.le_refl _) (by unfold maxLen; omega) rfl) ⟨b, o, none⟩ 1 c (#[.pointer (some ⟨gL, 0, none⟩), .int .i64 0, .string t, .int .i64 wd, .bool last] : Array Value).toList rfl rfl HAD.out (prt_one _ _ _ _) (by omega) (by unfold maxLen; omega) (by omega) (by simp) _ rfl ?_; intro g cap w1 o1 hg1 hat1 hlt1)
  have hbel : Below w.heap.size w w1 := (below_alloc (Below.refl w.heap.size w) (.cells #[] 54)).grown hg1 (below_alloc (Below.refl w.heap.size w) (.cells #[] 54)).size (fun k hk => Nat.le_of_eq (by injection hk))
  rw [Nat.zero_add, List.nil_append] at o1
  have HO := Lib.hid o1
  clear o1 hg1 hat1
  go_ret
  exact ⟨g, cap, rfl, HO.out, hbel⟩
end Go.Proofs.Ytabbpdlnlibngaa
