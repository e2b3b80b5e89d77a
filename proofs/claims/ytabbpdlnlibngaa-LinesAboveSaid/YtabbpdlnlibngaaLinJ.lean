/- Contracts for the closed fact lined: the groups of the two parts. -/
import Derived.Test.YtabbpdlnlibngaaLinI
namespace Go.Proofs.Ytabbpdlnlibngaa
open Go.RowKit Go.Sort
set_option linter.unusedVariables false
set_option linter.unusedSimpArgs false
attribute [local go_sem high] run_min2 run_max2

theorem info_grp : (Try.prog.info? 41).map (fun i => (i.zero, i.size, i.bytes)) = some (some (.slice none 0 0), 1, 24) := by kernel_rfl
theorem blk_addG {w : World} {g : Nat} {t : TypeId} {v : Value} (h : Blk w g t #[v]) : ∀ j u, [v][j]? = some u → w.cell? ((⟨g, 0, none⟩ : Addr).add j) = some u := fun j u hj => blk_adds h j u (by simpa using hj)
set_option maxRecDepth 100000 in
set_option maxHeartbeats 8000000 in
theorem groups_calls (g c gL : Nat) (w : World) (h0 : PartAt w g 0 gL tAAB 80 false) (h1 : PartAt w g 5 gL tAA 64 true) (hI : Blk w gL 28 itemC) (hc : 2 ≤ c) :
    Calls Try.prog 15 #[.slice (some ⟨g, 0, none⟩) 2 c] w fun e w' => ∃ gg cc, e = .returned (.slice (some ⟨gg, 0, none⟩) 2 cc) ∧ w'.ownsRow w.heap.size 41 1 (.slice (some ⟨gg, 0, none⟩) 2 cc) 2 [.slice (some ⟨g, 0, none⟩) 1 c, .slice (some ⟨g, 5, none⟩) 1 (c - 1)] ∧ Below w.heap.size w w' := by
  obtain ⟨i1, hib, hzb0, hzb1, hzb2⟩ := info_parts info_grp
  have HM := Lib.hid (mayEnd_calls g c gL w h0 h1 hI)
  have q0 := h0.c0
  have k0 : w.cell? ⟨gL, 0, none⟩ = some (.int .i64 1) := hI.cell 0
  have hw1 : IntKind.i64.wrap 1 = 1 := by decide
  have hw0 : IntKind.i64.wrap 0 = 0 := by decide
  have hw2 : IntKind.i64.wrap 2 = 2 := by decide
  have hw3 : IntKind.i64.wrap 3 = 3 := by decide
  clear h0 h1 hI
  go_enter Try.func15, Try.ntmps15
  go_wp2_with fail
  refine wp_loop_rounds 3 ?_
  rw [rounds_succ]
  go_wp2_with (first | (go_at_call 26; refine HM.out.mono ?_; rintro e wm ⟨rfl, hbm⟩; have HBM := Lib.hid hbm; have HBA1 := Lib.hid (below_alloc hbm (.cells #[.slice (some ⟨g, 0, none⟩) 1 c] 41)); clear hbm) | (at_builtin; refine wpList_append_lies rfl _ _ 44 rfl w.heap.size 41 i1 (.slice none 0 0) 1 24 Try.underlying44 hib hzb0 hzb1 hzb2 rfl (by decide) (.slice none 0 0) 0 [] rfl (World.ownsRow_nil _ _ _ _) ⟨wm.heap.size, 0, none⟩ 1 1 [.slice (some ⟨g, 0, none⟩) 1 c] rfl rfl (blk_addG (Blk.new wm 41 #[.slice (some ⟨g, 0, none⟩) 1 c])) (by intro u hu; simp at hu; subst hu; rfl) (by omega) (by unfold maxLen; omega) (by omega) HBA1.out.size _ rfl ?_; intro g1 c1 v1 o1 hg1 hat1 hlt1; have HO1 := Lib.hid o1; have HB1 := Lib.hid (show Below w.heap.size w v1 from HBA1.out.grown hg1 HBA1.out.size (fun k hk => by cases hk)); have HBA2 := Lib.hid (below_alloc HB1.out (.cells #[.slice (some ⟨g, 5, none⟩) 1 (c - 1)] 41)); clear o1 hg1 hat1 hlt1))
  rw [rounds_succ]
  go_wp2_with (at_builtin; refine wpList_append_lies rfl _ _ 44 rfl w.heap.size 41 i1 (.slice none 0 0) 1 24 Try.underlying44 hib hzb0 hzb1 hzb2 rfl (by decide) (.slice (some ⟨g1, 0, none⟩) (0 + 1) c1) (0 + 1) ([] ++ [.slice (some ⟨g, 0, none⟩) 1 c]) rfl (HO1.out.alloc _) ⟨v1.heap.size, 0, none⟩ 1 1 [.slice (some ⟨g, 5, none⟩) 1 (c - 1)] rfl rfl (blk_addG (Blk.new v1 41 #[.slice (some ⟨g, 5, none⟩) 1 (c - 1)])) (by intro u hu; simp at hu; subst hu; rfl) (by omega) (by unfold maxLen; omega) (by omega) HBA2.out.size _ rfl ?_; intro g2 c2 v2 o2 hg2 hat2 hlt2; have HO2 := Lib.hid o2; have HB2 := Lib.hid (show Below w.heap.size w v2 from HBA2.out.grown hg2 HBA2.out.size (fun k hk => by injection hk with hk; subst hk; exact (HO1.out.lt _ rfl).1)); clear o2 hg2 hat2 hlt2)
  rw [rounds_succ]
  go_wp2_with fail
  go_ret
  exact ⟨g2, c2, rfl, HO2.out, HB2.out⟩
end Go.Proofs.Ytabbpdlnlibngaa
