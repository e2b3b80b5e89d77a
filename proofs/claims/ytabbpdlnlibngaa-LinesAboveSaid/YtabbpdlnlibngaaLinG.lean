/- Contracts for the closed fact lined: a group without blanks that stand first. -/
import Derived.Test.YtabbpdlnlibngaaLinF
import Derived.Test.YtabbpdlnlibngaaApart
namespace Go.Proofs.Ytabbpdlnlibngaa
open Go.RowKit Go.Sort
set_option linter.unusedVariables false
set_option linter.unusedSimpArgs false
attribute [local go_sem high] run_min2 run_max2

theorem info_prt : (Try.prog.info? 54).map (fun i => (i.zero, i.size, i.bytes)) = some (some (.agg #[.pointer none, .int .i64 0, .string ⟨#[]⟩, .int .i64 0, .bool false]), 5, 48) := by kernel_rfl
theorem blk_adds {w : World} {g : Nat} {t : TypeId} {cs : Array Value} (h : Blk w g t cs) : ∀ j u, cs.toList[j]? = some u → w.cell? ((⟨g, 0, none⟩ : Addr).add j) = some u := fun j u hj => by
  have h1 := h.cell j
  have e1 : (⟨g, 0, none⟩ : Addr).add j = ⟨g, j, none⟩ := by unfold Addr.add; split <;> simp_all
  rw [e1, h1]
  simpa using hj
theorem prt_one (gL : Nat) (t : ByteArray) (wd : Int) (last : Bool) : ∀ u ∈ (#[.pointer (some ⟨gL, 0, none⟩), .int .i64 0, .string t, .int .i64 wd, .bool last] : Array Value).toList, u.oneCell' = true := fun u hu => by
  simp at hu
  rcases hu with rfl | rfl | rfl | rfl | rfl <;> rfl
theorem part_own {w : World} {base g cap gL : Nat} {t : ByteArray} {wd : Int} {last : Bool} (h : w.ownsRow base 54 5 (.slice (some ⟨g, 0, none⟩) (0 + 1) cap) (0 + 1) ([] ++ (#[.pointer (some ⟨gL, 0, none⟩), .int .i64 0, .string t, .int .i64 wd, .bool last] : Array Value).toList)) : PartAt w g 0 gL t wd last ∧ base ≤ g := by
  rcases h.2 with ⟨h1, _⟩ | ⟨g', cap', cur, hv, h1, h2, h3, h4, h5, h6⟩
  · cases h1
  · injection hv with hv1 hv2 hv3
    injection hv1 with hv1
    injection hv1 with hv1
    subst hv1; subst hv3
    have hB : Blk w g 54 cur := h2
    have hc : ∀ j u, (#[.pointer (some ⟨gL, 0, none⟩), .int .i64 0, .string t, .int .i64 wd, .bool last] : Array Value).toList[j]? = some u → w.cell? ⟨g, j, none⟩ = some u := fun j u hj => by
      have hj5 : j < 5 := by
        rcases Nat.lt_or_ge j 5 with h7 | h7
        · exact h7
        · rw [List.getElem?_eq_none (by simpa using h7)] at hj; cases hj
      rw [hB.cell j]
      have h8 := congrArg (fun l : List Value => l[j]?) h6
      simp only [List.nil_append] at h8
      rw [List.getElem?_take_of_lt (by omega), hj] at h8
      simpa using h8
    exact ⟨⟨hc 0 _ rfl, hc 1 _ rfl, hc 2 _ rfl, hc 3 _ rfl, hc 4 _ rfl, hB.lt⟩, h1⟩
set_option maxRecDepth 100000 in
set_option maxHeartbeats 4000000 in
theorem clean1_calls (gB gF : Nat) (y left right : Int) (line : Value) (full : Bool) (out : Value) (b o c gL : Nat) (t : ByteArray) (ht : t = tAA ∨ t = tAAB) (wd : Int) (last : Bool) (w : World) (hB : Blk w gB 43 (brC gF y left right line full out)) (h : PartAt w b o gL t wd last) (hI : Blk w gL 28 itemC) :
    Calls Try.prog 29 #[.pointer (some ⟨gB, 0, none⟩), .slice (some ⟨b, o, none⟩) 1 c] w fun e w' => ∃ g c', e = .returned (.slice (some ⟨g, 0, none⟩) 1 c') ∧ PartAt w' g 0 gL t wd last ∧ w.heap.size ≤ g ∧ Below w.heap.size w w' := by
  obtain ⟨i1, hib, hzb0, hzb1, hzb2⟩ := info_parts info_prt
  obtain ⟨c0, c1, c2, c3, c4, hlt⟩ := h
  have qt : (t.toList == [32]) = false := by rcases ht with rfl | rfl <;> decide +kernel
  have s9 : w.cell? ⟨gB, 9, none⟩ = some (.bool full) := hB.cell 9
  have HI := Lib.hid hI
  clear hB hI ht
  cases full
  · have hb3 := below_alloc (below_alloc (below_alloc (Below.refl w.heap.size w) (.cells #[.pointer (some ⟨gL, 0, none⟩), .int .i64 0, .string t, .int .i64 wd, .bool last] 54)) (.cells #[.pointer (some ⟨gL, 0, none⟩), .int .i64 0, .string t, .int .i64 wd, .bool last] 54)) (.cells #[.pointer (some ⟨gL, 0, none⟩), .int .i64 0, .string t, .int .i64 wd, .bool last] 54)
    have hp3 := ((Blk.new w 54 #[.pointer (some ⟨gL, 0, none⟩), .int .i64 0, .string t, .int .i64 wd, .bool last]).alloc (.cells #[.pointer (some ⟨gL, 0, none⟩), .int .i64 0, .string t, .int .i64 wd, .bool last] 54)).alloc (.cells #[.pointer (some ⟨gL, 0, none⟩), .int .i64 0, .string t, .int .i64 wd, .bool last] 54)
    go_enter Try.func29, Try.ntmps29
    go_wp2_with fail
    refine wp_loop_rounds 2 ?_
    rw [rounds_succ]
    go_upto_region 8 with (first | (go_at_call 42; refine (collapses_calls gL t wd last _ (HI.out.alloc _)).mono ?_; rintro e w' ⟨rfl, rfl⟩) | (go_at_call 43; refine (solid_calls gL t wd last _ ((HI.out.alloc _).alloc _)).mono ?_; rintro e w' ⟨rfl, rfl⟩))
    generalize World.alloc (World.alloc (World.alloc w _) _) _ = X at hb3 hp3 ⊢
    have HP3 := Lib.hid hp3
    have HB3 := Lib.hid hb3
    have d0 : X.cell? ⟨w.heap.size, 0, none⟩ = some (.pointer (some ⟨gL, 0, none⟩)) := hp3.cell 0
    have d1 : X.cell? ⟨w.heap.size, 1, none⟩ = some (.int .i64 0) := hp3.cell 1
    have d2 : X.cell? ⟨w.heap.size, 2, none⟩ = some (.string t) := hp3.cell 2
    have d3 : X.cell? ⟨w.heap.size, 3, none⟩ = some (.int .i64 wd) := hp3.cell 3
    have d4 : X.cell? ⟨w.heap.size, 4, none⟩ = some (.bool last) := hp3.cell 4
    have HBA := Lib.hid (below_alloc hb3 (.cells #[.pointer (some ⟨gL, 0, none⟩), .int .i64 0, .string t, .int .i64 wd, .bool last] 54))
    clear hp3 hb3 c0 c1 c2 c3 c4 s9
    go_wp2_with (at_builtin; refine wpList_append_lies rfl _ _ 41 rfl w.heap.size 54 i1 (.agg #[.pointer none, .int .i64 0, .string ⟨#[]⟩, .int .i64 0, .bool false]) 5 48 Try.underlying41 hib hzb0 hzb1 hzb2 rfl (by decide) (.slice none 0 0) 0 [] rfl (World.ownsRow_nil _ _ _ _) ⟨X.heap.size, 0, none⟩ 1 1 (#[.pointer (some ⟨gL, 0, none⟩), .int .i64 0, .string t, .int .i64 wd, .bool last] : Array Value).toList rfl rfl (blk_adds (Blk.new X 54 #[.pointer (some ⟨gL, 0, none⟩), .int .i64 0, .string t, .int .i64 wd, .bool last])) (prt_one _ _ _ _) (by omega) (by unfold maxLen; omega) (by omega) HBA.out.size _ rfl ?_; intro g cap w5 o5 hg5 hat5 hlt5; have HO5 := Lib.hid o5; have HG5 := Lib.hid (show Below w.heap.size w w5 from HBA.out.grown hg5 HBA.out.size (fun k hk => by cases hk)); clear o5 hg5 hat5 hlt5)
    rw [rounds_succ]
    go_wp2_with fail
    go_ret
    exact ⟨g, cap, rfl, (part_own HO5.out).1, (part_own HO5.out).2, HG5.out⟩
  · have hb3 := below_alloc (Below.refl w.heap.size w) (.cells #[.pointer (some ⟨gL, 0, none⟩), .int .i64 0, .string t, .int .i64 wd, .bool last] 54)
    have hp3 := Blk.new w 54 #[.pointer (some ⟨gL, 0, none⟩), .int .i64 0, .string t, .int .i64 wd, .bool last]
    go_enter Try.func29, Try.ntmps29
    go_wp2_with fail
    refine wp_loop_rounds 2 ?_
    rw [rounds_succ]
    go_upto_region 8 with fail
    generalize World.alloc w _ = X at hb3 hp3 ⊢
    have HP3 := Lib.hid hp3
    have HB3 := Lib.hid hb3
    have d0 : X.cell? ⟨w.heap.size, 0, none⟩ = some (.pointer (some ⟨gL, 0, none⟩)) := hp3.cell 0
    have d1 : X.cell? ⟨w.heap.size, 1, none⟩ = some (.int .i64 0) := hp3.cell 1
    have d2 : X.cell? ⟨w.heap.size, 2, none⟩ = some (.string t) := hp3.cell 2
    have d3 : X.cell? ⟨w.heap.size, 3, none⟩ = some (.int .i64 wd) := hp3.cell 3
    have d4 : X.cell? ⟨w.heap.size, 4, none⟩ = some (.bool last) := hp3.cell 4
    have HBA := Lib.hid (below_alloc hb3 (.cells #[.pointer (some ⟨gL, 0, none⟩), .int .i64 0, .string t, .int .i64 wd, .bool last] 54))
    clear hp3 hb3 c0 c1 c2 c3 c4 s9
    go_wp2_with (at_builtin; refine wpList_append_lies rfl _ _ 41 rfl w.heap.size 54 i1 (.agg #[.pointer none, .int .i64 0, .string ⟨#[]⟩, .int .i64 0, .bool false]) 5 48 Try.underlying41 hib hzb0 hzb1 hzb2 rfl (by decide) (.slice none 0 0) 0 [] rfl (World.ownsRow_nil _ _ _ _) ⟨X.heap.size, 0, none⟩ 1 1 (#[.pointer (some ⟨gL, 0, none⟩), .int .i64 0, .string t, .int .i64 wd, .bool last] : Array Value).toList rfl rfl (blk_adds (Blk.new X 54 #[.pointer (some ⟨gL, 0, none⟩), .int .i64 0, .string t, .int .i64 wd, .bool last])) (prt_one _ _ _ _) (by omega) (by unfold maxLen; omega) (by omega) HBA.out.size _ rfl ?_; intro g cap w5 o5 hg5 hat5 hlt5; have HO5 := Lib.hid o5; have HG5 := Lib.hid (show Below w.heap.size w w5 from HBA.out.grown hg5 HBA.out.size (fun k hk => by cases hk)); clear o5 hg5 hat5 hlt5)
    rw [rounds_succ]
    go_wp2_with fail
    go_ret
    exact ⟨g, cap, rfl, (part_own HO5.out).1, (part_own HO5.out).2, HG5.out⟩
end Go.Proofs.Ytabbpdlnlibngaa
