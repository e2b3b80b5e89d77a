/- Several texts in one: LooksB. -/
import Derived.Test.YtkmmlcnoeeaekaaGreatDoorPaintListM24
import Derived.Test.YtkmmlcnoeeaekaaGreatDoorPaintListM23
import Derived.Great.BuildSlice
import Derived.Great.Walk
import Derived.Deep.MidRow
import Derived.Deep.Cut
import Derived.Deep.CutRange
/- Contract of boxes.Looks. -/
namespace Go.Proofs.YtkmmlcnoeeaekaaGreatDoor
open Go.RowKit Go.Great
set_option linter.unusedVariables false
set_option linter.unusedSimpArgs false
attribute [local go_sem] zst_run zst_size

theorem info_style : (Tryz.prog.info? 35).map (fun i => (i.zero, i.size, i.bytes)) = some (some (.agg zst), 118, 944) := by kernel_rfl
theorem fill_one (cs z : Array Value) (hz : z.size = cs.size) (h : 0 < cs.size) : Instr.fill (fun i => some (i * cs.size, cs.size)) z [(0, .agg cs)] = some cs := by
  have := Great.fill_whole (s := cs.size) h [.agg cs] z (fun v hv => by simp at hv; subst hv; rfl) (by simp [hz])
  simpa [Value.cells] using this
theorem wpList_sliceOne {P : Program} {ops : Array Oper} {rest : List Oper} {o : Oper} {a : Act} {w : World} {Q : Exit → Act → World → Prop} (hg : o.guard = none) (t e : TypeId) (x : Operand) (ho : o.op = .buildSlice t 1 #[(0, x)]) (cs : Array Value) (hx : a.eval x = .agg cs) (ie : TypeInfo) (z : Value)
    (hu : P.underlying t = some (.slice e)) (hie : P.info? e = some ie) (hz : ie.zero = some z) (hs : ie.size = cs.size) (hpos : 0 < cs.size) (hsm : cs.size ≤ 1000) (N : Nat) (hN : w.heap.size = N)
    (h : wpList P ops Q rest (a.put o.dst (.slice (some ⟨N, 0, none⟩) 1 1)) (w.alloc (.cells cs e))) : wpList P ops Q (o :: rest) a w := by
  subst hN
  refine wpList_buildSlice hg t e 1 _ ho cs ie z hu hie hz (by omega) (by omega) ?_ h
  rw [hs]
  have := fill_one cs ((Array.range (1 * cs.size)).map (z.cells[· % z.cells.size]!)) (by simp) hpos
  simpa [hx] using this
theorem blk_cellsL {w : World} {g : Nat} {t : TypeId} {cs : List Value} (h : Blk w g t cs.toArray) : ∀ j u, cs[j]? = some u → w.cell? ((⟨g, 0, none⟩ : Addr).add j) = some u := by
  intro j u hj
  have e : (⟨g, 0, none⟩ : Addr).add j = ⟨g, j, none⟩ := by unfold Addr.add; split <;> simp_all
  rw [e, h.cell]
  simpa using hj
theorem look_one (lz tbl : List Int) (bs : List BoxV) (i : Nat) : ∀ u ∈ lookRow lz tbl bs i, u.oneCell' = true := fun u hu => by
  simp [lookRow, ints] at hu; obtain ⟨z, _, rfl⟩ := hu; rfl
theorem look_rows (lz tbl : List Int) (bs : List BoxV) (n : Nat) : (rows n (lookRow lz tbl bs)).length = n * 118 := rows_len (fun i => lookRow_len _ _ _ _) n
theorem look_range {w : World} {B nl k : Nat} {Al : Option Addr} {lz tbl : List Int} {bs : List BoxV} {m : Nat} (h : Holds w B Al (ints lz)) (hl : lz.length = nl * 118) (hm : (bx bs k).node = (m : Int)) (hn : m < nl) :
    ∃ b off, Al = some ⟨b, off, none⟩ ∧ b < B ∧ w.rangeAt b (off + m * 118) (lookRow lz tbl bs k) := by
  have hmul : (m + 1) * 118 ≤ nl * 118 := Nat.mul_le_mul_right _ hn
  obtain ⟨b, off, e, hb, hc⟩ := h (by rw [ints_len]; omega)
  refine ⟨b, off, e, hb, fun j v hv => ?_⟩
  have hj : j < 118 := by
    rcases Nat.lt_or_ge j 118 with h1 | h1
    · exact h1
    · rw [List.getElem?_eq_none (by rw [lookRow_len]; exact h1)] at hv; cases hv
  rw [lookRow_at _ _ _ _ _ hj, look_node (by omega), hm] at hv
  rw [Nat.add_assoc, hc (m * 118 + j) (by rw [ints_len]; omega), ← hv]
  have h2 : m * 118 + j < lz.length := by omega
  simp [ints, List.getD, h2]
theorem look_cell {w : World} {base k c g : Nat} {lz tbl : List Int} {bs : List BoxV} {p q : Nat} (h : w.ownsRow base 35 118 (.slice (some ⟨g, 0, none⟩) k c) k (rows k (lookRow lz tbl bs))) (hp : p < k) (hq : q < 118) :
    w.cell? ⟨g, p * 118 + q, none⟩ = some (.int .i64 ((lookAt lz tbl bs p).getD q 0)) := by
  have hmul : (p + 1) * 118 ≤ k * 118 := Nat.mul_le_mul_right _ hp
  have hl := look_rows lz tbl bs k
  obtain ⟨b, off, e, hb, hc⟩ := (Holds.of_own h) (by rw [hl]; omega)
  injection e with e
  injection e with e1 e2
  subst e1; subst e2
  have h1 := hc (p * 118 + q) (by rw [hl]; omega)
  rw [List.getD, rows_at (f := lookRow lz tbl bs) (fun i => lookRow_len _ _ _ _) hp hq, lookRow_at _ _ _ _ _ hq, ← lookAt_getD _ _ _ _ _ hq, Nat.zero_add] at h1
  exact h1
set_option maxRecDepth 100000 in
set_option maxHeartbeats 4000000 in
theorem looks_calls (Ab : Option Addr) (nb cb : Nat) (bs : List BoxV) (Al : Option Addr) (nl cl : Nat) (lz tbl : List Int) (B : Nat) (w : World) (hn : bs.length = nb) (hl : lz.length = nl * 118) (h : Boxes w B Ab bs) (h2 : Holds w B Al (ints lz)) (hT : TabAt w tbl) (hB : B ≤ w.heap.size) (h0 : 0 < B) (hm : nb ≤ 1048576) (hm2 : nl ≤ 1048576) :
    Calls Tryz.prog 18 #[.slice Ab nb cb, .slice Al nl cl] w fun e w' => ((∃ v, e = .returned (.tuple #[v, .int .i64 0]) ∧ w'.ownsRow w.heap.size 35 118 v nb (rows nb (lookRow lz tbl bs)) ∧ LooksOk nl bs) ∨ (e = .returned (.tuple #[.slice none 0 0, .int .i64 3]) ∧ ¬ LooksOk nl bs)) ∧ Below w.heap.size w w' := by
  have HLK := Lib.hid (lookRow_len lz tbl bs)
  have HL1 := Lib.hid (look_one lz tbl bs)
  obtain ⟨i0, hi0, hz0, hz1, hz2⟩ := info_parts info_style
  have hz3 : (Value.agg zst).cells.size = 118 := by rfl
  have H := Lib.hid h
  have H2 := Lib.hid h2
  have HT := Lib.hid hT
  have HN := Lib.hid hn
  have HLZ := Lib.hid hl
  clear h h2 hT hn hl
  go_enter Tryz.func18, Tryz.ntmps18
  go_wp2_with fail
  go_loopw [6, 13] (fun o i wr => ∃ k : Nat, k ≤ nb ∧ i = .int .i64 k ∧ wr.ownsRow w.heap.size 35 118 o k (rows k (lookRow lz tbl bs)) ∧ Hid (∀ j, j < k → ¬ boxBad nl (bx bs j) j) ∧ Below w.heap.size w wr) (fun _ i _ => nb - (intOf i).toNat)
  case atStart => exact ⟨0, Nat.zero_le _, rfl, World.ownsRow_nil w _ _ 118, fun j hj => absurd hj (by omega), Below.refl _ _⟩
  case round =>
    obtain ⟨k, hk, rfl, hown, HALL, hbel⟩ := hrel
    obtain ⟨A1, C1, rfl⟩ := own_open hown
    have hw := hbel.size
    have HOW := Lib.hid hown
    clear hown
    by_cases hlt : k < nb
    · obtain ⟨b, off, rfl, hb, c0, c1, c2, c3, c4, hkids, hkl⟩ := (H.out.below hbel hB).at_ (i := k) (by rw [HN.out]; exact hlt)
      clear hkids hkl
      obtain ⟨⟨kd, nd, pa, ka, ks, kc, tx⟩, hx⟩ : ∃ x, x = bx bs k := ⟨_, rfl⟩
      rw [← hx] at c0 c1 c2 c3 c4
      simp only at c0 c1 c2 c3 c4
      have HND := Lib.hid (show (bx bs k).node = nd by rw [← hx])
      have HPA := Lib.hid (show (bx bs k).parent = pa by rw [← hx])
      clear hx
      have KK := Lib.hid (show k ≤ nb ∧ k < nb from ⟨hk, hlt⟩)
      rcases (show nd < -1 ∨ (-1 ≤ nd ∧ nl ≤ nd) ∨ (-1 ≤ nd ∧ nd < nl ∧ k = 0 ∧ ¬ pa = -1) ∨ (-1 ≤ nd ∧ nd < nl ∧ 0 < k ∧ pa = -1) ∨ (-1 ≤ nd ∧ nd < nl ∧ 0 < k ∧ pa < -1) ∨ (-1 ≤ nd ∧ nd < nl ∧ 0 < k ∧ 0 ≤ pa ∧ k ≤ pa) ∨ (-1 ≤ nd ∧ nd < nl ∧ k = 0 ∧ pa = -1 ∧ nd < 0) ∨ (0 ≤ nd ∧ nd < nl ∧ k = 0 ∧ pa = -1) ∨ (0 ≤ nd ∧ nd < nl ∧ 0 < k ∧ 0 ≤ pa ∧ pa < k) ∨ (nd = -1 ∧ 0 < k ∧ 0 ≤ pa ∧ pa < k) by omega) with hd | hd | hd | hd | hd | hd | hd | hd | hd | hd
      · have HBAD : Hid (¬ LooksOk nl bs) := fun hh => hh k (by rw [HN.out]; exact hlt) (by unfold boxBad; rw [HND.out, HPA.out]; omega)
        have e1 : decide (nd < -1) = true := by simp; omega
        clear hd hk
        go_wp2_with fail
        go_ret2
        exact ⟨.inr ⟨rfl, HBAD.out⟩, below_alloc hbel _⟩
      · have HBAD : Hid (¬ LooksOk nl bs) := fun hh => hh k (by rw [HN.out]; exact hlt) (by unfold boxBad; rw [HND.out, HPA.out]; omega)
        have e1 : decide (nd < -1) = false := by simp; omega
        have e2 : decide ((nl : Int) ≤ nd) = true := by simp; omega
        clear hd hk
        go_wp2_with fail
        go_ret2
        exact ⟨.inr ⟨rfl, HBAD.out⟩, below_alloc hbel _⟩
      · have HBAD : Hid (¬ LooksOk nl bs) := fun hh => hh k (by rw [HN.out]; exact hlt) (by unfold boxBad; rw [HND.out, HPA.out]; omega)
        have e1 : decide (nd < -1) = false := by simp; omega
        have e2 : decide ((nl : Int) ≤ nd) = false := by simp; omega
        have e3 : ((k : Int) == 0) = true := by simp; omega
        have e4 : (pa == -1) = false := by simp; omega
        clear hd hk
        go_wp2_with fail
        go_ret2
        exact ⟨.inr ⟨rfl, HBAD.out⟩, below_alloc hbel _⟩
      · have HBAD : Hid (¬ LooksOk nl bs) := fun hh => hh k (by rw [HN.out]; exact hlt) (by unfold boxBad; rw [HND.out, HPA.out]; omega)
        have e1 : decide (nd < -1) = false := by simp; omega
        have e2 : decide ((nl : Int) ≤ nd) = false := by simp; omega
        have e3 : ((k : Int) == 0) = false := by simp; omega
        have e4 : (pa == -1) = true := by simp; omega
        clear hd hk
        go_wp2_with fail
        go_ret2
        exact ⟨.inr ⟨rfl, HBAD.out⟩, below_alloc hbel _⟩
      · have HBAD : Hid (¬ LooksOk nl bs) := fun hh => hh k (by rw [HN.out]; exact hlt) (by unfold boxBad; rw [HND.out, HPA.out]; omega)
        have e1 : decide (nd < -1) = false := by simp; omega
        have e2 : decide ((nl : Int) ≤ nd) = false := by simp; omega
        have e3 : ((k : Int) == 0) = false := by simp; omega
        have e4 : (pa == -1) = false := by simp; omega
        have e5 : decide (pa < -1) = true := by simp; omega
        clear hd hk
        go_wp2_with fail
        go_ret2
        exact ⟨.inr ⟨rfl, HBAD.out⟩, below_alloc hbel _⟩
      · have HBAD : Hid (¬ LooksOk nl bs) := fun hh => hh k (by rw [HN.out]; exact hlt) (by unfold boxBad; rw [HND.out, HPA.out]; omega)
        have e1 : decide (nd < -1) = false := by simp; omega
        have e2 : decide ((nl : Int) ≤ nd) = false := by simp; omega
        have e3 : ((k : Int) == 0) = false := by simp; omega
        have e4 : (pa == -1) = false := by simp; omega
        have e5 : decide (pa < -1) = false := by simp; omega
        have e6 : decide ((k : Int) ≤ pa) = true := by simp; omega
        clear hd hk
        go_wp2_with fail
        go_ret2
        exact ⟨.inr ⟨rfl, HBAD.out⟩, below_alloc hbel _⟩
      · have HBAD : Hid (¬ LooksOk nl bs) := fun hh => hh k (by rw [HN.out]; exact hlt) (by unfold boxBad; rw [HND.out, HPA.out]; omega)
        have e1 : decide (nd < -1) = false := by simp; omega
        have e2 : decide ((nl : Int) ≤ nd) = false := by simp; omega
        have e3 : ((k : Int) == 0) = true := by simp; omega
        have e4 : (pa == -1) = true := by simp; omega
        have e5 : decide (pa < -1) = false := by simp; omega
        have e6 : decide ((k : Int) ≤ pa) = false := by simp; omega
        have e7 : decide (nd < 0) = true := by simp; omega
        clear hd hk
        go_wp2_with fail
        go_ret2
        exact ⟨.inr ⟨rfl, HBAD.out⟩, below_alloc hbel _⟩
      · have HNB : Hid (¬ boxBad nl (bx bs k) k) := by show ¬ _; unfold boxBad; rw [HND.out, HPA.out]; omega
        have e1 : decide (nd < -1) = false := by simp; omega
        have e2 : decide ((nl : Int) ≤ nd) = false := by simp; omega
        have e3 : ((k : Int) == 0) = true := by simp; omega
        have e4 : (pa == -1) = true := by simp; omega
        have e5 : decide (pa < -1) = false := by simp; omega
        have e6 : decide ((k : Int) ≤ pa) = false := by simp; omega
        have e7 : decide (nd < 0) = false := by simp; omega
        have e8 : decide (0 ≤ nd) = true := by simp; omega
        obtain ⟨m, rfl⟩ : ∃ m : Nat, nd = m := ⟨nd.toNat, by omega⟩
        have hmn : m < nl := by omega
        obtain ⟨b2, off2, hAl, hb2, hR⟩ := look_range (tbl := tbl) (H2.out.below hbel hB) HLZ.out HND.out hmn
        rw [hAl]
        have HR := Lib.hid hR
        clear hR hAl hk
        have hb3 : b2 < wr.heap.size := by omega
        have hd2 := Lib.hid hd
        clear hd
        have HB2 := Lib.hid hbel
        have HR5 := Lib.hid (fun (o : Obj) => show (wr.alloc o).rangeAt b2 (off2 + m * 118) (lookRow lz tbl bs k) from fun j v hv => ((below_alloc (Below.refl _ wr) o).cell (p := ⟨b2, _, none⟩) hb3).trans (HR.out j v hv))
        have HBX := Lib.hid (fun (o : Obj) => show Blk ((wr.alloc o).alloc (.cells (lookRow lz tbl bs k).toArray 35)) (wr.heap.size + 1) 35 (lookRow lz tbl bs k).toArray from by have h := Blk.new (wr.alloc o) 35 (lookRow lz tbl bs k).toArray; rwa [alloc_size] at h)
        go_upto_region 8 with fail
        go_wp2_with (first | (refine wpList_load_mid rfl 35 _ rfl b2 (off2 + m * 118) rfl (lookRow lz tbl bs k) _ (HR5.out _) Tryz.underlying35 rfl (by rw [HLK.out k]; kernel_rfl) ?_; simp only [Act.put, List.setIfInBounds_toArray, List.set_cons_zero, List.set_cons_succ]) | (refine wpList_sliceOne rfl 25 35 _ rfl (lookRow lz tbl bs k).toArray rfl i0 _ Tryz.underlying25 hi0 hz0 (by rw [List.size_toArray, HLK.out k]; exact hz1) (by rw [List.size_toArray, HLK.out k]; omega) (by rw [List.size_toArray, HLK.out k]; omega) (wr.heap.size + 1) (by simp) ?_; simp only [Act.put, List.setIfInBounds_toArray, List.set_cons_zero, List.set_cons_succ]) | (at_builtin; refine wpList_append_lies rfl _ _ 25 rfl w.heap.size 35 i0 _ 118 944 Tryz.underlying25 hi0 hz0 hz1 hz2 hz3 (by decide) _ _ _ rfl ((HOW.out.alloc _).alloc _) ⟨wr.heap.size + 1, 0, none⟩ 1 1 (lookRow lz tbl bs k) rfl (HLK.out k) (blk_cellsL (HBX.out _)) (HL1.out k) (by omega) (by unfold maxLen; omega) (by omega) (by simp; omega) _ rfl ?_; intro g cap w5 o5 hg5 hat5 hlt5; simp only [Act.put, List.setIfInBounds_toArray, List.set_cons_zero, List.set_cons_succ]))
        exact ⟨⟨k + 1, by have := KK.out; omega, by go_num, by rw [rows_succ]; exact o5, fun j hj => by
          by_cases e : j = k
          · subst e; exact HNB.out
          · exact HALL.out j (by omega), below_grownO (below_alloc (below_alloc HB2.out _) _) HOW.out hg5⟩, by have := KK.out; simp [intOf]; omega⟩
      · have HNB : Hid (¬ boxBad nl (bx bs k) k) := by show ¬ _; unfold boxBad; rw [HND.out, HPA.out]; omega
        have e1 : decide (nd < -1) = false := by simp; omega
        have e2 : decide ((nl : Int) ≤ nd) = false := by simp; omega
        have e3 : ((k : Int) == 0) = false := by simp; omega
        have e4 : (pa == -1) = false := by simp; omega
        have e5 : decide (pa < -1) = false := by simp; omega
        have e6 : decide ((k : Int) ≤ pa) = false := by simp; omega
        have e8 : decide (0 ≤ nd) = true := by simp; omega
        obtain ⟨m, rfl⟩ : ∃ m : Nat, nd = m := ⟨nd.toNat, by omega⟩
        have hmn : m < nl := by omega
        obtain ⟨b2, off2, hAl, hb2, hR⟩ := look_range (tbl := tbl) (H2.out.below hbel hB) HLZ.out HND.out hmn
        rw [hAl]
        have HR := Lib.hid hR
        clear hR hAl hk
        have hb3 : b2 < wr.heap.size := by omega
        have hd2 := Lib.hid hd
        clear hd
        have HB2 := Lib.hid hbel
        have HR5 := Lib.hid (fun (o : Obj) => show (wr.alloc o).rangeAt b2 (off2 + m * 118) (lookRow lz tbl bs k) from fun j v hv => ((below_alloc (Below.refl _ wr) o).cell (p := ⟨b2, _, none⟩) hb3).trans (HR.out j v hv))
        have HBX := Lib.hid (fun (o : Obj) => show Blk ((wr.alloc o).alloc (.cells (lookRow lz tbl bs k).toArray 35)) (wr.heap.size + 1) 35 (lookRow lz tbl bs k).toArray from by have h := Blk.new (wr.alloc o) 35 (lookRow lz tbl bs k).toArray; rwa [alloc_size] at h)
        go_upto_region 8 with fail
        go_wp2_with (first | (refine wpList_load_mid rfl 35 _ rfl b2 (off2 + m * 118) rfl (lookRow lz tbl bs k) _ (HR5.out _) Tryz.underlying35 rfl (by rw [HLK.out k]; kernel_rfl) ?_; simp only [Act.put, List.setIfInBounds_toArray, List.set_cons_zero, List.set_cons_succ]) | (refine wpList_sliceOne rfl 25 35 _ rfl (lookRow lz tbl bs k).toArray rfl i0 _ Tryz.underlying25 hi0 hz0 (by rw [List.size_toArray, HLK.out k]; exact hz1) (by rw [List.size_toArray, HLK.out k]; omega) (by rw [List.size_toArray, HLK.out k]; omega) (wr.heap.size + 1) (by simp) ?_; simp only [Act.put, List.setIfInBounds_toArray, List.set_cons_zero, List.set_cons_succ]) | (at_builtin; refine wpList_append_lies rfl _ _ 25 rfl w.heap.size 35 i0 _ 118 944 Tryz.underlying25 hi0 hz0 hz1 hz2 hz3 (by decide) _ _ _ rfl ((HOW.out.alloc _).alloc _) ⟨wr.heap.size + 1, 0, none⟩ 1 1 (lookRow lz tbl bs k) rfl (HLK.out k) (blk_cellsL (HBX.out _)) (HL1.out k) (by omega) (by unfold maxLen; omega) (by omega) (by simp; omega) _ rfl ?_; intro g cap w5 o5 hg5 hat5 hlt5; simp only [Act.put, List.setIfInBounds_toArray, List.set_cons_zero, List.set_cons_succ]))
        exact ⟨⟨k + 1, by have := KK.out; omega, by go_num, by rw [rows_succ]; exact o5, fun j hj => by
          by_cases e : j = k
          · subst e; exact HNB.out
          · exact HALL.out j (by omega), below_grownO (below_alloc (below_alloc HB2.out _) _) HOW.out hg5⟩, by have := KK.out; simp [intOf]; omega⟩
      · have HNB : Hid (¬ boxBad nl (bx bs k) k) := by show ¬ _; unfold boxBad; rw [HND.out, HPA.out]; omega
        obtain ⟨wv, rfl⟩ : ∃ x, x = wr := ⟨_, rfl⟩
        obtain ⟨rfl, hk0, hp0, hpk⟩ := hd
        obtain ⟨p, rfl⟩ : ∃ p : Nat, pa = p := ⟨pa.toNat, by omega⟩
        have hpk : p < k := by omega
        have e2 : decide ((nl : Int) ≤ -1) = false := by simp <;> omega
        have e3 : ((k : Int) == 0) = false := by simp <;> omega
        have e4 : ((p : Int) == -1) = false := by simp <;> omega
        have e5 : decide ((p : Int) < -1) = false := by simp <;> omega
        obtain ⟨g1, cap1, he1, hga, hgb⟩ := own_some HOW.out hk0
        injection he1 with he1 he2 he3
        subst he1; subst he3
        have HOW := Lib.hid HOW.out
        have HGA := Lib.hid (show w.heap.size ≤ g1 ∧ g1 < wv.heap.size from ⟨hga, hgb⟩)
        have HB2 := Lib.hid hbel
        have HNN := Lib.hid (show ¬ 0 ≤ (bx bs k).node by rw [HND.out]; omega)
        have HPP := Lib.hid (show (bx bs k).parent.toNat = p by rw [HPA.out]; simp)
        have HW0 := Lib.hid (show 0 < w.heap.size by omega)
        obtain ⟨L, hL⟩ : ∃ L, L = lookQ lz tbl (looksL lz tbl bs k) (bx bs k) := ⟨_, rfl⟩
        have HLQ : Hid (∀ q, q < 118 → (lookRow lz tbl bs k)[q]? = some (.int .i64 (L q))) := by rw [hL]; exact fun q hq => lookRow_at lz tbl bs k q hq
        have HLI : Hid (∀ q, inhP (q / 2) = true → q < 118 → L q = (lookAt lz tbl bs p).getD q 0) := by
          rw [hL]; intro q h1 h2
          have h3 := look_inh (lz := lz) (tbl := tbl) HNN.out h1 (by rw [HPP.out]; exact hpk) h2
          rw [HPP.out] at h3; exact h3
        have HLN : Hid (∀ q, inhP (q / 2) = false → L q = tbl.getD q 0) := by rw [hL]; exact fun q h1 => look_init HNN.out h1
        have KK2 := Lib.hid (show p < k from hpk)
        have hO1 := Lib.hid (fun (o : Obj) => (HOW.out.alloc o).alloc (.cells zst 35))
        have hX1 := Lib.hid (fun (cs : Array Value) (t : TypeId) => (Blk.new wv t cs).alloc (.cells zst 35))
        have hS1 := Lib.hid (fun (o : Obj) => show Blk ((wv.alloc o).alloc (.cells zst 35)) (wv.heap.size + 1) 35 zst from by have h := Blk.new (wv.alloc o) 35 zst; rwa [alloc_size] at h)
        clear hL hk hga hgb hp0 hk0 hbel
        go_wp2_with fail
        go_loopw [67] (fun i wr => ∃ p' : Nat, p' ≤ 59 ∧ i = .int .i64 p' ∧ ∃ cs : List Value, cs.length = 118 ∧ Blk wr (wv.heap.size + 1) 35 cs.toArray ∧ Hid (∀ q, q < p' * 2 → cs[q]? = some (.int .i64 (L q))) ∧ wr.ownsRow w.heap.size 35 118 (.slice (some ⟨g1, 0, none⟩) k C1) k (rows k (lookRow lz tbl bs)) ∧ Blk wr wv.heap.size 72 #[.int .i64 kd, .int .i64 (-1), .int .i64 p, .slice ka ks.length kc, .string tx] ∧ Below w.heap.size w wr) (fun i _ => 59 - (intOf i).toNat)
        case atStart => exact ⟨0, by omega, rfl, List.replicate 118 (.int .i64 0), by simp, hS1.out _, fun q hq => absurd hq (by omega), hO1.out _, hX1.out _ _, below_alloc (below_alloc HB2.out _) _⟩
        case round =>
          clear c0 c1 c2 c3 c4
          obtain ⟨p', hp', rfl, cs, hcs, hS, HC, hown, hX, hbel⟩ := hrel
          have hw2 := hbel.size
          by_cases hlt2 : p' < 59
          · obtain ⟨v0, hv0⟩ : ∃ v, v = L (p' * 2) := ⟨_, rfl⟩
            obtain ⟨v1, hv1⟩ : ∃ v, v = L (p' * 2 + 1) := ⟨_, rfl⟩
            obtain ⟨z0, hz0'⟩ : ∃ z, cs[p' * 2]? = some z := ⟨_, List.getElem?_eq_getElem (by omega)⟩
            obtain ⟨z1, hz1'⟩ : ∃ z, cs[p' * 2 + 1]? = some z := ⟨_, List.getElem?_eq_getElem (by omega)⟩
            have PP := Lib.hid (show p' ≤ 59 ∧ p' < 59 from ⟨hp', hlt2⟩)
            have HCS := Lib.hid hcs
            have HS := Lib.hid hS
            have HOO := Lib.hid hown
            have HXX := Lib.hid hX
            have HBB := Lib.hid hbel
            have HCN : Hid (∀ q, q < (p' + 1) * 2 → ((cs.set (p' * 2) (.int .i64 v0)).set (p' * 2 + 1) (.int .i64 v1))[q]? = some (.int .i64 (L q))) := by
              intro q hq
              by_cases ea : q = p' * 2 + 1
              · subst ea; rw [List.getElem?_set_self (by simp; omega), hv1]
              · rw [List.getElem?_set_ne (fun e => ea e.symm)]
                by_cases eb : q = p' * 2
                · subst eb; rw [List.getElem?_set_self (by omega), hv0]
                · rw [List.getElem?_set_ne (fun e => eb e.symm)]; exact HC.out q (by omega)
            have q0 : wr.cell? ⟨wv.heap.size + 1, p' * 2, none⟩ = some z0 := (hS.cell _).trans (by simpa using hz0')
            have q1 : wr.cell? ⟨wv.heap.size + 1, p' * 2 + 1, none⟩ = some z1 := (hS.cell _).trans (by simpa using hz1')
            have Q01 := Lib.hid (show wr.cell? ⟨wv.heap.size + 1, p' * 2, none⟩ = some z0 ∧ wr.cell? ⟨wv.heap.size + 1, p' * 2 + 1, none⟩ = some z1 from ⟨q0, q1⟩)
            have f0 := hS.free (p' * 2)
            have f1 := hS.free (p' * 2 + 1)
            have x2 : wr.cell? ⟨wv.heap.size, 2, none⟩ = some (.int .i64 p) := hX.cell 2
            cases hI : inhP p'
            · have HI0 := inherits_calls p'
              rw [hI] at HI0
              have HI := Lib.hid (fun w => HI0 w hlt2)
              have HJ0 := initial_calls p' wr tbl (HT.out.below hbel HW0.out) (by have := HW0.out; omega) hlt2
              rw [← HLN.out (p' * 2) (by rw [show p' * 2 / 2 = p' by omega]; exact hI), ← HLN.out (p' * 2 + 1) (by rw [show (p' * 2 + 1) / 2 = p' by omega]; exact hI), ← hv0, ← hv1] at HJ0
              have HJ := Lib.hid HJ0
              clear HI0 HJ0 hv0 hv1 hz0' hz1' hI hS hown hX hbel hcs q0 q1 f0 f1 x2
              go_wp2_with (first | (go_at_call 47; refine (HI.out _).mono ?_; rintro e w1 ⟨rfl, rfl⟩) | (go_at_call 48; refine HJ.out.mono ?_; rintro e w1 ⟨rfl, hb1⟩; have hS := HS.out.below hb1 HS.out.lt; have q0 := ((hS.cell (p' * 2)).trans (HS.out.cell _).symm).trans Q01.out.1; have q1 := ((hS.cell (p' * 2 + 1)).trans (HS.out.cell _).symm).trans Q01.out.2; have f0 := hS.free (p' * 2); have f1 := hS.free (p' * 2 + 1); have HS1 := Lib.hid hS; clear hS))
              go_roundw
              case rel =>
                have h1 := (HS1.out.stored (p' * 2) (.int .i64 v0)).stored (p' * 2 + 1) (.int .i64 v1)
                rw [List.setIfInBounds_toArray, List.setIfInBounds_toArray] at h1
                have hne : (Value.slice (some ⟨g1, 0, none⟩) k C1).ownBlock ≠ some (wv.heap.size + 1) := by have := HGA.out; simp [Value.ownBlock]; omega
                exact ⟨p' + 1, by have := PP.out; omega, by go_num, _, by simp [HCS.out], h1, HCN.out, own_setFar (own_setFar (own_below HOO.out hb1) hne) hne, ((HXX.out.below hb1 HXX.out.lt).far (by omega) _).far (by omega) _, below_set (below_set (below_then HBB.out hb1) (by omega) _) (by omega) _⟩
              case measure => have := PP.out; simp [intOf]; omega
            · have HI0 := inherits_calls p'
              rw [hI] at HI0
              have HI := Lib.hid (fun w => HI0 w hlt2)
              have t0 : wr.cell? ⟨g1, p * 118 + p' * 2, none⟩ = some (.int .i64 v0) := (look_cell (q := p' * 2) hown hpk (by omega)).trans (by rw [hv0, HLI.out _ (by rw [show p' * 2 / 2 = p' by omega]; exact hI) (by omega)])
              have t1 : wr.cell? ⟨g1, p * 118 + p' * 2 + 1, none⟩ = some (.int .i64 v1) := (look_cell (q := p' * 2 + 1) hown hpk (by omega)).trans (by rw [hv1, HLI.out _ (by rw [show (p' * 2 + 1) / 2 = p' by omega]; exact hI) (by omega)])
              clear HI0 hv0 hv1 hz0' hz1' hI hS hown hX hbel hcs
              go_wp2_with (go_at_call 47; refine (HI.out _).mono ?_; rintro e w1 ⟨rfl, rfl⟩)
              go_roundw
              case rel =>
                have h1 := (HS.out.stored (p' * 2) (.int .i64 v0)).stored (p' * 2 + 1) (.int .i64 v1)
                rw [List.setIfInBounds_toArray, List.setIfInBounds_toArray] at h1
                have hne : (Value.slice (some ⟨g1, 0, none⟩) k C1).ownBlock ≠ some (wv.heap.size + 1) := by have := HGA.out; simp [Value.ownBlock]; omega
                exact ⟨p' + 1, by have := PP.out; omega, by go_num, _, by simp [HCS.out], h1, HCN.out, own_setFar (own_setFar HOO.out hne) hne, (HXX.out.far (by omega) _).far (by omega) _, below_set (below_set HBB.out (by omega) _) (by omega) _⟩
              case measure => have := PP.out; simp [intOf]; omega
          · obtain rfl : 59 = p' := by omega
            have hfin : cs = lookRow lz tbl bs k := by
              apply List.ext_getElem?
              intro q
              by_cases hq : q < 118
              · rw [HC.out q (by omega), HLQ.out q hq]
              · rw [List.getElem?_eq_none (by omega), List.getElem?_eq_none (by rw [HLK.out k]; omega)]
            subst hfin
            have HR5 := Lib.hid (show wr.rangeAt (wv.heap.size + 1) 0 (lookRow lz tbl bs k) from fun j v hv => by rw [Nat.zero_add, hS.cell]; simpa using hv)
            have HOO := Lib.hid hown
            have HBB := Lib.hid hbel
            have HBX := Lib.hid (Blk.new wr 35 (lookRow lz tbl bs k).toArray)
            have hlt' := KK.out.2
            clear hcs hS HC hown hX hbel
            go_upto_region 17 with fail
            go_wp2_with (first | (refine wpList_load_mid rfl 35 _ rfl (wv.heap.size + 1) 0 rfl (lookRow lz tbl bs k) _ HR5.out Tryz.underlying35 rfl (by rw [HLK.out k]; kernel_rfl) ?_; simp only [Act.put, List.setIfInBounds_toArray, List.set_cons_zero, List.set_cons_succ]) | (refine wpList_sliceOne rfl 25 35 _ rfl (lookRow lz tbl bs k).toArray rfl i0 _ Tryz.underlying25 hi0 hz0 (by rw [List.size_toArray, HLK.out k]; exact hz1) (by rw [List.size_toArray, HLK.out k]; omega) (by rw [List.size_toArray, HLK.out k]; omega) wr.heap.size rfl ?_; simp only [Act.put, List.setIfInBounds_toArray, List.set_cons_zero, List.set_cons_succ]) | (at_builtin; refine wpList_append_lies rfl _ _ 25 rfl w.heap.size 35 i0 _ 118 944 Tryz.underlying25 hi0 hz0 hz1 hz2 hz3 (by decide) _ _ _ rfl (HOO.out.alloc _) ⟨wr.heap.size, 0, none⟩ 1 1 (lookRow lz tbl bs k) rfl (HLK.out k) (blk_cellsL HBX.out) (HL1.out k) (by omega) (by unfold maxLen; omega) (by omega) (by simp; omega) _ rfl ?_; intro g cap w5 o5 hg5 hat5 hlt5; simp only [Act.put, List.setIfInBounds_toArray, List.set_cons_zero, List.set_cons_succ]))
            exact ⟨⟨k + 1, by have := KK.out; omega, by go_num, by rw [rows_succ]; exact o5, fun j hj => by
              by_cases e : j = k
              · subst e; exact HNB.out
              · exact HALL.out j (by omega), below_grownO (below_alloc HBB.out _) HOO.out hg5⟩, by have := KK.out; simp [intOf]; omega⟩
    · obtain rfl : nb = k := by omega
      have HOKK : Hid (LooksOk nl bs) := fun j hj => HALL.out j (by rw [HN.out] at hj; exact hj)
      go_wp2_with fail
      go_ret2
      exact ⟨.inl ⟨_, rfl, HOW.out, HOKK.out⟩, hbel⟩
end Go.Proofs.YtkmmlcnoeeaekaaGreatDoor
