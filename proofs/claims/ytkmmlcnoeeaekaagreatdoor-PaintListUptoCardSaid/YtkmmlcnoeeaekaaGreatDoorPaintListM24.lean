/- Several texts in one: StkB, LooksA, Apart. -/
import Derived.Test.YtkmmlcnoeeaekaaGreatDoorPaintListM23
import Derived.Test.YtkmmlcnoeeaekaaGreatDoorPaintListM7
import Derived.Test.YtkmmlcnoeeaekaaGreatDoorPaintListM4
import Derived.Outline
import Derived.Test.YtkmmlcnoeeaekaaGreatDoorPaintListM3
import Derived.Deep.AppendLies
/- Contracts of stack.floor and stack.marked: what a fragment is. -/
namespace Go.Proofs.YtkmmlcnoeeaekaaGreatDoor
open Go.RowKit
set_option linter.unusedVariables false
set_option linter.unusedSimpArgs false

theorem tdiv_1000 (n : Int) (h1 : -9223372036854775808 ≤ n) (h2 : n ≤ 9223372036854775807) : -36028797018963968 ≤ n.tdiv 1000 ∧ n.tdiv 1000 ≤ 36028797018963968 := by
  have h : (n.tdiv 1000).natAbs = n.natAbs / (1000 : Int).natAbs := Int.natAbs_tdiv n 1000
  have h4 : (1000 : Int).natAbs = 1000 := rfl
  rw [h4] at h
  omega
theorem sfloor_calls (n : Int) (w : World) (h1 : -9223372036854775808 ≤ n) (h2 : n ≤ 9223372036854775807) : Calls Tryz.prog 127 #[.int .i64 n, .int .i64 1000] w fun e w' => e = .returned (.int .i64 (n / 1000)) ∧ w = w' := by
  have hq := tdiv_1000 n h1 h2
  by_cases h0 : n.tmod 1000 < 0
  · have E := Lib.hid (rdown_down n 1000 (by omega) h0)
    clear h1 h2
    go_enter Tryz.func127, Tryz.ntmps127
    go_wp2_with fail
    go_ret
    exact ⟨ret_i (E.out.trans (Int.fdiv_eq_ediv_of_nonneg n (by omega))), rfl⟩
  · have h0' : 0 ≤ n.tmod 1000 := by omega
    have E := Lib.hid (rdown_keep n 1000 (by omega) h0')
    clear h1 h2 h0
    go_enter Tryz.func127, Tryz.ntmps127
    go_wp2_with fail
    go_ret
    exact ⟨ret_i (E.out.trans (Int.fdiv_eq_ediv_of_nonneg n (by omega))), rfl⟩
theorem down3_calls (n : Int) (w : World) (h1 : -9223372036854775808 ≤ n) (h2 : n ≤ 9223372036854775807) : Calls Tryz.prog 171 #[.int .i64 n, .int .i64 1000] w fun e w' => e = .returned (.int .i64 (n / 1000)) ∧ w = w' := by
  have hq := tdiv_1000 n h1 h2
  by_cases h0 : n.tmod 1000 < 0
  · have E := Lib.hid (rdown_down n 1000 (by omega) h0)
    clear h1 h2
    go_enter Tryz.func171, Tryz.ntmps171
    go_wp2_with fail
    go_ret
    exact ⟨ret_i (E.out.trans (Int.fdiv_eq_ediv_of_nonneg n (by omega))), rfl⟩
  · have h0' : 0 ≤ n.tmod 1000 := by omega
    have E := Lib.hid (rdown_keep n 1000 (by omega) h0')
    clear h1 h2 h0
    go_enter Tryz.func171, Tryz.ntmps171
    go_wp2_with fail
    go_ret
    exact ⟨ret_i (E.out.trans (Int.fdiv_eq_ediv_of_nonneg n (by omega))), rfl⟩
/-- What is within a line. -/
def withinK (kind : Int) : Bool := kind == 3 || kind == 4
def layerK (kind : Int) (zs : List Int) : Bool := !withinK kind && (stN zs 1 != 0 || decide (stN zs 34 < 1000))
def zK (zs : List Int) : Int := if stN zs 1 != 0 && stK zs 31 == 4 then stN zs 31 / 1000 else 0
def pocketK (kind : Int) (zs : List Int) : Bool := kind == 5 || outN (stN zs 1) (stN zs 2) == 1 || stN zs 32 == 1
def isK (kind : Int) (zs : List Int) : Int := if layerK kind zs then 2 else if withinK kind then 0 else if pocketK kind zs then 1 else 0
def phK (kind : Int) (zs : List Int) : Int := if layerK kind zs then (if zK zs < 0 then 0 else 4) else if withinK kind || kind == 5 then 3 else if outN (stN zs 1) (stN zs 2) == 1 then 2 else 1
def rankK (kind : Int) (zs : List Int) : Int := if layerK kind zs then zK zs else 0
def markC (a b c : Int) : Array Value := #[.int .i64 a, .int .i64 b, .int .i64 c]
set_option maxRecDepth 100000 in
set_option maxHeartbeats 4000000 in
theorem marked_calls (kind : Int) (zs : List Int) (w : World) (hz : zs.length = 118) (hb : -9223372036854775808 ≤ stN zs 31 ∧ stN zs 31 ≤ 9223372036854775807) :
    Calls Tryz.prog 77 #[.int .i64 kind, .agg (sty zs)] w fun e w' => e = .returned (.agg #[.int .i64 (isK kind zs), .int .i64 (rankK kind zs), .int .i64 (phK kind zs)]) ∧ Below w.heap.size w w' := by
  have hS := Blk.new w 35 (sty zs)
  have HS := Lib.hid hS
  have p1 : (sty zs)[3]? = some (.int .i64 (stN zs 1)) := sty_at zs 3 (by omega)
  have o1 : (sty zs)[69]? = some (.int .i64 (stN zs 34)) := sty_at zs 69 (by omega)
  have z0 : (sty zs)[62]? = some (.int .i64 (stK zs 31)) := sty_at zs 62 (by omega)
  have z1 : (sty zs)[63]? = some (.int .i64 (stN zs 31)) := sty_at zs 63 (by omega)
  have v1 : (sty zs)[65]? = some (.int .i64 (stN zs 32)) := sty_at zs 65 (by omega)
  obtain ⟨pos, hpos⟩ : ∃ x, x = stN zs 1 := ⟨_, rfl⟩
  obtain ⟨opa, hopa⟩ : ∃ x, x = stN zs 34 := ⟨_, rfl⟩
  obtain ⟨zk, hzk⟩ : ∃ x, x = stK zs 31 := ⟨_, rfl⟩
  obtain ⟨zn, hzn⟩ : ∃ x, x = stN zs 31 := ⟨_, rfl⟩
  obtain ⟨ov, hov⟩ : ∃ x, x = stN zs 32 := ⟨_, rfl⟩
  rw [← hpos] at p1
  rw [← hopa] at o1
  rw [← hzk] at z0
  rw [← hzn] at z1 hb
  rw [← hov] at v1
  obtain ⟨hb1, hb2⟩ := hb
  have HSZ : Hid ((Tryz.prog.info? 35).map (·.size) = some (sty zs).size) := by show _ = _; rw [sty_size, hz]; kernel_rfl
  have hout : ∀ w, Calls Tryz.prog 9 #[.agg (sty zs)] w fun e w' => e = .returned (.int .i64 (outN (stN zs 1) (stN zs 2))) ∧ Below w.heap.size w w' := fun w => out_calls (sty zs) (stN zs 1) (stN zs 2) w (sty_at zs 3 (by omega)) (sty_at zs 5 (by omega))
  have HOUT := Lib.hid hout
  have BRF : Hid (∀ x y : Array Value, Blk (((w.alloc (.cells (sty zs) 35)).alloc (.cells x 138)).alloc (.cells y 138)) (w.heap.size + 1) 138 x) := fun x y => by
    have := (Blk.new (w.alloc (.cells (sty zs) 35)) 138 x).alloc (.cells y 138)
    rwa [alloc_size] at this
  have BMF : Hid (∀ x y : Array Value, Blk (((w.alloc (.cells (sty zs) 35)).alloc (.cells x 138)).alloc (.cells y 138)) (w.heap.size + 1 + 1) 138 y) := fun x y => by
    have := Blk.new ((w.alloc (.cells (sty zs) 35)).alloc (.cells x 138)) 138 y
    rwa [alloc_size, alloc_size] at this
  have BSF : Hid (∀ x y : Array Value, Blk (((w.alloc (.cells (sty zs) 35)).alloc (.cells x 138)).alloc (.cells y 138)) w.heap.size 35 (sty zs)) := fun x y => (hS.alloc _).alloc _
  have HBF : Hid (∀ x y : Array Value, Below w.heap.size w (((w.alloc (.cells (sty zs) 35)).alloc (.cells x 138)).alloc (.cells y 138))) := fun x y => below_alloc (below_alloc (below_alloc (Below.refl w.heap.size w) _) _) _
  clear hS hout
  by_cases hw : withinK kind = true
  · have hI : isK kind zs = 0 ∧ rankK kind zs = 0 ∧ phK kind zs = 3 := by
      unfold isK rankK phK layerK; rw [hw]; simp
    rw [hI.1, hI.2.1, hI.2.2]
    have hk : kind = 3 ∨ kind = 4 := by unfold withinK at hw; simpa using hw
    clear hI hw hpos hopa hzk hzn hov hz z0 z1 v1 o1
    rcases hk with rfl | rfl
    all_goals
      go_enter Tryz.func77, Tryz.ntmps77
      go_wp2_with fail
      exact bodyPost_ret (v := .agg #[.int .i64 0, .int .i64 0, .int .i64 3]) (results_cell_row Tryz.results77 _ _ (w.heap.size + 1) 138 _ (0, 0) _ rfl (BRF.out _ _) Tryz.underlying138 rfl (by kernel_rfl)) rfl ⟨rfl, HBF.out _ _⟩
  have hk : ¬ kind = 3 ∧ ¬ kind = 4 := by unfold withinK at hw; simpa using hw
  have k3 : (kind == 3) = false := by simpa using hk.1
  have k4 : (kind == 4) = false := by simpa using hk.2
  have HW : withinK kind = false := by simpa using hw
  clear hk hw
  by_cases hp : pos = 0
  · have q1 : (pos != 0) = false := by simp [hp]
    by_cases ho : opa < 1000
    · have q2 : decide (opa < 1000) = true := decide_eq_true ho
      have hI : isK kind zs = 2 ∧ rankK kind zs = 0 ∧ phK kind zs = 4 := by
        unfold isK rankK phK layerK zK; rw [HW, ← hpos, ← hopa, q1, q2]; simp
      rw [hI.1, hI.2.1, hI.2.2]
      clear hI HW hpos hopa hzk hzn hov hz v1 hp ho
      go_enter Tryz.func77, Tryz.ntmps77
      go_wp2_with fail
      exact bodyPost_ret (v := .agg #[.int .i64 2, .int .i64 0, .int .i64 4]) (results_cell_row Tryz.results77 _ _ (w.heap.size + 1) 138 _ (0, 0) _ rfl ((BRF.out _ _).alloc _) Tryz.underlying138 rfl (by kernel_rfl)) rfl ⟨rfl, below_alloc (HBF.out _ _) _⟩
    · have q2 : decide (opa < 1000) = false := decide_eq_false ho
      have HL : layerK kind zs = false := by unfold layerK; rw [HW, ← hpos, ← hopa, q1, q2]; rfl
      by_cases h5 : kind = 5
      · have k5 : (kind == 5) = true := by simp [h5]
        have hI : isK kind zs = 1 ∧ rankK kind zs = 0 ∧ phK kind zs = 3 := by
          unfold isK rankK phK pocketK; rw [HL, HW, k5]; simp
        rw [hI.1, hI.2.1, hI.2.2]
        clear hI HW HL hpos hopa hzk hzn hov hz v1 hp ho h5 z0 z1
        go_enter Tryz.func77, Tryz.ntmps77
        go_wp2_with fail
        exact bodyPost_ret (v := .agg #[.int .i64 1, .int .i64 0, .int .i64 3]) (results_cell_row Tryz.results77 _ _ (w.heap.size + 1) 138 _ (0, 0) _ rfl (BRF.out _ _) Tryz.underlying138 rfl (by kernel_rfl)) rfl ⟨rfl, HBF.out _ _⟩
      have k5 : (kind == 5) = false := by simpa using h5
      obtain ⟨ou, hou⟩ : ∃ x, x = outN (stN zs 1) (stN zs 2) := ⟨_, rfl⟩
      rw [← hou] at HOUT
      have bs3 := BSF.out #[.int .i64 0, .int .i64 0, .int .i64 0] #[.int .i64 0, .int .i64 0, .int .i64 1]
      have HWF : Hid (∀ w1, Below (((w.alloc (.cells (sty zs) 35)).alloc (.cells #[.int .i64 0, .int .i64 0, .int .i64 0] 138)).alloc (.cells #[.int .i64 0, .int .i64 0, .int .i64 1] 138)).heap.size (((w.alloc (.cells (sty zs) 35)).alloc (.cells #[.int .i64 0, .int .i64 0, .int .i64 0] 138)).alloc (.cells #[.int .i64 0, .int .i64 0, .int .i64 1] 138)) w1 → Blk w1 (w.heap.size + 1) 138 #[.int .i64 0, .int .i64 0, .int .i64 0] ∧ Blk w1 (w.heap.size + 1 + 1) 138 #[.int .i64 0, .int .i64 0, .int .i64 1] ∧ Blk w1 w.heap.size 35 (sty zs) ∧ Below w.heap.size w w1) := fun w1 hb =>
        ⟨(BRF.out _ _).below hb (BRF.out _ _).lt, (BMF.out _ _).below hb (BMF.out _ _).lt, (BSF.out _ _).below hb (BSF.out _ _).lt, below_then (HBF.out _ _) hb⟩
      have V1 := Lib.hid v1
      by_cases h1 : ou = 1
      · have k1 : (ou == 1) = true := by simp [h1]
        have hI : isK kind zs = 1 ∧ rankK kind zs = 0 ∧ phK kind zs = 2 := by
          unfold isK rankK phK pocketK; rw [HL, HW, k5, ← hou, k1]; simp
        rw [hI.1, hI.2.1, hI.2.2]
        clear hI HW HL hpos hopa hzk hzn hov hz v1 hp ho h5 z0 z1 h1 hou
        go_enter Tryz.func77, Tryz.ntmps77
        go_wp2_with (first | (refine wpList_load_row rfl 35 _ rfl w.heap.size rfl 35 (sty zs) (0, 0) _ bs3 Tryz.underlying35 rfl HSZ.out ?_) | (go_at_call 9; refine (HOUT.out _).mono ?_; rintro e w1 ⟨rfl, hb1⟩; obtain ⟨hR, hM, hSt, hbel⟩ := HWF.out _ hb1; have r0 : w1.cell? ⟨w.heap.size + 1, 0, none⟩ = some (.int .i64 0) := hR.cell 0; have r1 : w1.cell? ⟨w.heap.size + 1, 1, none⟩ = some (.int .i64 0) := hR.cell 1; have r2 : w1.cell? ⟨w.heap.size + 1, 2, none⟩ = some (.int .i64 0) := hR.cell 2; have m0 : w1.cell? ⟨w.heap.size + 1 + 1, 0, none⟩ = some (.int .i64 0) := hM.cell 0; have m1 : w1.cell? ⟨w.heap.size + 1 + 1, 1, none⟩ = some (.int .i64 0) := hM.cell 1; have m2 : w1.cell? ⟨w.heap.size + 1 + 1, 2, none⟩ = some (.int .i64 1) := hM.cell 2; have rf0 := hR.free 0; have rf1 := hR.free 1; have rf2 := hR.free 2; have mf0 := hM.free 0; have mf2 := hM.free 2; have o1 : w1.cell? ⟨w.heap.size, 65, none⟩ = some (.int .i64 ov) := (hSt.cell 65).trans V1.out))
        exact bodyPost_ret (v := .agg #[.int .i64 1, .int .i64 0, .int .i64 2]) (results_cell_row Tryz.results77 _ _ (w.heap.size + 1) 138 _ (0, 0) _ rfl ((((((hR.far (show w.heap.size + 1 ≠ w.heap.size + 1 + 1 by omega) _).far (show w.heap.size + 1 ≠ w.heap.size + 1 + 1 by omega) _).stored 0 _).stored 1 _).stored 2 _)) Tryz.underlying138 rfl (by kernel_rfl)) rfl ⟨rfl, below_set (below_set (below_set (below_set (below_set (hbel) (by omega) _) (by omega) _) (by omega) _) (by omega) _) (by omega) _⟩
      · have k1 : (ou == 1) = false := by simpa using h1
        by_cases h6 : ov = 1
        · have k6 : (ov == 1) = true := by simp [h6]
          have hI : isK kind zs = 1 ∧ rankK kind zs = 0 ∧ phK kind zs = 1 := by
            unfold isK rankK phK pocketK; rw [HL, HW, k5, ← hou, k1, ← hov, k6]; simp
          rw [hI.1, hI.2.1, hI.2.2]
          clear hI HW HL hpos hopa hzk hzn hov hz v1 hp ho h5 z0 z1 h1 hou h6
          go_enter Tryz.func77, Tryz.ntmps77
          go_wp2_with (first | (refine wpList_load_row rfl 35 _ rfl w.heap.size rfl 35 (sty zs) (0, 0) _ bs3 Tryz.underlying35 rfl HSZ.out ?_) | (go_at_call 9; refine (HOUT.out _).mono ?_; rintro e w1 ⟨rfl, hb1⟩; obtain ⟨hR, hM, hSt, hbel⟩ := HWF.out _ hb1; have r0 : w1.cell? ⟨w.heap.size + 1, 0, none⟩ = some (.int .i64 0) := hR.cell 0; have r1 : w1.cell? ⟨w.heap.size + 1, 1, none⟩ = some (.int .i64 0) := hR.cell 1; have r2 : w1.cell? ⟨w.heap.size + 1, 2, none⟩ = some (.int .i64 0) := hR.cell 2; have m0 : w1.cell? ⟨w.heap.size + 1 + 1, 0, none⟩ = some (.int .i64 0) := hM.cell 0; have m1 : w1.cell? ⟨w.heap.size + 1 + 1, 1, none⟩ = some (.int .i64 0) := hM.cell 1; have m2 : w1.cell? ⟨w.heap.size + 1 + 1, 2, none⟩ = some (.int .i64 1) := hM.cell 2; have rf0 := hR.free 0; have rf1 := hR.free 1; have rf2 := hR.free 2; have mf0 := hM.free 0; have mf2 := hM.free 2; have o1 : w1.cell? ⟨w.heap.size, 65, none⟩ = some (.int .i64 ov) := (hSt.cell 65).trans V1.out))
          exact bodyPost_ret (v := .agg #[.int .i64 1, .int .i64 0, .int .i64 1]) (results_cell_row Tryz.results77 _ _ (w.heap.size + 1) 138 _ (0, 0) _ rfl (((((hR.far (show w.heap.size + 1 ≠ w.heap.size + 1 + 1 by omega) _).stored 0 _).stored 1 _).stored 2 _)) Tryz.underlying138 rfl (by kernel_rfl)) rfl ⟨rfl, below_set (below_set (below_set (below_set (hbel) (by omega) _) (by omega) _) (by omega) _) (by omega) _⟩
        · have k6 : (ov == 1) = false := by simpa using h6
          have hI : isK kind zs = 0 ∧ rankK kind zs = 0 ∧ phK kind zs = 1 := by
            unfold isK rankK phK pocketK; rw [HL, HW, k5, ← hou, k1, ← hov, k6]; simp
          rw [hI.1, hI.2.1, hI.2.2]
          clear hI HW HL hpos hopa hzk hzn hov hz v1 hp ho h5 z0 z1 h1 hou h6
          go_enter Tryz.func77, Tryz.ntmps77
          go_wp2_with (first | (refine wpList_load_row rfl 35 _ rfl w.heap.size rfl 35 (sty zs) (0, 0) _ bs3 Tryz.underlying35 rfl HSZ.out ?_) | (go_at_call 9; refine (HOUT.out _).mono ?_; rintro e w1 ⟨rfl, hb1⟩; obtain ⟨hR, hM, hSt, hbel⟩ := HWF.out _ hb1; have r0 : w1.cell? ⟨w.heap.size + 1, 0, none⟩ = some (.int .i64 0) := hR.cell 0; have r1 : w1.cell? ⟨w.heap.size + 1, 1, none⟩ = some (.int .i64 0) := hR.cell 1; have r2 : w1.cell? ⟨w.heap.size + 1, 2, none⟩ = some (.int .i64 0) := hR.cell 2; have m0 : w1.cell? ⟨w.heap.size + 1 + 1, 0, none⟩ = some (.int .i64 0) := hM.cell 0; have m1 : w1.cell? ⟨w.heap.size + 1 + 1, 1, none⟩ = some (.int .i64 0) := hM.cell 1; have m2 : w1.cell? ⟨w.heap.size + 1 + 1, 2, none⟩ = some (.int .i64 1) := hM.cell 2; have rf0 := hR.free 0; have rf1 := hR.free 1; have rf2 := hR.free 2; have mf0 := hM.free 0; have mf2 := hM.free 2; have o1 : w1.cell? ⟨w.heap.size, 65, none⟩ = some (.int .i64 ov) := (hSt.cell 65).trans V1.out))
          exact bodyPost_ret (v := .agg #[.int .i64 0, .int .i64 0, .int .i64 1]) (results_cell_row Tryz.results77 _ _ (w.heap.size + 1) 138 _ (0, 0) _ rfl ((((hR.stored 0 _).stored 1 _).stored 2 _)) Tryz.underlying138 rfl (by kernel_rfl)) rfl ⟨rfl, below_set (below_set (below_set (hbel) (by omega) _) (by omega) _) (by omega) _⟩
  · have q1 : (pos != 0) = true := by simp [hp]
    have HL : layerK kind zs = true := by unfold layerK; rw [HW, ← hpos, q1]; rfl
    have HFL := Lib.hid (fun w => sfloor_calls zn w hb1 hb2)
    by_cases h4 : zk = 4
    · have q4 : (zk == 4) = true := by simp [h4]
      obtain ⟨zq, hzq⟩ : ∃ x, x = zn / 1000 := ⟨_, rfl⟩
      rw [← hzq] at HFL
      have hZ : zK zs = zq := by unfold zK; rw [← hpos, ← hzk, ← hzn, q1, q4, hzq]; simp
      by_cases h7 : zq < 0
      · have hI : isK kind zs = 2 ∧ rankK kind zs = zq ∧ phK kind zs = 0 := by
          unfold isK rankK phK; rw [HL, hZ]; simp [h7]
        rw [hI.1, hI.2.1, hI.2.2]
        have q7 : decide (zq < 0) = true := decide_eq_true h7
        clear hI HW HL hpos hopa hzk hzn hov hz v1 hp h4 hzq hZ o1
        go_enter Tryz.func77, Tryz.ntmps77
        go_wp2_with (go_at_call 127; refine (HFL.out _).mono ?_; rintro e w' ⟨rfl, rfl⟩)
        exact bodyPost_ret (v := .agg #[.int .i64 2, .int .i64 zq, .int .i64 0]) (results_cell_row Tryz.results77 _ _ (w.heap.size + 1) 138 _ (0, 0) _ rfl (((BRF.out _ _).alloc _)) Tryz.underlying138 rfl (by kernel_rfl)) rfl ⟨rfl, below_alloc (HBF.out _ _) _⟩
      · have hI : isK kind zs = 2 ∧ rankK kind zs = zq ∧ phK kind zs = 4 := by
          unfold isK rankK phK; rw [HL, hZ]; simp [h7]
        rw [hI.1, hI.2.1, hI.2.2]
        have q7 : decide (zq < 0) = false := decide_eq_false h7
        clear hI HW HL hpos hopa hzk hzn hov hz v1 hp h4 hzq hZ o1
        go_enter Tryz.func77, Tryz.ntmps77
        go_wp2_with (go_at_call 127; refine (HFL.out _).mono ?_; rintro e w' ⟨rfl, rfl⟩)
        exact bodyPost_ret (v := .agg #[.int .i64 2, .int .i64 zq, .int .i64 4]) (results_cell_row Tryz.results77 _ _ (w.heap.size + 1) 138 _ (0, 0) _ rfl (((BRF.out _ _).alloc _)) Tryz.underlying138 rfl (by kernel_rfl)) rfl ⟨rfl, below_alloc (HBF.out _ _) _⟩
    · have q4 : (zk == 4) = false := by simpa using h4
      have hZ : zK zs = 0 := by unfold zK; rw [← hpos, ← hzk, q1, q4]; simp
      have hI : isK kind zs = 2 ∧ rankK kind zs = 0 ∧ phK kind zs = 4 := by
        unfold isK rankK phK; rw [HL, hZ]; simp
      rw [hI.1, hI.2.1, hI.2.2]
      clear hI HW HL hpos hopa hzk hzn hov hz v1 hp h4 hZ o1
      go_enter Tryz.func77, Tryz.ntmps77
      go_wp2_with fail
      exact bodyPost_ret (v := .agg #[.int .i64 2, .int .i64 0, .int .i64 4]) (results_cell_row Tryz.results77 _ _ (w.heap.size + 1) 138 _ (0, 0) _ rfl (((BRF.out _ _).alloc _)) Tryz.underlying138 rfl (by kernel_rfl)) rfl ⟨rfl, below_alloc (HBF.out _ _) _⟩
end Go.Proofs.YtkmmlcnoeeaekaaGreatDoor
/- Contracts of style.Inherits and style.Initial. -/
namespace Go.Proofs.YtkmmlcnoeeaekaaGreatDoor
open Go.RowKit
set_option linter.unusedVariables false
set_option linter.unusedSimpArgs false

theorem inh_num (p : Nat) : inhP p = (p == 33 || (p == 35 || (p == 37 || (p == 38 || (p == 39 || (p == 40 || (p == 41 || (p == 43 || (p == 44 || (p == 56 || (p == 57 || p == 58))))))))))) := by
  simp only [inhP, List.contains_cons, List.contains_nil, Bool.or_false]
theorem inherits_at (i : Fin 59) (w : World) : Calls Tryz.prog 47 #[.int .i64 (i.val : Nat)] w fun e w' => e = .returned (.bool (inhP i.val)) ∧ w = w' := by
  obtain ⟨i, hi⟩ := i
  simp only
  rcases (show i = 33 ∨ i = 35 ∨ i = 37 ∨ i = 38 ∨ i = 39 ∨ i = 40 ∨ i = 41 ∨ i = 43 ∨ i = 44 ∨ i = 56 ∨ i = 57 ∨ i = 58 ∨ (i ≠ 33 ∧ i ≠ 35 ∧ i ≠ 37 ∧ i ≠ 38 ∧ i ≠ 39 ∧ i ≠ 40 ∧ i ≠ 41 ∧ i ≠ 43 ∧ i ≠ 44 ∧ i ≠ 56 ∧ i ≠ 57 ∧ i ≠ 58) by omega) with rfl | rfl | rfl | rfl | rfl | rfl | rfl | rfl | rfl | rfl | rfl | rfl | ⟨h1, h2, h3, h4, h5, h6, h7, h8, h9, h10, h11, h12⟩
  all_goals try
    go_enter Tryz.func47, Tryz.ntmps47
    go_wp2_with fail
    go_ret
    exact ⟨rfl, rfl⟩
  · have e : inhP i = false := by rw [inh_num]; simp [*]
    rw [e]
    have d1 : ((i : Int) == 33) = false := by simp; omega
    have d2 : ((i : Int) == 35) = false := by simp; omega
    have d3 : ((i : Int) == 37) = false := by simp; omega
    have d4 : ((i : Int) == 38) = false := by simp; omega
    have d5 : ((i : Int) == 39) = false := by simp; omega
    have d6 : ((i : Int) == 40) = false := by simp; omega
    have d7 : ((i : Int) == 41) = false := by simp; omega
    have d8 : ((i : Int) == 43) = false := by simp; omega
    have d9 : ((i : Int) == 44) = false := by simp; omega
    have d10 : ((i : Int) == 56) = false := by simp; omega
    have d11 : ((i : Int) == 57) = false := by simp; omega
    have d12 : ((i : Int) == 58) = false := by simp; omega
    clear h1 h2 h3 h4 h5 h6 h7 h8 h9 h10 h11 h12 e
    go_enter Tryz.func47, Tryz.ntmps47
    go_wp2_with fail
    go_ret
    exact ⟨rfl, rfl⟩
theorem inherits_calls (i : Nat) (w : World) (hi : i < 59) : Calls Tryz.prog 47 #[.int .i64 (i : Nat)] w fun e w' => e = .returned (.bool (inhP i)) ∧ w = w' := inherits_at ⟨i, hi⟩ w
theorem new_at (w : World) (cs : Array Value) (t : TypeId) : (w.alloc (.cells cs t)).heap[w.heap.size]? = some (.cells cs t (0, 0)) := by
  simp only [World.alloc, Array.getElem?_push_size]
/-- The table of initial values lies in block 0. -/
def TabAt (w : World) (tbl : List Int) : Prop := tbl.length = 118 ∧ ∀ q, q < 118 → w.cell? ⟨0, q, none⟩ = some (.int .i64 (tbl.getD q 0))
theorem TabAt.below {w w' : World} {tbl : List Int} {B : Nat} (h : TabAt w tbl) (hb : Below B w w') (hB : 0 < B) : TabAt w' tbl := ⟨h.1, fun q hq => (hb.cell (p := ⟨0, q, none⟩) hB).trans (h.2 q hq)⟩
set_option maxRecDepth 100000 in
theorem initial_calls (i : Nat) (w : World) (tbl : List Int) (h : TabAt w tbl) (hw : 0 < w.heap.size) (hi : i < 59) : Calls Tryz.prog 48 #[.int .i64 (i : Nat)] w fun e w' => e = .returned (.agg #[.int .i64 (tbl.getD (i * 2) 0), .int .i64 (tbl.getD (i * 2 + 1) 0)]) ∧ Below w.heap.size w w' := by
  have hbel := below_alloc (Below.refl _ w) (.cells #[.int .i64 0, .int .i64 0] 33)
  have c0 : (w.alloc (.cells #[.int .i64 0, .int .i64 0] 33)).cell? ⟨0, i * 2, none⟩ = some (.int .i64 (tbl.getD (i * 2) 0)) := ((below_alloc (Below.refl _ w) _).cell (p := ⟨0, i * 2, none⟩) hw).trans (h.2 _ (by omega))
  have c1 : (w.alloc (.cells #[.int .i64 0, .int .i64 0] 33)).cell? ⟨0, i * 2 + 1, none⟩ = some (.int .i64 (tbl.getD (i * 2 + 1) 0)) := ((below_alloc (Below.refl _ w) _).cell (p := ⟨0, i * 2 + 1, none⟩) hw).trans (h.2 _ (by omega))
  obtain ⟨a, ha⟩ : ∃ a, a = tbl.getD (i * 2) 0 := ⟨_, rfl⟩
  obtain ⟨b, hb⟩ : ∃ b, b = tbl.getD (i * 2 + 1) 0 := ⟨_, rfl⟩
  rw [← ha] at c0
  rw [← hb] at c1
  rw [← ha, ← hb]
  clear ha hb h
  have h1 : ¬ (59 : Int) ≤ (i : Int) := by omega
  go_enter Tryz.func48, Tryz.ntmps48
  go_wp2_with fail
  have hB : (w.alloc (.cells #[.int .i64 a, .int .i64 b] 33)).heap[w.heap.size]? = some (.cells #[.int .i64 a, .int .i64 b] 33 (0, 0)) := new_at w _ _
  exact bodyPost_ret (v := .agg #[.int .i64 a, .int .i64 b]) (results_cell_row Tryz.results48 _ _ w.heap.size 33 _ (0, 0) _ rfl hB Tryz.underlying33 rfl (by kernel_rfl)) rfl ⟨rfl, below_alloc (Below.refl _ _) _⟩
end Go.Proofs.YtkmmlcnoeeaekaaGreatDoor
/- Owned slices that lie apart; append, where the list then lies. -/
namespace Go.Proofs.YtkmmlcnoeeaekaaGreatDoor
open Go.RowKit
set_option linter.unusedVariables false

def Ap (a b : Value) : Prop := ∀ g, a.ownBlock = some g → b.ownBlock ≠ some g
theorem Ap.symm {a b : Value} (h : Ap a b) : Ap b a := fun g h1 h2 => h g h2 h1
theorem Ap.nil (b : Value) (n c : Nat) : Ap (.slice none n c) b := fun g h => by simp [Value.ownBlock] at h
theorem Ap.of_ne {g g' n n' c c' : Nat} (h : g ≠ g') : Ap (.slice (some ⟨g, 0, none⟩) n c) (.slice (some ⟨g', 0, none⟩) n' c') := fun x h1 h2 => by
  simp [Value.ownBlock] at h1 h2; omega
theorem Ap.far {a : Value} {g n c : Nat} (h : Ap (.slice (some ⟨g, 0, none⟩) n c) a) : a.ownBlock ≠ some g := h g (by simp [Value.ownBlock])
section
variable {w w' : World} {base size n : Nat} {e : TypeId} {v v1 : Value} {xs : List Value}
/-- Another list grows. -/
theorem own_grownFar (h : w.ownsRow base e size v n xs) (hap : Ap v1 v) (hg : w.grownBy w' v1.ownBlock) : w'.ownsRow base e size v n xs :=
  own_heap h fun g hv => hg.block g (h.lt g hv).2 (fun e => hap g e.symm hv)
theorem ap_grown {g m c H : Nat} (h : w.ownsRow base e size v n xs) (hap : Ap v1 v) (hat : v1.ownBlock = some g ∨ g = H) (hH : w.heap.size ≤ H) : Ap (.slice (some ⟨g, 0, none⟩) m c) v := fun x h1 h2 => by
  have hx : g = x := by simpa [Value.ownBlock] using h1
  subst hx
  rcases hat with h3 | h3
  · exact hap g h3 h2
  · have := (h.lt g h2).2; omega
theorem below_grownA {W wr : World} (hb : Below W.heap.size W w) (h : wr.ownsRow W.heap.size e size v n xs) (hg : w.grownBy w' v.ownBlock) : Below W.heap.size W w' :=
  hb.grown hg hb.size (fun k hk => (h.lt k hk).1)
end
theorem wpList_append_lies {P : Program} {w : World} {ops : Array Oper} {rest : List Oper} {o : Oper} {a : Act} {Q : Exit → Act → World → Prop} (hgd : o.guard = none) (s x : Operand) (t : TypeId)
    (ho : o.op = .call { callee := .builtin .append, args := #[s, x], argTypes := #[t, t] })
    (base : Nat) (e : TypeId) (i : TypeInfo) (z : Value) (size bytes : Nat) (ht : P.underlying t = some (.slice e)) (hi : P.info? e = some i) (hz : i.zero = some z)
    (hsize : i.size = size) (hby : i.bytes = bytes) (hzs : z.cells.size = size) (hsz : 0 < size)
    (v : Value) (n : Nat) (xs : List Value) (hs : a.eval s = v) (hown : w.ownsRow base e size v n xs)
    (ad : Addr) (m c : Nat) (news : List Value) (hx : a.eval x = .slice (some ad) m c) (hl : news.length = m * size) (hnews : ∀ j u, news[j]? = some u → w.cell? (ad.add j) = some u) (h1 : ∀ u ∈ news, u.oneCell' = true)
    (hm : 0 < m) (h63 : n + m ≤ maxLen) (hbytes : (n + m) * bytes ≤ 140737488355328) (hbase : base ≤ w.heap.size) (H : Nat) (hH : w.heap.size = H)
    (h : ∀ g cap w', w'.ownsRow base e size (.slice (some ⟨g, 0, none⟩) (n + m) cap) (n + m) (xs ++ news) → w.grownBy w' v.ownBlock → (v.ownBlock = some g ∨ g = H) → g < w'.heap.size → wpList P ops Q rest (a.put o.dst (.slice (some ⟨g, 0, none⟩) (n + m) cap)) w') :
    wpList P ops Q (o :: rest) a w :=
  wpList_plain hgd fun _ hK => wp_append_lies w s x t ho base e i z size bytes ht hi hz hsize hby hzs hsz v n xs hs hown ad m c news hx hl hnews h1 hm h63 hbytes hbase H hH fun g cap w' h2 h3 h4 h5 => hK _ _ (h g cap w' h2 h3 h4 h5)
end Go.Proofs.YtkmmlcnoeeaekaaGreatDoor
