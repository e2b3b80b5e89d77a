/- Several texts in one: StkB. -/
import Derived.Test.YtkmmlcnoeeaekaaGreatDoorHitAllM28
import Derived.Test.YtkmmlcnoeeaekaaGreatDoorHitAllM9
/- Contracts of stack.floor and stack.marked: what a fragment is. -/
namespace Go.Proofs.YtkmmlcnoeeaekaaGreatDoor
open Go.RowKit
set_option linter.unusedVariables false
set_option linter.unusedSimpArgs false

theorem tdiv_1000 (n : Int) (h1 : -9223372036854775808 ≤ n) (h2 : n ≤ 9223372036854775807) : -36028797018963968 ≤ n.tdiv 1000 ∧ n.tdiv 1000 ≤ 36028797018963968 := by
  have h : (n.tdiv 1000).natAbs = n.natAbs / (1000 : Int).natAbs := Int.natAbs_tdiv n 1000
  have h4 : (1000 : Int).natAbs = 1000 := rfl
  rw [h4] at h
  omega
theorem sfloor_calls (n : Int) (w : World) (h1 : -9223372036854775808 ≤ n) (h2 : n ≤ 9223372036854775807) : Calls Tryz.prog 127 #[.int .i64 n, .int .i64 1000] w fun e w' => e = .returned (.int .i64 (n / 1000)) ∧ w = w' := by
  have hq := tdiv_1000 n h1 h2
  by_cases h0 : n.tmod 1000 < 0
  · have E := Lib.hid (rdown_down n 1000 (by omega) h0)
    clear h1 h2
    go_enter Tryz.func127, Tryz.ntmps127
    go_wp2_with fail
    go_ret
    exact ⟨ret_i (E.out.trans (Int.fdiv_eq_ediv_of_nonneg n (by omega))), rfl⟩
  · have h0' : 0 ≤ n.tmod 1000 := by omega
    have E := Lib.hid (rdown_keep n 1000 (by omega) h0')
    clear h1 h2 h0
    go_enter Tryz.func127, Tryz.ntmps127
    go_wp2_with fail
    go_ret
    exact ⟨ret_i (E.out.trans (Int.fdiv_eq_ediv_of_nonneg n (by omega))), rfl⟩
theorem down3_calls (n : Int) (w : World) (h1 : -9223372036854775808 ≤ n) (h2 : n ≤ 9223372036854775807) : Calls Tryz.prog 171 #[.int .i64 n, .int .i64 1000] w fun e w' => e = .returned (.int .i64 (n / 1000)) ∧ w = w' := by
  have hq := tdiv_1000 n h1 h2
  by_cases h0 : n.tmod 1000 < 0
  · have E := Lib.hid (rdown_down n 1000 (by omega) h0)
    clear h1 h2
    go_enter Tryz.func171, Tryz.ntmps171
    go_wp2_with fail
    go_ret
    exact ⟨ret_i (E.out.trans (Int.fdiv_eq_ediv_of_nonneg n (by omega))), rfl⟩
  · have h0' : 0 ≤ n.tmod 1000 := by omega
    have E := Lib.hid (rdown_keep n 1000 (by omega) h0')
    clear h1 h2 h0
    go_enter Tryz.func171, Tryz.ntmps171
    go_wp2_with fail
    go_ret
    exact ⟨ret_i (E.out.trans (Int.fdiv_eq_ediv_of_nonneg n (by omega))), rfl⟩
/-- What is within a line. -/
def withinK (kind : Int) : Bool := kind == 3 || kind == 4
def layerK (kind : Int) (zs : List Int) : Bool := !withinK kind && (stN zs 1 != 0 || decide (stN zs 34 < 1000))
def zK (zs : List Int) : Int := if stN zs 1 != 0 && stK zs 31 == 4 then stN zs 31 / 1000 else 0
def pocketK (kind : Int) (zs : List Int) : Bool := kind == 5 || outN (stN zs 1) (stN zs 2) == 1 || stN zs 32 == 1
def isK (kind : Int) (zs : List Int) : Int := if layerK kind zs then 2 else if withinK kind then 0 else if pocketK kind zs then 1 else 0
def phK (kind : Int) (zs : List Int) : Int := if layerK kind zs then (if zK zs < 0 then 0 else 4) else if withinK kind || kind == 5 then 3 else if outN (stN zs 1) (stN zs 2) == 1 then 2 else 1
def rankK (kind : Int) (zs : List Int) : Int := if layerK kind zs then zK zs else 0
def markC (a b c : Int) : Array Value := #[.int .i64 a, .int .i64 b, .int .i64 c]
set_option maxRecDepth 100000 in
set_option maxHeartbeats 4000000 in
theorem marked_calls (kind : Int) (zs : List Int) (w : World) (hz : zs.length = 118) (hb : -9223372036854775808 ≤ stN zs 31 ∧ stN zs 31 ≤ 9223372036854775807) :
    Calls Tryz.prog 77 #[.int .i64 kind, .agg (sty zs)] w fun e w' => e = .returned (.agg #[.int .i64 (isK kind zs), .int .i64 (rankK kind zs), .int .i64 (phK kind zs)]) ∧ Below w.heap.size w w' := by
  have hS := Blk.new w 35 (sty zs)
  have HS := Lib.hid hS
  have p1 : (sty zs)[3]? = some (.int .i64 (stN zs 1)) := sty_at zs 3 (by omega)
  have o1 : (sty zs)[69]? = some (.int .i64 (stN zs 34)) := sty_at zs 69 (by omega)
  have z0 : (sty zs)[62]? = some (.int .i64 (stK zs 31)) := sty_at zs 62 (by omega)
  have z1 : (sty zs)[63]? = some (.int .i64 (stN zs 31)) := sty_at zs 63 (by omega)
  have v1 : (sty zs)[65]? = some (.int .i64 (stN zs 32)) := sty_at zs 65 (by omega)
  obtain ⟨pos, hpos⟩ : ∃ x, x = stN zs 1 := ⟨_, rfl⟩
  obtain ⟨opa, hopa⟩ : ∃ x, x = stN zs 34 := ⟨_, rfl⟩
  obtain ⟨zk, hzk⟩ : ∃ x, x = stK zs 31 := ⟨_, rfl⟩
  obtain ⟨zn, hzn⟩ : ∃ x, x = stN zs 31 := ⟨_, rfl⟩
  obtain ⟨ov, hov⟩ : ∃ x, x = stN zs 32 := ⟨_, rfl⟩
  rw [← hpos] at p1
  rw [← hopa] at o1
  rw [← hzk] at z0
  rw [← hzn] at z1 hb
  rw [← hov] at v1
  obtain ⟨hb1, hb2⟩ := hb
  have HSZ : Hid ((Tryz.prog.info? 35).map (·.size) = some (sty zs).size) := by show _ = _; rw [sty_size, hz]; kernel_rfl
  have hout : ∀ w, Calls Tryz.prog 9 #[.agg (sty zs)] w fun e w' => e = .returned (.int .i64 (outN (stN zs 1) (stN zs 2))) ∧ Below w.heap.size w w' := fun w => out_calls (sty zs) (stN zs 1) (stN zs 2) w (sty_at zs 3 (by omega)) (sty_at zs 5 (by omega))
  have HOUT := Lib.hid hout
  have BRF : Hid (∀ x y : Array Value, Blk (((w.alloc (.cells (sty zs) 35)).alloc (.cells x 138)).alloc (.cells y 138)) (w.heap.size + 1) 138 x) := fun x y => by
    have := (Blk.new (w.alloc (.cells (sty zs) 35)) 138 x).alloc (.cells y 138)
    rwa [alloc_size] at this
  have BMF : Hid (∀ x y : Array Value, Blk (((w.alloc (.cells (sty zs) 35)).alloc (.cells x 138)).alloc (.cells y 138)) (w.heap.size + 1 + 1) 138 y) := fun x y => by
    have := Blk.new ((w.alloc (.cells (sty zs) 35)).alloc (.cells x 138)) 138 y
    rwa [alloc_size, alloc_size] at this
  have BSF : Hid (∀ x y : Array Value, Blk (((w.alloc (.cells (sty zs) 35)).alloc (.cells x 138)).alloc (.cells y 138)) w.heap.size 35 (sty zs)) := fun x y => (hS.alloc _).alloc _
  have HBF : Hid (∀ x y : Array Value, Below w.heap.size w (((w.alloc (.cells (sty zs) 35)).alloc (.cells x 138)).alloc (.cells y 138))) := fun x y => below_alloc (below_alloc (below_alloc (Below.refl w.heap.size w) _) _) _
  clear hS hout
  by_cases hw : withinK kind = true
  · have hI : isK kind zs = 0 ∧ rankK kind zs = 0 ∧ phK kind zs = 3 := by
      unfold isK rankK phK layerK; rw [hw]; simp
    rw [hI.1, hI.2.1, hI.2.2]
    have hk : kind = 3 ∨ kind = 4 := by unfold withinK at hw; simpa using hw
    clear hI hw hpos hopa hzk hzn hov hz z0 z1 v1 o1
    rcases hk with rfl | rfl
    all_goals
      go_enter Tryz.func77, Tryz.ntmps77
      go_wp2_with fail
      exact bodyPost_ret (v := .agg #[.int .i64 0, .int .i64 0, .int .i64 3]) (results_cell_row Tryz.results77 _ _ (w.heap.size + 1) 138 _ (0, 0) _ rfl (BRF.out _ _) Tryz.underlying138 rfl (by kernel_rfl)) rfl ⟨rfl, HBF.out _ _⟩
  have hk : ¬ kind = 3 ∧ ¬ kind = 4 := by unfold withinK at hw; simpa using hw
  have k3 : (kind == 3) = false := by simpa using hk.1
  have k4 : (kind == 4) = false := by simpa using hk.2
  have HW : withinK kind = false := by simpa using hw
  clear hk hw
  by_cases hp : pos = 0
  · have q1 : (pos != 0) = false := by simp [hp]
    by_cases ho : opa < 1000
    · have q2 : decide (opa < 1000) = true := decide_eq_true ho
      have hI : isK kind zs = 2 ∧ rankK kind zs = 0 ∧ phK kind zs = 4 := by
        unfold isK rankK phK layerK zK; rw [HW, ← hpos, ← hopa, q1, q2]; simp
      rw [hI.1, hI.2.1, hI.2.2]
      clear hI HW hpos hopa hzk hzn hov hz v1 hp ho
      go_enter Tryz.func77, Tryz.ntmps77
      go_wp2_with fail
      exact bodyPost_ret (v := .agg #[.int .i64 2, .int .i64 0, .int .i64 4]) (results_cell_row Tryz.results77 _ _ (w.heap.size + 1) 138 _ (0, 0) _ rfl ((BRF.out _ _).alloc _) Tryz.underlying138 rfl (by kernel_rfl)) rfl ⟨rfl, below_alloc (HBF.out _ _) _⟩
    · have q2 : decide (opa < 1000) = false := decide_eq_false ho
      have HL : layerK kind zs = false := by unfold layerK; rw [HW, ← hpos, ← hopa, q1, q2]; rfl
      by_cases h5 : kind = 5
      · have k5 : (kind == 5) = true := by simp [h5]
        have hI : isK kind zs = 1 ∧ rankK kind zs = 0 ∧ phK kind zs = 3 := by
          unfold isK rankK phK pocketK; rw [HL, HW, k5]; simp
        rw [hI.1, hI.2.1, hI.2.2]
        clear hI HW HL hpos hopa hzk hzn hov hz v1 hp ho h5 z0 z1
        go_enter Tryz.func77, Tryz.ntmps77
        go_wp2_with fail
        exact bodyPost_ret (v := .agg #[.int .i64 1, .int .i64 0, .int .i64 3]) (results_cell_row Tryz.results77 _ _ (w.heap.size + 1) 138 _ (0, 0) _ rfl (BRF.out _ _) Tryz.underlying138 rfl (by kernel_rfl)) rfl ⟨rfl, HBF.out _ _⟩
      have k5 : (kind == 5) = false := by simpa using h5
      obtain ⟨ou, hou⟩ : ∃ x, x = outN (stN zs 1) (stN zs 2) := ⟨_, rfl⟩
      rw [← hou] at HOUT
      have bs3 := BSF.out #[.int .i64 0, .int .i64 0, .int .i64 0] #[.int .i64 0, .int .i64 0, .int .i64 1]
      have HWF : Hid (∀ w1, Below (((w.alloc (.cells (sty zs) 35)).alloc (.cells #[.int .i64 0, .int .i64 0, .int .i64 0] 138)).alloc (.cells #[.int .i64 0, .int .i64 0, .int .i64 1] 138)).heap.size (((w.alloc (.cells (sty zs) 35)).alloc (.cells #[.int .i64 0, .int .i64 0, .int .i64 0] 138)).alloc (.cells #[.int .i64 0, .int .i64 0, .int .i64 1] 138)) w1 → Blk w1 (w.heap.size + 1) 138 #[.int .i64 0, .int .i64 0, .int .i64 0] ∧ Blk w1 (w.heap.size + 1 + 1) 138 #[.int .i64 0, .int .i64 0, .int .i64 1] ∧ Blk w1 w.heap.size 35 (sty zs) ∧ Below w.heap.size w w1) := fun w1 hb =>
        ⟨(BRF.out _ _).below hb (BRF.out _ _).lt, (BMF.out _ _).below hb (BMF.out _ _).lt, (BSF.out _ _).below hb (BSF.out _ _).lt, below_then (HBF.out _ _) hb⟩
      have V1 := Lib.hid v1
      by_cases h1 : ou = 1
      · have k1 : (ou == 1) = true := by simp [h1]
        have hI : isK kind zs = 1 ∧ rankK kind zs = 0 ∧ phK kind zs = 2 := by
          unfold isK rankK phK pocketK; rw [HL, HW, k5, ← hou, k1]; simp
        rw [hI.1, hI.2.1, hI.2.2]
        clear hI HW HL hpos hopa hzk hzn hov hz v1 hp ho h5 z0 z1 h1 hou
        go_enter Tryz.func77, Tryz.ntmps77
        go_wp2_with (first | (refine wpList_load_row rfl 35 _ rfl w.heap.size rfl 35 (sty zs) (0, 0) _ bs3 Tryz.underlying35 rfl HSZ.out ?_) | (go_at_call 9; refine (HOUT.out _).mono ?_; rintro e w1 ⟨rfl, hb1⟩; obtain ⟨hR, hM, hSt, hbel⟩ := HWF.out _ hb1; have r0 : w1.cell? ⟨w.heap.size + 1, 0, none⟩ = some (.int .i64 0) := hR.cell 0; have r1 : w1.cell? ⟨w.heap.size + 1, 1, none⟩ = some (.int .i64 0) := hR.cell 1; have r2 : w1.cell? ⟨w.heap.size + 1, 2, none⟩ = some (.int .i64 0) := hR.cell 2; have m0 : w1.cell? ⟨w.heap.size + 1 + 1, 0, none⟩ = some (.int .i64 0) := hM.cell 0; have m1 : w1.cell? ⟨w.heap.size + 1 + 1, 1, none⟩ = some (.int .i64 0) := hM.cell 1; have m2 : w1.cell? ⟨w.heap.size + 1 + 1, 2, none⟩ = some (.int .i64 1) := hM.cell 2; have rf0 := hR.free 0; have rf1 := hR.free 1; have rf2 := hR.free 2; have mf0 := hM.free 0; have mf2 := hM.free 2; have o1 : w1.cell? ⟨w.heap.size, 65, none⟩ = some (.int .i64 ov) := (hSt.cell 65).trans V1.out))
        exact bodyPost_ret (v := .agg #[.int .i64 1, .int .i64 0, .int .i64 2]) (results_cell_row Tryz.results77 _ _ (w.heap.size + 1) 138 _ (0, 0) _ rfl ((((((hR.far (show w.heap.size + 1 ≠ w.heap.size + 1 + 1 by omega) _).far (show w.heap.size + 1 ≠ w.heap.size + 1 + 1 by omega) _).stored 0 _).stored 1 _).stored 2 _)) Tryz.underlying138 rfl (by kernel_rfl)) rfl ⟨rfl, below_set (below_set (below_set (below_set (below_set (hbel) (by omega) _) (by omega) _) (by omega) _) (by omega) _) (by omega) _⟩
      · have k1 : (ou == 1) = false := by simpa using h1
        by_cases h6 : ov = 1
        · have k6 : (ov == 1) = true := by simp [h6]
          have hI : isK kind zs = 1 ∧ rankK kind zs = 0 ∧ phK kind zs = 1 := by
            unfold isK rankK phK pocketK; rw [HL, HW, k5, ← hou, k1, ← hov, k6]; simp
          rw [hI.1, hI.2.1, hI.2.2]
          clear hI HW HL hpos hopa hzk hzn hov hz v1 hp ho h5 z0 z1 h1 hou h6
          go_enter Tryz.func77, Tryz.ntmps77
          go_wp2_with (first | (refine wpList_load_row rfl 35 _ rfl w.heap.size rfl 35 (sty zs) (0, 0) _ bs3 Tryz.underlying35 rfl HSZ.out ?_) | (go_at_call 9; refine (HOUT.out _).mono ?_; rintro e w1 ⟨rfl, hb1⟩; obtain ⟨hR, hM, hSt, hbel⟩ := HWF.out _ hb1; have r0 : w1.cell? ⟨w.heap.size + 1, 0, none⟩ = some (.int .i64 0) := hR.cell 0; have r1 : w1.cell? ⟨w.heap.size + 1, 1, none⟩ = some (.int .i64 0) := hR.cell 1; have r2 : w1.cell? ⟨w.heap.size + 1, 2, none⟩ = some (.int .i64 0) := hR.cell 2; have m0 : w1.cell? ⟨w.heap.size + 1 + 1, 0, none⟩ = some (.int .i64 0) := hM.cell 0; have m1 : w1.cell? ⟨w.heap.size + 1 + 1, 1, none⟩ = some (.int .i64 0) := hM.cell 1; have m2 : w1.cell? ⟨w.heap.size + 1 + 1, 2, none⟩ = some (.int .i64 1) := hM.cell 2; have rf0 := hR.free 0; have rf1 := hR.free 1; have rf2 := hR.free 2; have mf0 := hM.free 0; have mf2 := hM.free 2; have o1 : w1.cell? ⟨w.heap.size, 65, none⟩ = some (.int .i64 ov) := (hSt.cell 65).trans V1.out))
          exact bodyPost_ret (v := .agg #[.int .i64 1, .int .i64 0, .int .i64 1]) (results_cell_row Tryz.results77 _ _ (w.heap.size + 1) 138 _ (0, 0) _ rfl (((((hR.far (show w.heap.size + 1 ≠ w.heap.size + 1 + 1 by omega) _).stored 0 _).stored 1 _).stored 2 _)) Tryz.underlying138 rfl (by kernel_rfl)) rfl ⟨rfl, below_set (below_set (below_set (below_set (hbel) (by omega) _) (by omega) _) (by omega) _) (by omega) _⟩
        · have k6 : (ov == 1) = false := by simpa using h6
          have hI : isK kind zs = 0 ∧ rankK kind zs = 0 ∧ phK kind zs = 1 := by
            unfold isK rankK phK pocketK; rw [HL, HW, k5, ← hou, k1, ← hov, k6]; simp
          rw [hI.1, hI.2.1, hI.2.2]
          clear hI HW HL hpos hopa hzk hzn hov hz v1 hp ho h5 z0 z1 h1 hou h6
          go_enter Tryz.func77, Tryz.ntmps77
          go_wp2_with (first | (refine wpList_load_row rfl 35 _ rfl w.heap.size rfl 35 (sty zs) (0, 0) _ bs3 Tryz.underlying35 rfl HSZ.out ?_) | (go_at_call 9; refine (HOUT.out _).mono ?_; rintro e w1 ⟨rfl, hb1⟩; obtain ⟨hR, hM, hSt, hbel⟩ := HWF.out _ hb1; have r0 : w1.cell? ⟨w.heap.size + 1, 0, none⟩ = some (.int .i64 0) := hR.cell 0; have r1 : w1.cell? ⟨w.heap.size + 1, 1, none⟩ = some (.int .i64 0) := hR.cell 1; have r2 : w1.cell? ⟨w.heap.size + 1, 2, none⟩ = some (.int .i64 0) := hR.cell 2; have m0 : w1.cell? ⟨w.heap.size + 1 + 1, 0, none⟩ = some (.int .i64 0) := hM.cell 0; have m1 : w1.cell? ⟨w.heap.size + 1 + 1, 1, none⟩ = some (.int .i64 0) := hM.cell 1; have m2 : w1.cell? ⟨w.heap.size + 1 + 1, 2, none⟩ = some (.int .i64 1) := hM.cell 2; have rf0 := hR.free 0; have rf1 := hR.free 1; have rf2 := hR.free 2; have mf0 := hM.free 0; have mf2 := hM.free 2; have o1 : w1.cell? ⟨w.heap.size, 65, none⟩ = some (.int .i64 ov) := (hSt.cell 65).trans V1.out))
          exact bodyPost_ret (v := .agg #[.int .i64 0, .int .i64 0, .int .i64 1]) (results_cell_row Tryz.results77 _ _ (w.heap.size + 1) 138 _ (0, 0) _ rfl ((((hR.stored 0 _).stored 1 _).stored 2 _)) Tryz.underlying138 rfl (by kernel_rfl)) rfl ⟨rfl, below_set (below_set (below_set (hbel) (by omega) _) (by omega) _) (by omega) _⟩
  · have q1 : (pos != 0) = true := by simp [hp]
    have HL : layerK kind zs = true := by unfold layerK; rw [HW, ← hpos, q1]; rfl
    have HFL := Lib.hid (fun w => sfloor_calls zn w hb1 hb2)
    by_cases h4 : zk = 4
    · have q4 : (zk == 4) = true := by simp [h4]
      obtain ⟨zq, hzq⟩ : ∃ x, x = zn / 1000 := ⟨_, rfl⟩
      rw [← hzq] at HFL
      have hZ : zK zs = zq := by unfold zK; rw [← hpos, ← hzk, ← hzn, q1, q4, hzq]; simp
      by_cases h7 : zq < 0
      · have hI : isK kind zs = 2 ∧ rankK kind zs = zq ∧ phK kind zs = 0 := by
          unfold isK rankK phK; rw [HL, hZ]; simp [h7]
        rw [hI.1, hI.2.1, hI.2.2]
        have q7 : decide (zq < 0) = true := decide_eq_true h7
        clear hI HW HL hpos hopa hzk hzn hov hz v1 hp h4 hzq hZ o1
        go_enter Tryz.func77, Tryz.ntmps77
        go_wp2_with (go_at_call 127; refine (HFL.out _).mono ?_; rintro e w' ⟨rfl, rfl⟩)
        exact bodyPost_ret (v := .agg #[.int .i64 2, .int .i64 zq, .int .i64 0]) (results_cell_row Tryz.results77 _ _ (w.heap.size + 1) 138 _ (0, 0) _ rfl (((BRF.out _ _).alloc _)) Tryz.underlying138 rfl (by kernel_rfl)) rfl ⟨rfl, below_alloc (HBF.out _ _) _⟩
      · have hI : isK kind zs = 2 ∧ rankK kind zs = zq ∧ phK kind zs = 4 := by
          unfold isK rankK phK; rw [HL, hZ]; simp [h7]
        rw [hI.1, hI.2.1, hI.2.2]
        have q7 : decide (zq < 0) = false := decide_eq_false h7
        clear hI HW HL hpos hopa hzk hzn hov hz v1 hp h4 hzq hZ o1
        go_enter Tryz.func77, Tryz.ntmps77
        go_wp2_with (go_at_call 127; refine (HFL.out _).mono ?_; rintro e w' ⟨rfl, rfl⟩)
        exact bodyPost_ret (v := .agg #[.int .i64 2, .int .i64 zq, .int .i64 4]) (results_cell_row Tryz.results77 _ _ (w.heap.size + 1) 138 _ (0, 0) _ rfl (((BRF.out _ _).alloc _)) Tryz.underlying138 rfl (by kernel_rfl)) rfl ⟨rfl, below_alloc (HBF.out _ _) _⟩
    · have q4 : (zk == 4) = false := by simpa using h4
      have hZ : zK zs = 0 := by unfold zK; rw [← hpos, ← hzk, q1, q4]; simp
      have hI : isK kind zs = 2 ∧ rankK kind zs = 0 ∧ phK kind zs = 4 := by
        unfold isK rankK phK; rw [HL, hZ]; simp
      rw [hI.1, hI.2.1, hI.2.2]
      clear hI HW HL hpos hopa hzk hzn hov hz v1 hp h4 hZ o1
      go_enter Tryz.func77, Tryz.ntmps77
      go_wp2_with fail
      exact bodyPost_ret (v := .agg #[.int .i64 2, .int .i64 0, .int .i64 4]) (results_cell_row Tryz.results77 _ _ (w.heap.size + 1) 138 _ (0, 0) _ rfl (((BRF.out _ _).alloc _)) Tryz.underlying138 rfl (by kernel_rfl)) rfl ⟨rfl, below_alloc (HBF.out _ _) _⟩
end Go.Proofs.YtkmmlcnoeeaekaaGreatDoor
