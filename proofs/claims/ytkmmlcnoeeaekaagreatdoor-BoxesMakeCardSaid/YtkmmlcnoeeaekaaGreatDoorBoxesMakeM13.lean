/- Several texts in one: PropF. -/
import Derived.Test.YtkmmlcnoeeaekaaGreatDoorBoxesMakeM12
import Derived.Test.YtkmmlcnoeeaekaaGreatDoorBoxesMakeM6
/- Contract of prop.Fits. -/
namespace Go.Proofs.YtkmmlcnoeeaekaaGreatDoor
open Go.RowKit
set_option linter.unusedVariables false
set_option linter.unusedSimpArgs false

def lowP (m : Nat) (ab : Bool) : Int := if m = 37 then 64 else if ab = true then 0 else -16777216
def highP (m : Nat) : Int := if m = 34 then 1000 else 16777216
/-- May a property have a value? -/
def fitsP (m : Nat) (k n : Int) : Bool :=
  if 0 ≤ Lib.indexByte (propAt m).kinds.data.toList (letterC k) then
    if k = 1 then !(keyE (propAt m).keys n).toList.isEmpty
    else if k = 6 then n == 0
    else if k = 5 then decide (0 ≤ n) && decide (n < 4294967296)
    else if (m = 31 ∨ m = 53) ∧ n.tmod 1000 ≠ 0 then false
    else decide (lowP m (propAt m).above ≤ n) && decide (n ≤ highP m)
  else false
theorem keys_all : (propT1 ++ propT2 ++ propT3).all (fun x => decide (x.keys.size < 1000)) = true := by decide +kernel
theorem keys_size (m : Nat) : (propAt m).keys.size < 4294967281 := by
  unfold propAt
  rw [List.getD_eq_getElem?_getD]
  cases h : (propT1 ++ propT2 ++ propT3)[m]? with
  | none => decide
  | some x =>
    have := List.all_eq_true.1 keys_all x (List.mem_of_getElem? h)
    simp only [Option.getD_some]
    have h2 : x.keys.size < 1000 := by simpa using this
    omega
set_option maxRecDepth 100000 in
set_option maxHeartbeats 16000000 in
theorem pfits_calls (m : Nat) (hm : m < 59) (k n : Int) (w : World) :
    Calls Tryz.prog 60 #[.int .i64 m, .agg #[.int .i64 k, .int .i64 n]] w fun e w' => e = .returned (.bool (fitsP m k n)) ∧ Below w.heap.size w w' := by
  have mixed : Tryz.prog.follows .mixedOrders = true := by kernel_rfl
  have HV := Lib.hid (Blk.new w 33 #[.int .i64 k, .int .i64 n])
  have HW := Lib.hid (below_alloc (Below.refl w.heap.size w) (.cells #[.int .i64 k, .int .i64 n] 33))
  obtain ⟨r, hr⟩ : ∃ r, r = fitsP m k n := ⟨_, rfl⟩
  rw [← hr]
  have HKS := Lib.hid (keys_size m)
  have HAT := Lib.hid (fun (ww : World) => pat_calls m m rfl hm ww)
  have HLT := Lib.hid (fun (ww : World) => letter_calls k ww)
  have HIN := Lib.hid (fun (ww : World) => pin_calls m (by omega) (by omega) ww)
  unfold fitsP at hr
  obtain ⟨x, hx⟩ : ∃ x, x = propAt m := ⟨_, rfl⟩
  rw [← hx] at hr HAT HKS
  clear hx
  obtain ⟨x1, x2, x3, x4, x5⟩ := x
  simp only at hr HAT HKS
  have HCN := Lib.hid (fun (ww : World) => Tryz.strings_Contains_one x2 (letterC k) ww)
  generalize letterC k = lc at HLT HCN hr
  obtain ⟨cb, hcb⟩ : ∃ cb, cb = decide (0 ≤ Lib.indexByte x2.data.toList lc) := ⟨_, rfl⟩
  rw [← hcb] at HCN
  have HR : Hid (r = if cb = true then (if k = 1 then !(keyE x3 n).toList.isEmpty else if k = 6 then n == 0 else if k = 5 then decide (0 ≤ n) && decide (n < 4294967296) else if (m = 31 ∨ m = 53) ∧ n.tmod 1000 ≠ 0 then false else decide (lowP m x5 ≤ n) && decide (n ≤ highP m)) else false) := by
    show _ = _
    rw [hr, hcb]
    by_cases h : 0 ≤ Lib.indexByte x2.data.toList lc
    · rw [if_pos h, if_pos (decide_eq_true h)]
    · rw [if_neg h, if_neg (by simpa using h)]
  clear hr hcb
  have hfd : ∀ w, (Instr.field 156 (.agg #[.string x1, .string x2, .string x3, .string x4, .bool x5]) 1).run Tryz.prog w = .ok (.string x2) w := fun _ => by kernel_rfl
  go_enter Tryz.func60, Tryz.ntmps60
  go_upto_region 1 with fail
  have hS0 : (fun w' : World => w'.cell? ⟨w.heap.size, 0, none⟩ = some (.int .i64 k)) (World.drew (w.alloc (.cells #[.int .i64 k, .int .i64 n] 33))) := HV.out.cell 0
  refine wp_region_noPanic ?_
  refine region_M (S := fun w' => w'.cell? ⟨w.heap.size, 0, none⟩ = some (.int .i64 k)) (T := []) (by kernel_rfl) ?_
  refine anyM_free (i := 0) (oi := { dst := some 8, op := _, type := _, pos := _, after := _, guard := _ }) (v := ?_) rfl (by kernel_rfl) (fun _ _ _ h => h) (Or.inl ⟨by kernel_rfl, ?_⟩) (fun _ => hS0) ?_
  rotate_left 1
  · (intro w hSw; (try dsimp only at hSw); go_simp; try with_reducible rfl)
  try simp only [Act.put, Array.toArray_toList, List.setIfInBounds_toArray, List.set_cons_zero, List.set_cons_succ]
  refine anyM_one (i := 1) (by kernel_rfl) rfl (fun K hK => ?_)
  go_simp
  refine (HIN.out _).mono ?_
  rintro e w0 ⟨rfl, rfl⟩
  refine hK.out _ _ (fun _ => hS0) ?_
  clear hK K
  try simp only [Act.put, Array.toArray_toList, List.setIfInBounds_toArray, List.set_cons_zero, List.set_cons_succ]
  refine anyM_free (i := 2) (oi := { dst := some 10, op := _, type := _, pos := _, after := _, guard := _ }) (v := ?_) rfl (by kernel_rfl) (fun _ _ _ h => h) (Or.inl ⟨by kernel_rfl, ?_⟩) (fun _ => hS0) ?_
  rotate_left 1
  · (intro w hSw; (try dsimp only at hSw); go_simp; try with_reducible rfl)
  try simp only [Act.put, Array.toArray_toList, List.setIfInBounds_toArray, List.set_cons_zero, List.set_cons_succ]
  refine anyM_free (i := 3) (oi := { dst := some 11, op := _, type := _, pos := _, after := _, guard := _ }) (v := ?_) rfl (by kernel_rfl) (fun _ _ _ h => h) (Or.inl ⟨by kernel_rfl, ?_⟩) (fun _ => hS0) ?_
  rotate_left 1
  · (intro w hSw; (try dsimp only at hSw); go_simp; try with_reducible rfl)
  try simp only [Act.put, Array.toArray_toList, List.setIfInBounds_toArray, List.set_cons_zero, List.set_cons_succ]
  refine anyM_free (i := 4) (oi := { dst := some 12, op := _, type := _, pos := _, after := _, guard := _ }) (v := ?_) rfl (by kernel_rfl) (fun _ _ _ h => h) (Or.inl ⟨by kernel_rfl, ?_⟩) (fun _ => hS0) ?_
  rotate_left 1
  · (intro w hSw; (try dsimp only at hSw); go_simp; try with_reducible rfl)
  try simp only [Act.put, Array.toArray_toList, List.setIfInBounds_toArray, List.set_cons_zero, List.set_cons_succ]
  refine anyM_free (i := 7) (oi := { dst := some 15, op := _, type := _, pos := _, after := _, guard := _ }) (v := ?_) rfl (by kernel_rfl) (fun _ _ _ h => h) (Or.inl ⟨by kernel_rfl, ?_⟩) (fun _ => hS0) ?_
  rotate_left 1
  · (intro w hSw; (try dsimp only at hSw); go_simp; try with_reducible rfl)
  try simp only [Act.put, Array.toArray_toList, List.setIfInBounds_toArray, List.set_cons_zero, List.set_cons_succ]
  refine anyM_take (i := 8) (oi := { dst := some 16, op := _, type := _, pos := _, after := _, guard := _ }) (v := ?_) rfl (by kernel_rfl) (fun _ _ _ h => h) (Or.inl ⟨by kernel_rfl, ?_⟩) hS0 ?_
  rotate_left 1
  · (intro w hSw; (try dsimp only at hSw); go_simp; try with_reducible rfl)
  try simp only [Act.put, Array.toArray_toList, List.setIfInBounds_toArray, List.set_cons_zero, List.set_cons_succ]
  refine anyM_one (i := 5) (by kernel_rfl) rfl (fun K hK => ?_)
  go_simp
  refine (HAT.out _).mono ?_
  rintro e w1 ⟨rfl, hb1⟩
  have HV1 := Lib.hid (HV.out.drew.below hb1 HV.out.drew.lt)
  have HW1 := Lib.hid (below_then (below_drewN HW.out 1) hb1)
  have hS0 : (fun w' : World => w'.cell? ⟨w.heap.size, 0, none⟩ = some (.int .i64 k)) w1 := HV1.out.cell 0
  clear hb1
  refine hK.out _ _ (fun _ => hS0) ?_
  clear hK K
  try simp only [Act.put, Array.toArray_toList, List.setIfInBounds_toArray, List.set_cons_zero, List.set_cons_succ]
  refine anyM_free (i := 6) (oi := { dst := some 14, op := _, type := _, pos := _, after := _, guard := _ }) (v := ?_) rfl (by kernel_rfl) (fun _ _ _ h => h) (Or.inl ⟨by kernel_rfl, ?_⟩) (fun _ => hS0) ?_
  rotate_left 1
  · (intro w hSw; (try dsimp only at hSw); go_simp; try with_reducible rfl)
  try simp only [Act.put, Array.toArray_toList, List.setIfInBounds_toArray, List.set_cons_zero, List.set_cons_succ]
  refine anyM_one (i := 9) (by kernel_rfl) rfl (fun K hK => ?_)
  go_simp
  refine (HLT.out _).mono ?_
  rintro e w2 ⟨rfl, rfl⟩
  refine hK.out _ _ (fun _ => hS0) ?_
  clear hK K
  try simp only [Act.put, Array.toArray_toList, List.setIfInBounds_toArray, List.set_cons_zero, List.set_cons_succ]
  refine anyM_one (i := 10) (by kernel_rfl) rfl (fun K hK => ?_)
  go_simp
  refine (HCN.out _).mono ?_
  rintro e w3 ⟨rfl, rfl⟩
  refine hK.out _ _ (fun _ => hS0) ?_
  clear hK K
  try simp only [Act.put, Array.toArray_toList, List.setIfInBounds_toArray, List.set_cons_zero, List.set_cons_succ]
  refine anyM_free (i := 11) (oi := { dst := some 19, op := _, type := _, pos := _, after := _, guard := _ }) (v := ?_) rfl (by kernel_rfl) (fun _ _ _ h => h) (Or.inl ⟨by kernel_rfl, ?_⟩) (fun _ => hS0) ?_
  rotate_left 1
  · (intro w hSw; (try dsimp only at hSw); go_simp; try with_reducible rfl)
  try simp only [Act.put, Array.toArray_toList, List.setIfInBounds_toArray, List.set_cons_zero, List.set_cons_succ]
  refine anyM_free (i := 12) (oi := { dst := some 20, op := _, type := _, pos := _, after := _, guard := _ }) (v := ?_) rfl (by kernel_rfl) (fun _ _ _ h => h) (Or.inl ⟨by kernel_rfl, ?_⟩) (fun _ => hS0) ?_
  rotate_left 1
  · (intro w hSw; (try dsimp only at hSw); go_simp; try with_reducible rfl)
  try simp only [Act.put, Array.toArray_toList, List.setIfInBounds_toArray, List.set_cons_zero, List.set_cons_succ]
  refine anyM_done (by kernel_rfl) ?_ _
  refine NoPanic.normal ?_
  clear hS0
  have HV3 := HV1
  have HW3 := HW1
  clear HV1 HW1 HIN HLT HCN
  cases cb
  · have HE : Hid (r = false) := by show _ = _; rw [HR.out]; rfl
    go_wp2_with fail
    go_ret
    exact ⟨by rw [HE.out]; rfl, HW3.out⟩
  · have d0 : w3.cell? ⟨w.heap.size, 0, none⟩ = some (.int .i64 k) := HV3.out.cell 0
    have HR1 : Hid (r = if k = 1 then !(keyE x3 n).toList.isEmpty else if k = 6 then n == 0 else if k = 5 then decide (0 ≤ n) && decide (n < 4294967296) else if (m = 31 ∨ m = 53) ∧ n.tmod 1000 ≠ 0 then false else decide (lowP m x5 ≤ n) && decide (n ≤ highP m)) := by show _ = _; rw [HR.out]; rfl
    clear HR
    go_upto_region 4 with (go_at_call 101; refine (HAT.out _).mono ?_; rintro e w4 ⟨rfl, hb4⟩; have HV4 := Lib.hid (HV3.out.below hb4 HV3.out.lt); have HW4 := Lib.hid (below_then HW3.out hb4); clear hb4)
    have hb5 := below_alloc (Below.refl w4.heap.size w4) (.cells #[.string x1, .string x2, .string x3, .string x4, .bool x5] 156)
    have HV5 := Lib.hid (HV4.out.below hb5 HV4.out.lt)
    have HW5 := Lib.hid (below_then HW4.out hb5)
    have HX5 := Lib.hid (Blk.new w4 156 #[.string x1, .string x2, .string x3, .string x4, .bool x5])
    clear hb5 d0 HV3 HW3 HV4 HW4
    generalize World.alloc w4 _ = w5 at HV5 HW5 HX5 ⊢
    generalize w4.heap.size = gx at HX5 ⊢
    have d0 : w5.cell? ⟨w.heap.size, 0, none⟩ = some (.int .i64 k) := HV5.out.cell 0
    have d1 : w5.cell? ⟨w.heap.size, 1, none⟩ = some (.int .i64 n) := HV5.out.cell 1
    have x0' : w5.cell? ⟨gx, 0, none⟩ = some (.string x1) := HX5.out.cell 0
    have x1' : w5.cell? ⟨gx, 1, none⟩ = some (.string x2) := HX5.out.cell 1
    have x2' : w5.cell? ⟨gx, 2, none⟩ = some (.string x3) := HX5.out.cell 2
    have x3' : w5.cell? ⟨gx, 3, none⟩ = some (.string x4) := HX5.out.cell 3
    have x4' : w5.cell? ⟨gx, 4, none⟩ = some (.bool x5) := HX5.out.cell 4
    have HKY := Lib.hid (fun (ww : World) => key_calls x1 x2 x3 x4 x5 n ww HKS.out)
    by_cases k1 : k = 1
    · have q1 : (k == 1) = true := by simp [k1]
      have HE : Hid (r = !(keyE x3 n).toList.isEmpty) := by show _ = _; rw [HR1.out, if_pos k1]
      generalize keyE x3 n = ky at HKY HE
      clear k1 HR1
      go_wp2_with (go_at_call 103; refine (HKY.out _).mono ?_; rintro e w6 ⟨rfl, hb6⟩)
      go_ret
      exact ⟨by rw [HE.out]; rfl, below_then HW5.out hb6⟩
    · have q1 : (k == 1) = false := by simp [k1]
      by_cases k6 : k = 6
      · have q6 : (k == 6) = true := by simp [k6]
        have HE : Hid (r = (n == 0)) := by show _ = _; rw [HR1.out, if_neg k1, if_pos k6]
        clear k1 k6 HR1
        go_wp2_with fail
        go_ret
        exact ⟨by rw [HE.out]; rfl, HW5.out⟩
      · have q6 : (k == 6) = false := by simp [k6]
        by_cases k5 : k = 5
        · have q5 : (k == 5) = true := by simp [k5]
          have HE : Hid (r = (decide (0 ≤ n) && decide (n < 4294967296))) := by show _ = _; rw [HR1.out, if_neg k1, if_neg k6, if_pos k5]
          clear k1 k6 k5 HR1
          by_cases n0 : 0 ≤ n
          · have z0 : decide (0 ≤ n) = true := decide_eq_true n0
            rw [z0] at HE
            clear n0
            go_wp2_with fail
            go_ret
            exact ⟨by rw [HE.out]; rfl, HW5.out⟩
          · have z0 : decide (0 ≤ n) = false := decide_eq_false n0
            rw [z0] at HE
            clear n0
            go_wp2_with fail
            go_ret
            exact ⟨by rw [HE.out]; rfl, HW5.out⟩
        · have q5 : (k == 5) = false := by simp [k5]
          have HE : Hid (r = if (m = 31 ∨ m = 53) ∧ n.tmod 1000 ≠ 0 then false else decide (lowP m x5 ≤ n) && decide (n ≤ highP m)) := by show _ = _; rw [HR1.out, if_neg k1, if_neg k6, if_neg k5]
          clear k1 k6 k5 HR1
          cases x5
          · skip
            by_cases m37 : m = 37
            · subst m37
              have HL : Hid (r = (decide ((64 : Int) ≤ n) && decide (n ≤ 16777216))) := by show _ = _; rw [HE.out, if_neg (by omega)]; try rfl
              clear HE
              by_cases n0 : (64 : Int) ≤ n
              · have z0 : decide ((64 : Int) ≤ n) = true := decide_eq_true n0
                rw [z0] at HL
                clear n0
                go_wp2_with fail
                go_ret
                exact ⟨by rw [HL.out]; rfl, HW5.out⟩
              · have z0 : decide ((64 : Int) ≤ n) = false := decide_eq_false n0
                rw [z0] at HL
                clear n0
                go_wp2_with fail
                go_ret
                exact ⟨by rw [HL.out]; rfl, HW5.out⟩
            · have p37 : ((m : Int) == 37) = false := by simp; omega
              by_cases m34 : m = 34
              · subst m34
                have HL : Hid (r = (decide ((-16777216 : Int) ≤ n) && decide (n ≤ 1000))) := by show _ = _; rw [HE.out, if_neg (by omega)]; try rfl
                clear HE
                by_cases n0 : (-16777216 : Int) ≤ n
                · have z0 : decide ((-16777216 : Int) ≤ n) = true := decide_eq_true n0
                  rw [z0] at HL
                  clear n0
                  go_wp2_with fail
                  go_ret
                  exact ⟨by rw [HL.out]; rfl, HW5.out⟩
                · have z0 : decide ((-16777216 : Int) ≤ n) = false := decide_eq_false n0
                  rw [z0] at HL
                  clear n0
                  go_wp2_with fail
                  go_ret
                  exact ⟨by rw [HL.out]; rfl, HW5.out⟩
              · have p34 : ((m : Int) == 34) = false := by simp; omega
                have HLO : Hid (lowP m false = -16777216 ∧ highP m = 16777216) := by show _ ∧ _; unfold lowP highP; rw [if_neg m37, if_neg m34]; exact ⟨rfl, rfl⟩
                by_cases m31 : m = 31
                · subst m31
                  by_cases t0 : n.tmod 1000 = 0
                  · have u0 : (n.tmod 1000 != 0) = false := by simp [t0]
                    have HL : Hid (r = (decide ((-16777216 : Int) ≤ n) && decide (n ≤ 16777216))) := by show _ = _; rw [HE.out, if_neg (fun h => h.2 t0), HLO.out.1, HLO.out.2]; try rfl
                    clear HE
                    by_cases n0 : (-16777216 : Int) ≤ n
                    · have z0 : decide ((-16777216 : Int) ≤ n) = true := decide_eq_true n0
                      rw [z0] at HL
                      clear n0
                      go_wp2_with fail
                      go_ret
                      exact ⟨by rw [HL.out]; rfl, HW5.out⟩
                    · have z0 : decide ((-16777216 : Int) ≤ n) = false := decide_eq_false n0
                      rw [z0] at HL
                      clear n0
                      go_wp2_with fail
                      go_ret
                      exact ⟨by rw [HL.out]; rfl, HW5.out⟩
                  · have u0 : (n.tmod 1000 != 0) = true := by simp [t0]
                    have HL : Hid (r = false) := by show _ = _; rw [HE.out, if_pos ⟨by omega, t0⟩]
                    clear HE t0
                    go_wp2_with fail
                    go_ret
                    exact ⟨by rw [HL.out]; rfl, HW5.out⟩
                · have p31 : ((m : Int) == 31) = false := by simp; omega
                  by_cases m53 : m = 53
                  · subst m53
                    by_cases t0 : n.tmod 1000 = 0
                    · have u0 : (n.tmod 1000 != 0) = false := by simp [t0]
                      have HL : Hid (r = (decide ((-16777216 : Int) ≤ n) && decide (n ≤ 16777216))) := by show _ = _; rw [HE.out, if_neg (fun h => h.2 t0), HLO.out.1, HLO.out.2]; try rfl
                      clear HE
                      by_cases n0 : (-16777216 : Int) ≤ n
                      · have z0 : decide ((-16777216 : Int) ≤ n) = true := decide_eq_true n0
                        rw [z0] at HL
                        clear n0
                        go_wp2_with fail
                        go_ret
                        exact ⟨by rw [HL.out]; rfl, HW5.out⟩
                      · have z0 : decide ((-16777216 : Int) ≤ n) = false := decide_eq_false n0
                        rw [z0] at HL
                        clear n0
                        go_wp2_with fail
                        go_ret
                        exact ⟨by rw [HL.out]; rfl, HW5.out⟩
                    · have u0 : (n.tmod 1000 != 0) = true := by simp [t0]
                      have HL : Hid (r = false) := by show _ = _; rw [HE.out, if_pos ⟨by omega, t0⟩]
                      clear HE t0
                      go_wp2_with fail
                      go_ret
                      exact ⟨by rw [HL.out]; rfl, HW5.out⟩
                  · have p53 : ((m : Int) == 53) = false := by simp; omega
                    have HL : Hid (r = (decide ((-16777216 : Int) ≤ n) && decide (n ≤ 16777216))) := by show _ = _; rw [HE.out, if_neg (by omega), HLO.out.1, HLO.out.2]; try rfl
                    clear HE
                    by_cases n0 : (-16777216 : Int) ≤ n
                    · have z0 : decide ((-16777216 : Int) ≤ n) = true := decide_eq_true n0
                      rw [z0] at HL
                      clear n0
                      go_wp2_with fail
                      go_ret
                      exact ⟨by rw [HL.out]; rfl, HW5.out⟩
                    · have z0 : decide ((-16777216 : Int) ≤ n) = false := decide_eq_false n0
                      rw [z0] at HL
                      clear n0
                      go_wp2_with fail
                      go_ret
                      exact ⟨by rw [HL.out]; rfl, HW5.out⟩
          · skip
            by_cases m37 : m = 37
            · subst m37
              have HL : Hid (r = (decide ((64 : Int) ≤ n) && decide (n ≤ 16777216))) := by show _ = _; rw [HE.out, if_neg (by omega)]; try rfl
              clear HE
              by_cases n0 : (64 : Int) ≤ n
              · have z0 : decide ((64 : Int) ≤ n) = true := decide_eq_true n0
                rw [z0] at HL
                clear n0
                go_wp2_with fail
                go_ret
                exact ⟨by rw [HL.out]; rfl, HW5.out⟩
              · have z0 : decide ((64 : Int) ≤ n) = false := decide_eq_false n0
                rw [z0] at HL
                clear n0
                go_wp2_with fail
                go_ret
                exact ⟨by rw [HL.out]; rfl, HW5.out⟩
            · have p37 : ((m : Int) == 37) = false := by simp; omega
              by_cases m34 : m = 34
              · subst m34
                have HL : Hid (r = (decide ((0 : Int) ≤ n) && decide (n ≤ 1000))) := by show _ = _; rw [HE.out, if_neg (by omega)]; try rfl
                clear HE
                by_cases n0 : (0 : Int) ≤ n
                · have z0 : decide ((0 : Int) ≤ n) = true := decide_eq_true n0
                  rw [z0] at HL
                  clear n0
                  go_wp2_with fail
                  go_ret
                  exact ⟨by rw [HL.out]; rfl, HW5.out⟩
                · have z0 : decide ((0 : Int) ≤ n) = false := decide_eq_false n0
                  rw [z0] at HL
                  clear n0
                  go_wp2_with fail
                  go_ret
                  exact ⟨by rw [HL.out]; rfl, HW5.out⟩
              · have p34 : ((m : Int) == 34) = false := by simp; omega
                have HLO : Hid (lowP m true = 0 ∧ highP m = 16777216) := by show _ ∧ _; unfold lowP highP; rw [if_neg m37, if_neg m34]; exact ⟨rfl, rfl⟩
                by_cases m31 : m = 31
                · subst m31
                  by_cases t0 : n.tmod 1000 = 0
                  · have u0 : (n.tmod 1000 != 0) = false := by simp [t0]
                    have HL : Hid (r = (decide ((0 : Int) ≤ n) && decide (n ≤ 16777216))) := by show _ = _; rw [HE.out, if_neg (fun h => h.2 t0), HLO.out.1, HLO.out.2]; try rfl
                    clear HE
                    by_cases n0 : (0 : Int) ≤ n
                    · have z0 : decide ((0 : Int) ≤ n) = true := decide_eq_true n0
                      rw [z0] at HL
                      clear n0
                      go_wp2_with fail
                      go_ret
                      exact ⟨by rw [HL.out]; rfl, HW5.out⟩
                    · have z0 : decide ((0 : Int) ≤ n) = false := decide_eq_false n0
                      rw [z0] at HL
                      clear n0
                      go_wp2_with fail
                      go_ret
                      exact ⟨by rw [HL.out]; rfl, HW5.out⟩
                  · have u0 : (n.tmod 1000 != 0) = true := by simp [t0]
                    have HL : Hid (r = false) := by show _ = _; rw [HE.out, if_pos ⟨by omega, t0⟩]
                    clear HE t0
                    go_wp2_with fail
                    go_ret
                    exact ⟨by rw [HL.out]; rfl, HW5.out⟩
                · have p31 : ((m : Int) == 31) = false := by simp; omega
                  by_cases m53 : m = 53
                  · subst m53
                    by_cases t0 : n.tmod 1000 = 0
                    · have u0 : (n.tmod 1000 != 0) = false := by simp [t0]
                      have HL : Hid (r = (decide ((0 : Int) ≤ n) && decide (n ≤ 16777216))) := by show _ = _; rw [HE.out, if_neg (fun h => h.2 t0), HLO.out.1, HLO.out.2]; try rfl
                      clear HE
                      by_cases n0 : (0 : Int) ≤ n
                      · have z0 : decide ((0 : Int) ≤ n) = true := decide_eq_true n0
                        rw [z0] at HL
                        clear n0
                        go_wp2_with fail
                        go_ret
                        exact ⟨by rw [HL.out]; rfl, HW5.out⟩
                      · have z0 : decide ((0 : Int) ≤ n) = false := decide_eq_false n0
                        rw [z0] at HL
                        clear n0
                        go_wp2_with fail
                        go_ret
                        exact ⟨by rw [HL.out]; rfl, HW5.out⟩
                    · have u0 : (n.tmod 1000 != 0) = true := by simp [t0]
                      have HL : Hid (r = false) := by show _ = _; rw [HE.out, if_pos ⟨by omega, t0⟩]
                      clear HE t0
                      go_wp2_with fail
                      go_ret
                      exact ⟨by rw [HL.out]; rfl, HW5.out⟩
                  · have p53 : ((m : Int) == 53) = false := by simp; omega
                    have HL : Hid (r = (decide ((0 : Int) ≤ n) && decide (n ≤ 16777216))) := by show _ = _; rw [HE.out, if_neg (by omega), HLO.out.1, HLO.out.2]; try rfl
                    clear HE
                    by_cases n0 : (0 : Int) ≤ n
                    · have z0 : decide ((0 : Int) ≤ n) = true := decide_eq_true n0
                      rw [z0] at HL
                      clear n0
                      go_wp2_with fail
                      go_ret
                      exact ⟨by rw [HL.out]; rfl, HW5.out⟩
                    · have z0 : decide ((0 : Int) ≤ n) = false := decide_eq_false n0
                      rw [z0] at HL
                      clear n0
                      go_wp2_with fail
                      go_ret
                      exact ⟨by rw [HL.out]; rfl, HW5.out⟩
end Go.Proofs.YtkmmlcnoeeaekaaGreatDoor
