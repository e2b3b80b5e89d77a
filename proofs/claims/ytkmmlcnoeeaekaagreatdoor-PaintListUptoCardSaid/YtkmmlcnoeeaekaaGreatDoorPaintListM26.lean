/- Several texts in one: StkC, StkD. -/
import Derived.Test.YtkmmlcnoeeaekaaGreatDoorPaintListM23
import Derived.Test.YtkmmlcnoeeaekaaGreatDoorPaintListM24
import Derived.Test.YtkmmlcnoeeaekaaGreatDoorPaintListM21
import Derived.Test.YtkmmlcnoeeaekaaGreatDoorPaintListM18
import Derived.Test.YtkmmlcnoeeaekaaGreatDoorPaintListM10
import Derived.Test.YtkmmlcnoeeaekaaGreatDoorPaintListM25
/- Contracts of the reference's small functions of a fragment: kind, look, within, layer, pocket, z, phase, rank, owner. -/
namespace Go.Proofs.YtkmmlcnoeeaekaaGreatDoor
open Go.RowKit
set_option linter.unusedVariables false
set_option linter.unusedSimpArgs false
attribute [local go_sem] zst_run zst_size

/-- A layout that may be, with the looks of its boxes. -/
structure LayV where
  Ab : Option Addr
  nb : Nat
  cb : Nat
  bs : List BoxV
  Af : Option Addr
  nf : Nat
  cf : Nat
  fs : List FragV
  W1 : Int
  H1 : Int
  gL : Nat
  cl : Nat
  lk : Nat → List Int
namespace LayV
variable (L : LayV)
/-- The box of a fragment; its kind; its look; its parent. -/
def bi (k : Nat) : Nat := (fr L.fs k).box.toNat
def kd (k : Nat) : Int := (bx L.bs (L.bi k)).kind
def st (k : Nat) : List Int := L.lk (L.bi k)
def par (k : Nat) : Nat := (fr L.fs k).par.toNat
def withinF (k : Nat) : Bool := withinK (L.kd k)
def layerF (k : Nat) : Bool := layerK (L.kd k) (L.st k)
def pocketF (k : Nat) : Bool := k == 0 || !L.layerF k && !L.withinF k && pocketK (L.kd k) (L.st k)
def zF (k : Nat) : Int := zK (L.st k)
def phaseF (k : Nat) : Int := phK (L.kd k) (L.st k)
def rankF (k : Nat) : Int := rankK (L.kd k) (L.st k)
def flatF (k : Nat) : Bool := !L.layerF k && !L.pocketF k
/-- It lies so in memory, below block B. -/
structure ok (w : World) (B : Nat) : Prop where
  hb : L.bs.length = L.nb
  hf : L.fs.length = L.nf
  boxes : Boxes w B L.Ab L.bs
  frags : Frags w B L.Af L.fs
  gl : L.gL < B
  looks : ∀ i, i < L.nb → w.rangeAt L.gL (i * 118) (sty (L.lk i)).toList
  len : ∀ i, (L.lk i).length = 118
  z64 : ∀ i, i < L.nb → -9223372036854775808 ≤ stN (L.lk i) 31 ∧ stN (L.lk i) 31 ≤ 9223372036854775807
  good : ∀ i, i < L.nf → fragOk L.bs i (fr L.fs i)
  nb0 : L.nb ≤ 1048576
  nf0 : L.nf ≤ 1048576
end LayV
theorem LayV.ok.below {L : LayV} {w w' : World} {B B' : Nat} (h : L.ok w B) (hb : Below B' w w') (hB : B ≤ B') : L.ok w' B :=
  { h with boxes := h.boxes.below hb hB, frags := h.frags.below hb hB, looks := fun i hi j v hv => (hb.cell (p := ⟨L.gL, _, none⟩) (by have := h.gl; show L.gL < B'; omega)).trans (h.looks i hi j v hv) }
theorem LayV.ok.bi_lt {L : LayV} {w : World} {B k : Nat} (h : L.ok w B) (hk : k < L.nf) : L.bi k < L.nb ∧ (fr L.fs k).box = (L.bi k : Int) := by
  have := h.good k hk
  unfold LayV.bi
  have h1 := this.1
  have h2 := this.2.1
  rw [h.hb] at h2
  constructor <;> omega
/-- The cells of a fragment, as they are read. -/
theorem LayV.ok.frag {L : LayV} {w : World} {B k : Nat} (h : L.ok w B) (hk : k < L.nf) : ∃ b off, L.Af = some ⟨b, off, none⟩ ∧ b < B ∧ w.cell? ⟨b, off + k * 8, none⟩ = some (.int .i64 (L.bi k)) ∧ w.cell? ⟨b, off + k * 8 + 2, none⟩ = some (.int .i64 (fr L.fs k).par) := by
  obtain ⟨b, off, e, hb, c0, c1, c2, -⟩ := h.frags.at_ (k := k) (by rw [h.hf]; exact hk)
  rw [(h.bi_lt hk).2] at c0
  exact ⟨b, off, e, hb, c0, c2⟩
theorem LayV.ok.box {L : LayV} {w : World} {B m : Nat} (h : L.ok w B) (hm : m < L.nb) : ∃ b off, L.Ab = some ⟨b, off, none⟩ ∧ b < B ∧ w.cell? ⟨b, off + m * 5, none⟩ = some (.int .i64 (bx L.bs m).kind) := by
  obtain ⟨b, off, e, hb, c0, -⟩ := h.boxes.at_ (i := m) (by rw [h.hb]; exact hm)
  exact ⟨b, off, e, hb, c0⟩
/-- The reference's stacker. -/
def stC (L : LayV) (v : Value) : Array Value := #[.slice L.Ab L.nb L.cb, .slice L.Af L.nf L.cf, .int .i64 L.W1, .int .i64 L.H1, .slice (some ⟨L.gL, 0, none⟩) L.nb L.cl, v]
structure RSt (L : LayV) (B gS : Nat) (v : Value) (w : World) : Prop where
  lay : L.ok w B
  blk : Blk w gS 112 (stC L v)
  hB : B ≤ w.heap.size
theorem RSt.below {L : LayV} {B gS : Nat} {v : Value} {w w' : World} (h : RSt L B gS v w) (hb : Below w.heap.size w w') : RSt L B gS v w' :=
  ⟨h.lay.below hb h.hB, h.blk.below hb h.blk.lt, Nat.le_trans h.hB hb.size⟩
section
variable {L : LayV} {B gS k : Nat} {v : Value} {w : World}
theorem RSt.c0 (h : RSt L B gS v w) : w.cell? ⟨gS, 0, none⟩ = some (.slice L.Ab L.nb L.cb) := h.blk.cell 0
theorem RSt.c1 (h : RSt L B gS v w) : w.cell? ⟨gS, 1, none⟩ = some (.slice L.Af L.nf L.cf) := h.blk.cell 1
theorem RSt.c4 (h : RSt L B gS v w) : w.cell? ⟨gS, 4, none⟩ = some (.slice (some ⟨L.gL, 0, none⟩) L.nb L.cl) := h.blk.cell 4
end
theorem rkind_calls (L : LayV) (B gS k : Nat) (v : Value) (w : World) (h : RSt L B gS v w) (hk : k < L.nf) :
    Calls Tryz.prog 141 #[.pointer (some ⟨gS, 0, none⟩), .int .i64 (k : Nat)] w fun e w' => e = .returned (.int .i64 (L.kd k)) ∧ Below w.heap.size w w' := by
  have s0 := h.c0
  have s1 := h.c1
  obtain ⟨hm, -⟩ := h.lay.bi_lt hk
  obtain ⟨b, off, eA, hb, f0, -⟩ := h.lay.frag hk
  obtain ⟨b2, off2, eB, hb2, x0⟩ := h.lay.box hm
  rw [eA] at s1
  rw [eB] at s0
  obtain ⟨m, hmm⟩ : ∃ m, m = L.bi k := ⟨_, rfl⟩
  rw [← hmm] at hm f0 x0
  obtain ⟨kd, hkd⟩ : ∃ x, x = L.kd k := ⟨_, rfl⟩
  have e : (bx L.bs m).kind = kd := by rw [hkd, hmm]; rfl
  rw [e] at x0
  rw [← hkd]
  clear e hkd hmm eA eB h hb hb2
  go_enter Tryz.func141, Tryz.ntmps141
  go_wp2_with fail
  go_quiet (fail)
  go_wp2_with fail
  go_ret
  exact ⟨rfl, below_drewN (Below.refl _ _) _⟩
set_option maxRecDepth 100000 in
set_option maxHeartbeats 1000000 in
theorem rlook_calls (L : LayV) (B gS k : Nat) (v : Value) (w : World) (h : RSt L B gS v w) (hk : k < L.nf) :
    Calls Tryz.prog 142 #[.pointer (some ⟨gS, 0, none⟩), .int .i64 (k : Nat)] w fun e w' => e = .returned (.agg (sty (L.st k))) ∧ Below w.heap.size w w' := by
  have h' := h.below (below_alloc (Below.refl _ w) (.cells zst 35))
  have bz := (Blk.new w 35 zst).drew
  have s1 := h'.c1
  have s4 := h'.c4
  obtain ⟨hm, -⟩ := h.lay.bi_lt hk
  obtain ⟨b, off, eA, hb, f0, -⟩ := h'.lay.frag hk
  rw [eA] at s1
  have hl := h'.lay.looks _ hm
  have hln := h.lay.len (L.bi k)
  obtain ⟨m, hmm⟩ : ∃ m, m = L.bi k := ⟨_, rfl⟩
  have est : L.st k = L.lk m := by rw [hmm]; rfl
  rw [← hmm] at hm f0 hl hln
  rw [est]
  have hS0 : (fun w' : World => w'.cell? ⟨gS, 1, none⟩ = some (.slice (some ⟨b, off, none⟩) L.nf L.cf) ∧ w'.cell? ⟨gS, 4, none⟩ = some (.slice (some ⟨L.gL, 0, none⟩) L.nb L.cl) ∧ w'.cell? ⟨b, off + k * 8, none⟩ = some (.int .i64 (m : Int)) ∧ w'.rangeAt L.gL (m * 118) (sty (L.lk m)).toList) (w.alloc (.cells zst 35)).drew := ⟨s1, s4, f0, hl⟩
  have HLL := Lib.hid hln
  have HSZ : Hid ((Tryz.prog.info? 35).map (·.size) = some (sty (L.lk m)).size) := by show _ = _; rw [sty_size, hln]; kernel_rfl
  have HSZL : Hid ((Tryz.prog.info? 35).map (·.size) = some (sty (L.lk m)).toList.length) := by show _ = _; rw [Array.length_toList, sty_size, hln]; kernel_rfl
  clear hmm est eA h h' hb hl hln f0 s1 s4
  go_enter Tryz.func142, Tryz.ntmps142
  go_wp2_with fail
  refine wp_region_noPanic ?_
  refine region_M (S := fun w' => w'.cell? ⟨gS, 1, none⟩ = some (.slice (some ⟨b, off, none⟩) L.nf L.cf) ∧ w'.cell? ⟨gS, 4, none⟩ = some (.slice (some ⟨L.gL, 0, none⟩) L.nb L.cl) ∧ w'.cell? ⟨b, off + k * 8, none⟩ = some (.int .i64 (m : Int)) ∧ w'.rangeAt L.gL (m * 118) (sty (L.lk m)).toList) (T := [15]) (by kernel_rfl) ?_
  refine anyM_free (i := 0) (oi := { dst := some 5, op := _, type := _, pos := _, after := _, guard := _ }) (v := ?_) rfl (by kernel_rfl) (fun _ _ _ h => h) (Or.inl ⟨by kernel_rfl, ?_⟩) (fun _ => hS0) ?_
  rotate_left 1
  · (intro w hSw; (try dsimp only at hSw); go_simp; try with_reducible rfl)
  try simp only [Act.put, Array.toArray_toList, List.setIfInBounds_toArray, List.set_cons_zero, List.set_cons_succ]
  refine anyM_free (i := 1) (oi := { dst := some 6, op := _, type := _, pos := _, after := _, guard := _ }) (v := ?_) rfl (by kernel_rfl) (fun _ _ _ h => h) (Or.inl ⟨by kernel_rfl, ?_⟩) (fun _ => hS0) ?_
  rotate_left 1
  · (intro w hSw; (try dsimp only at hSw); go_simp; try with_reducible rfl)
  try simp only [Act.put, Array.toArray_toList, List.setIfInBounds_toArray, List.set_cons_zero, List.set_cons_succ]
  refine anyM_free (i := 2) (oi := { dst := some 7, op := _, type := _, pos := _, after := _, guard := _ }) (v := ?_) rfl (by kernel_rfl) (fun _ _ _ h => h) (Or.inl ⟨by kernel_rfl, ?_⟩) (fun _ => hS0) ?_
  rotate_left 1
  · (intro w hSw; (try dsimp only at hSw); go_simp; try with_reducible rfl)
  try simp only [Act.put, Array.toArray_toList, List.setIfInBounds_toArray, List.set_cons_zero, List.set_cons_succ]
  refine anyM_take (i := 3) (oi := { dst := some 8, op := _, type := _, pos := _, after := _, guard := _ }) (v := ?_) rfl (by kernel_rfl) (fun _ _ _ h => h) (Or.inl ⟨by kernel_rfl, ?_⟩) hS0 ?_
  rotate_left 1
  · (intro w hSw; (try dsimp only at hSw); go_simp; try with_reducible rfl)
  try simp only [Act.put, Array.toArray_toList, List.setIfInBounds_toArray, List.set_cons_zero, List.set_cons_succ]
  refine anyM_free (i := 4) (oi := { dst := some 9, op := _, type := _, pos := _, after := _, guard := _ }) (v := ?_) rfl (by kernel_rfl) (fun _ _ _ h => h) (Or.inl ⟨by kernel_rfl, ?_⟩) (fun _ => hS0) ?_
  rotate_left 1
  · (intro w hSw; (try dsimp only at hSw); go_simp; try with_reducible rfl)
  try simp only [Act.put, Array.toArray_toList, List.setIfInBounds_toArray, List.set_cons_zero, List.set_cons_succ]
  refine anyM_free (i := 5) (oi := { dst := some 10, op := _, type := _, pos := _, after := _, guard := _ }) (v := ?_) rfl (by kernel_rfl) (fun _ _ _ h => h) (Or.inl ⟨by kernel_rfl, ?_⟩) (fun _ => hS0) ?_
  rotate_left 1
  · (intro w hSw; (try dsimp only at hSw); go_simp; try with_reducible rfl)
  try simp only [Act.put, Array.toArray_toList, List.setIfInBounds_toArray, List.set_cons_zero, List.set_cons_succ]
  refine anyM_free (i := 6) (oi := { dst := some 11, op := _, type := _, pos := _, after := _, guard := _ }) (v := ?_) rfl (by kernel_rfl) (fun _ _ _ h => h) (Or.inl ⟨by kernel_rfl, ?_⟩) (fun _ => hS0) ?_
  rotate_left 1
  · (intro w hSw; (try dsimp only at hSw); go_simp; try with_reducible rfl)
  try simp only [Act.put, Array.toArray_toList, List.setIfInBounds_toArray, List.set_cons_zero, List.set_cons_succ]
  refine anyM_free (i := 7) (oi := { dst := some 12, op := _, type := _, pos := _, after := _, guard := _ }) (v := ?_) rfl (by kernel_rfl) (fun _ _ _ h => h) (Or.inl ⟨by kernel_rfl, ?_⟩) (fun _ => hS0) ?_
  rotate_left 1
  · (intro w hSw; (try dsimp only at hSw); go_simp; try with_reducible rfl)
  try simp only [Act.put, Array.toArray_toList, List.setIfInBounds_toArray, List.set_cons_zero, List.set_cons_succ]
  refine anyM_take (i := 8) (oi := { dst := some 13, op := _, type := _, pos := _, after := _, guard := _ }) (v := ?_) rfl (by kernel_rfl) (fun _ _ _ h => h) (Or.inl ⟨by kernel_rfl, ?_⟩) hS0 ?_
  rotate_left 1
  · (intro w hSw; (try dsimp only at hSw); go_simp; try with_reducible rfl)
  try simp only [Act.put, Array.toArray_toList, List.setIfInBounds_toArray, List.set_cons_zero, List.set_cons_succ]
  refine anyM_free (i := 9) (oi := { dst := some 14, op := _, type := _, pos := _, after := _, guard := _ }) (v := ?_) rfl (by kernel_rfl) (fun _ _ _ h => h) (Or.inl ⟨by kernel_rfl, ?_⟩) (fun _ => hS0) ?_
  rotate_left 1
  · (intro w hSw; (try dsimp only at hSw); go_simp; try with_reducible rfl)
  try simp only [Act.put, Array.toArray_toList, List.setIfInBounds_toArray, List.set_cons_zero, List.set_cons_succ]
  refine anyM_free (i := 10) (oi := { dst := some 15, op := _, type := _, pos := _, after := _, guard := _ }) (v := ?_) rfl (by kernel_rfl) (fun _ _ _ h => h) (Or.inl ⟨by kernel_rfl, ?_⟩) (fun _ => hS0) ?_
  rotate_left 1
  · (intro w hSw; (try dsimp only at hSw); go_simp; try with_reducible rfl)
  try simp only [Act.put, Array.toArray_toList, List.setIfInBounds_toArray, List.set_cons_zero, List.set_cons_succ]
  refine anyM_free (i := 11) (oi := { dst := some 16, op := _, type := _, pos := _, after := _, guard := _ }) (v := ?_) rfl (by kernel_rfl) (fun _ _ _ h => h) (Or.inl ⟨by kernel_rfl, ?_⟩) (fun _ => hS0) ?_
  rotate_left 1
  · (intro w hSw; (try dsimp only at hSw); go_simp; try with_reducible rfl)
  try simp only [Act.put, Array.toArray_toList, List.setIfInBounds_toArray, List.set_cons_zero, List.set_cons_succ]
  refine anyM_take (i := 12) (oi := { dst := some 17, op := _, type := _, pos := _, after := _, guard := _ }) (v := ?_) rfl (by kernel_rfl) (fun _ _ _ h => h) (Or.inl ⟨by kernel_rfl, ?_⟩) hS0 ?_
  rotate_left 1
  · (intro w hSw; (try dsimp only at hSw); go_simp; try with_reducible rfl)
  try simp only [Act.put, Array.toArray_toList, List.setIfInBounds_toArray, List.set_cons_zero, List.set_cons_succ]
  refine anyM_free (i := 13) (oi := { dst := some 18, op := _, type := _, pos := _, after := _, guard := _ }) (v := ?_) rfl (by kernel_rfl) (fun _ _ _ h => h) (Or.inl ⟨by kernel_rfl, ?_⟩) (fun _ => hS0) ?_
  rotate_left 1
  · (intro w hSw; (try dsimp only at hSw); go_simp; try with_reducible rfl)
  try simp only [Act.put, Array.toArray_toList, List.setIfInBounds_toArray, List.set_cons_zero, List.set_cons_succ]
  refine anyM_take (i := 14) (oi := { dst := some 19, op := _, type := _, pos := _, after := _, guard := _ }) (v := _) rfl (by kernel_rfl) (fun _ _ _ h => h) (yieldsIf_load_mid (by kernel_rfl) _ _ rfl _ _ rfl (sty (L.lk m)).toList _ (fun w' h => by simpa using h.2.2.2) Tryz.underlying35 rfl HSZL.out) hS0 ?_
  try simp only [Act.put, Array.toArray_toList, List.setIfInBounds_toArray, List.set_cons_zero, List.set_cons_succ]
  refine anyM_one (i := 15) (by kernel_rfl) rfl (fun K hK => ?_)
  rw [if_pos (by kernel_rfl)]
  refine wp_store_mid _ _ _ rfl w.heap.size 0 (sty (L.lk m)) rfl rfl (bz.there _ (by rw [sty_size, HLL.out, zst_size]; omega)) HSZ.out (sty_one _) ?_
  refine hK.out _ _ (fun h => late_no h (by kernel_rfl)) ?_
  clear hK K
  try simp only [Act.put, Array.toArray_toList, List.setIfInBounds_toArray, List.set_cons_zero, List.set_cons_succ]
  refine anyM_done (by kernel_rfl) ?_ _
  refine NoPanic.normal ?_
  go_wp2_with fail
  exact bodyPost_ret (v := .agg (sty (L.lk m))) (results_cell_row Tryz.results142 _ _ w.heap.size 35 _ (0, 0) _ rfl (bz.setAll (sty (L.lk m)) (by rw [sty_size, HLL.out, zst_size])) Tryz.underlying35 rfl HSZ.out) rfl ⟨rfl, below_setCells (Nat.le_refl _) _ _ _ (below_drewN (below_alloc (Below.refl _ _) _) 1)⟩
theorem rwithin_calls (L : LayV) (B gS k : Nat) (v : Value) (w : World) (h : RSt L B gS v w) (hk : k < L.nf) :
    Calls Tryz.prog 140 #[.pointer (some ⟨gS, 0, none⟩), .int .i64 (k : Nat)] w fun e w' => e = .returned (.bool (L.withinF k)) ∧ Below w.heap.size w w' := by
  have hc := fun w (h : RSt L B gS v w) => rkind_calls L B gS k v w h hk
  obtain ⟨kd, hkd⟩ : ∃ x, x = L.kd k := ⟨_, rfl⟩
  rw [← hkd] at hc
  have e : L.withinF k = (kd == 3 || kd == 4) := by unfold LayV.withinF withinK; rw [hkd]
  rw [e]
  have HC := Lib.hid hc
  have H := Lib.hid h
  have hbel := Below.refl w.heap.size w
  clear hc e hkd h
  by_cases h3 : kd = 3
  · have k3 : (kd == 3) = true := by simp [h3]
    rw [k3, Bool.true_or]
    clear h3
    go_enter Tryz.func140, Tryz.ntmps140
    go_wp2_with (go_at_call 141; refine (HC.out _ (H.out.below hbel)).mono ?_; rintro e w1 ⟨rfl, hb1⟩; have hbel := below_then hbel hb1)
    go_ret
    exact ⟨rfl, hbel⟩
  · have k3 : (kd == 3) = false := by simpa using h3
    rw [k3, Bool.false_or]
    clear h3
    cases k4 : (kd == 4)
    all_goals
      go_enter Tryz.func140, Tryz.ntmps140
      go_wp2_with (go_at_call 141; refine (HC.out _ (H.out.below hbel)).mono ?_; rintro e w1 ⟨rfl, hb1⟩; have hbel := below_then hbel hb1)
      go_ret
      exact ⟨rfl, hbel⟩
end Go.Proofs.YtkmmlcnoeeaekaaGreatDoor
/- Contracts of the reference's small functions of a fragment: layer, z, rank, pocket, phase, owner. -/
namespace Go.Proofs.YtkmmlcnoeeaekaaGreatDoor
open Go.RowKit
set_option linter.unusedVariables false
set_option linter.unusedSimpArgs false

theorem zc_size : (Tryz.zeroCells35).size = 118 := by kernel_rfl
/-- A look laid in a variable of its own. -/
theorem look_laid (zs : List Int) (hz : zs.length = 118) (w : World) : (Tryz.prog.info? 35).map (·.size) = some (sty zs).size ∧ (w.alloc (.cells Tryz.zeroCells35 35)).there w.heap.size 0 (sty zs).size ∧
    ∃ w2, (w.alloc (.cells Tryz.zeroCells35 35)).setCells w.heap.size 0 (sty zs).toList = w2 ∧ Blk w2 w.heap.size 35 (sty zs) ∧ Below w.heap.size w w2 ∧ w2.heap.size = w.heap.size + 1 := by
  have hs : (sty zs).size = 118 := by rw [sty_size]; exact hz
  refine ⟨by rw [hs]; kernel_rfl, (Blk.new w _ Tryz.zeroCells35).there _ (by rw [hs, zc_size]; omega), _, rfl, (Blk.new w _ Tryz.zeroCells35).setAll (sty zs) (by rw [hs, zc_size]), below_setCells (Nat.le_refl _) _ _ _ (below_alloc (Below.refl _ _) _), ?_⟩
  have : ∀ (vs : List Value) (o : Nat) (w' : World), (w'.setCells w.heap.size o vs).heap.size = w'.heap.size := by
    intro vs
    induction vs with
    | nil => intro o w'; rfl
    | cons v r ih => intro o w'; rw [World.setCells, ih]; simp
  rw [this, alloc_size]
set_option maxRecDepth 100000 in
set_option maxHeartbeats 2000000 in
theorem rlayer_calls (L : LayV) (B gS k : Nat) (v : Value) (w : World) (h : RSt L B gS v w) (hk : k < L.nf) :
    Calls Tryz.prog 90 #[.pointer (some ⟨gS, 0, none⟩), .int .i64 (k : Nat)] w fun e w' => e = .returned (.bool (L.layerF k)) ∧ Below w.heap.size w w' := by
  have hlk := fun w (h : RSt L B gS v w) => rlook_calls L B gS k v w h hk
  have hwi := fun w (h : RSt L B gS v w) => rwithin_calls L B gS k v w h hk
  have hz := h.lay.len (L.bi k)
  obtain ⟨zs, hzs⟩ : ∃ x, x = L.st k := ⟨_, rfl⟩
  have e : L.layerF k = (!L.withinF k && (stN zs 1 != 0 || decide (stN zs 34 < 1000))) := by unfold LayV.layerF layerK; rw [hzs]; rfl
  have hz' : zs.length = 118 := by rw [hzs]; exact hz
  rw [← hzs] at hlk
  rw [e]
  have p1 : (sty zs)[3]? = some (.int .i64 (stN zs 1)) := sty_at zs 3 (by omega)
  have o1 : (sty zs)[69]? = some (.int .i64 (stN zs 34)) := sty_at zs 69 (by omega)
  obtain ⟨pos, hpos⟩ : ∃ x, x = stN zs 1 := ⟨_, rfl⟩
  obtain ⟨opa, hopa⟩ : ∃ x, x = stN zs 34 := ⟨_, rfl⟩
  rw [← hpos] at p1 ⊢
  rw [← hopa] at o1 ⊢
  have HLK := Lib.hid hlk
  have HLAID := Lib.hid (fun w => look_laid zs hz' w)
  have H := Lib.hid h
  have hbel := Below.refl w.heap.size w
  have P1 := Lib.hid p1
  have O1 := Lib.hid o1
  obtain ⟨wi, hwie⟩ : ∃ x, x = L.withinF k := ⟨_, rfl⟩
  rw [← hwie] at hwi ⊢
  clear hlk e hzs h hz hz' hpos hopa p1 o1 hwie
  cases wi
  · have HWI := Lib.hid hwi
    clear hwi
    by_cases hp : pos = 0
    · have q1 : (pos != 0) = false := by simp [hp]
      by_cases ho : opa < 1000
      · have q2 : decide (opa < 1000) = true := decide_eq_true ho
        rw [q1, q2]
        clear hp ho
        go_enter Tryz.func90, Tryz.ntmps90
        go_upto_region 2 with (first | (go_at_call 142; refine (HLK.out _ (H.out.below hbel)).mono ?_; rintro e w1 ⟨rfl, hb1⟩; have hbel := below_then hbel hb1) | (refine wpList_store_mid rfl _ _ _ rfl w1.heap.size 0 (sty zs) rfl rfl (HLAID.out w1).2.1 (HLAID.out w1).1 (sty_one _) ?_; obtain ⟨w2, hw2, bS, hb2, hsz2⟩ := (HLAID.out w1).2.2; rw [hw2]; clear hw2; have hbel := below_then hbel hb2; have p1 : w2.cell? ⟨w1.heap.size, 3, none⟩ = some (.int .i64 pos) := (bS.cell 3).trans P1.out; have o1 : w2.cell? ⟨w1.heap.size, 69, none⟩ = some (.int .i64 opa) := (bS.cell 69).trans O1.out))
        go_wp2_with (go_at_call 140; refine (HWI.out _ (H.out.below hbel)).mono ?_; rintro e w3 ⟨rfl, hb3⟩; have hbel := below_then hbel hb3; have p1 : w3.cell? ⟨w1.heap.size, 3, none⟩ = some (.int .i64 pos) := (hb3.cell (p := ⟨w1.heap.size, 3, none⟩) bS.lt).trans p1; have o1 : w3.cell? ⟨w1.heap.size, 69, none⟩ = some (.int .i64 opa) := (hb3.cell (p := ⟨w1.heap.size, 69, none⟩) bS.lt).trans o1)
        go_ret
        exact ⟨rfl, hbel⟩
      · have q2 : decide (opa < 1000) = false := decide_eq_false ho
        rw [q1, q2]
        clear hp ho
        go_enter Tryz.func90, Tryz.ntmps90
        go_upto_region 2 with (first | (go_at_call 142; refine (HLK.out _ (H.out.below hbel)).mono ?_; rintro e w1 ⟨rfl, hb1⟩; have hbel := below_then hbel hb1) | (refine wpList_store_mid rfl _ _ _ rfl w1.heap.size 0 (sty zs) rfl rfl (HLAID.out w1).2.1 (HLAID.out w1).1 (sty_one _) ?_; obtain ⟨w2, hw2, bS, hb2, hsz2⟩ := (HLAID.out w1).2.2; rw [hw2]; clear hw2; have hbel := below_then hbel hb2; have p1 : w2.cell? ⟨w1.heap.size, 3, none⟩ = some (.int .i64 pos) := (bS.cell 3).trans P1.out; have o1 : w2.cell? ⟨w1.heap.size, 69, none⟩ = some (.int .i64 opa) := (bS.cell 69).trans O1.out))
        go_wp2_with (go_at_call 140; refine (HWI.out _ (H.out.below hbel)).mono ?_; rintro e w3 ⟨rfl, hb3⟩; have hbel := below_then hbel hb3; have p1 : w3.cell? ⟨w1.heap.size, 3, none⟩ = some (.int .i64 pos) := (hb3.cell (p := ⟨w1.heap.size, 3, none⟩) bS.lt).trans p1; have o1 : w3.cell? ⟨w1.heap.size, 69, none⟩ = some (.int .i64 opa) := (hb3.cell (p := ⟨w1.heap.size, 69, none⟩) bS.lt).trans o1)
        go_ret
        exact ⟨rfl, hbel⟩
    · have q1 : (pos != 0) = true := by simp [hp]
      rw [q1]
      clear hp
      go_enter Tryz.func90, Tryz.ntmps90
      go_upto_region 2 with (first | (go_at_call 142; refine (HLK.out _ (H.out.below hbel)).mono ?_; rintro e w1 ⟨rfl, hb1⟩; have hbel := below_then hbel hb1) | (refine wpList_store_mid rfl _ _ _ rfl w1.heap.size 0 (sty zs) rfl rfl (HLAID.out w1).2.1 (HLAID.out w1).1 (sty_one _) ?_; obtain ⟨w2, hw2, bS, hb2, hsz2⟩ := (HLAID.out w1).2.2; rw [hw2]; clear hw2; have hbel := below_then hbel hb2; have p1 : w2.cell? ⟨w1.heap.size, 3, none⟩ = some (.int .i64 pos) := (bS.cell 3).trans P1.out; have o1 : w2.cell? ⟨w1.heap.size, 69, none⟩ = some (.int .i64 opa) := (bS.cell 69).trans O1.out))
      go_wp2_with (go_at_call 140; refine (HWI.out _ (H.out.below hbel)).mono ?_; rintro e w3 ⟨rfl, hb3⟩; have hbel := below_then hbel hb3; have p1 : w3.cell? ⟨w1.heap.size, 3, none⟩ = some (.int .i64 pos) := (hb3.cell (p := ⟨w1.heap.size, 3, none⟩) bS.lt).trans p1; have o1 : w3.cell? ⟨w1.heap.size, 69, none⟩ = some (.int .i64 opa) := (hb3.cell (p := ⟨w1.heap.size, 69, none⟩) bS.lt).trans o1)
      go_ret
      exact ⟨rfl, hbel⟩
  · have HWI := Lib.hid hwi
    clear hwi
    go_enter Tryz.func90, Tryz.ntmps90
    go_upto_region 2 with (first | (go_at_call 142; refine (HLK.out _ (H.out.below hbel)).mono ?_; rintro e w1 ⟨rfl, hb1⟩; have hbel := below_then hbel hb1) | (refine wpList_store_mid rfl _ _ _ rfl w1.heap.size 0 (sty zs) rfl rfl (HLAID.out w1).2.1 (HLAID.out w1).1 (sty_one _) ?_; obtain ⟨w2, hw2, bS, hb2, hsz2⟩ := (HLAID.out w1).2.2; rw [hw2]; clear hw2; have hbel := below_then hbel hb2; have p1 : w2.cell? ⟨w1.heap.size, 3, none⟩ = some (.int .i64 pos) := (bS.cell 3).trans P1.out; have o1 : w2.cell? ⟨w1.heap.size, 69, none⟩ = some (.int .i64 opa) := (bS.cell 69).trans O1.out))
    go_wp2_with (go_at_call 140; refine (HWI.out _ (H.out.below hbel)).mono ?_; rintro e w3 ⟨rfl, hb3⟩; have hbel := below_then hbel hb3; have p1 : w3.cell? ⟨w1.heap.size, 3, none⟩ = some (.int .i64 pos) := (hb3.cell (p := ⟨w1.heap.size, 3, none⟩) bS.lt).trans p1; have o1 : w3.cell? ⟨w1.heap.size, 69, none⟩ = some (.int .i64 opa) := (hb3.cell (p := ⟨w1.heap.size, 69, none⟩) bS.lt).trans o1)
    go_ret
    exact ⟨rfl, hbel⟩
end Go.Proofs.YtkmmlcnoeeaekaaGreatDoor
