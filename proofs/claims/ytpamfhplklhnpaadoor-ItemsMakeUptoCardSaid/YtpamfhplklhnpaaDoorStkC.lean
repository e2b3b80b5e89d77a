/- Contracts of the reference's small functions of a fragment: kind, look, within, layer, pocket, z, phase, rank, owner. -/
import Derived.Test.YtpamfhplklhnpaaDoorStkR1
import Derived.Test.YtpamfhplklhnpaaDoorStkB
import Derived.Test.YtpamfhplklhnpaaDoorStkPlain
import Derived.Test.YtpamfhplklhnpaaDoorRow
import Derived.Test.YtpamfhplklhnpaaDoorRegionM
import Derived.Test.YtpamfhplklhnpaaDoorLooksB
namespace Go.Proofs.YtpamfhplklhnpaaDoor
open Go.RowKit
set_option linter.unusedVariables false
set_option linter.unusedSimpArgs false
attribute [local go_sem] zst_run zst_size

/-- A layout that may be, with the looks of its boxes. -/
structure LayV where
  Ab : Option Addr
  nb : Nat
  cb : Nat
  bs : List BoxV
  Af : Option Addr
  nf : Nat
  cf : Nat
  fs : List FragV
  W1 : Int
  H1 : Int
  gL : Nat
  cl : Nat
  lk : Nat → List Int
namespace LayV
variable (L : LayV)
/-- The box of a fragment; its kind; its look; its parent. -/
def bi (k : Nat) : Nat := (fr L.fs k).box.toNat
def kd (k : Nat) : Int := (bx L.bs (L.bi k)).kind
def st (k : Nat) : List Int := L.lk (L.bi k)
def par (k : Nat) : Nat := (fr L.fs k).par.toNat
def withinF (k : Nat) : Bool := withinK (L.kd k)
def layerF (k : Nat) : Bool := layerK (L.kd k) (L.st k)
def pocketF (k : Nat) : Bool := k == 0 || !L.layerF k && !L.withinF k && pocketK (L.kd k) (L.st k)
def zF (k : Nat) : Int := zK (L.st k)
def phaseF (k : Nat) : Int := phK (L.kd k) (L.st k)
def rankF (k : Nat) : Int := rankK (L.kd k) (L.st k)
def flatF (k : Nat) : Bool := !L.layerF k && !L.pocketF k
/-- It lies so in memory, below block B. -/
structure ok (w : World) (B : Nat) : Prop where
  hb : L.bs.length = L.nb
  hf : L.fs.length = L.nf
  boxes : Boxes w B L.Ab L.bs
  frags : Frags w B L.Af L.fs
  gl : L.gL < B
  looks : ∀ i, i < L.nb → w.rangeAt L.gL (i * 118) (sty (L.lk i)).toList
  len : ∀ i, (L.lk i).length = 118
  z64 : ∀ i, i < L.nb → -9223372036854775808 ≤ stN (L.lk i) 31 ∧ stN (L.lk i) 31 ≤ 9223372036854775807
  good : ∀ i, i < L.nf → fragOk L.bs i (fr L.fs i)
  nb0 : L.nb ≤ 1048576
  nf0 : L.nf ≤ 1048576
end LayV
theorem LayV.ok.below {L : LayV} {w w' : World} {B B' : Nat} (h : L.ok w B) (hb : Below B' w w') (hB : B ≤ B') : L.ok w' B :=
  { h with boxes := h.boxes.below hb hB, frags := h.frags.below hb hB, looks := fun i hi j v hv => (hb.cell (p := ⟨L.gL, _, none⟩) (by have := h.gl; show L.gL < B'; omega)).trans (h.looks i hi j v hv) }
theorem LayV.ok.bi_lt {L : LayV} {w : World} {B k : Nat} (h : L.ok w B) (hk : k < L.nf) : L.bi k < L.nb ∧ (fr L.fs k).box = (L.bi k : Int) := by
  have := h.good k hk
  unfold LayV.bi
  have h1 := this.1
  have h2 := this.2.1
  rw [h.hb] at h2
  constructor <;> omega
/-- The cells of a fragment, as they are read. -/
theorem LayV.ok.frag {L : LayV} {w : World} {B k : Nat} (h : L.ok w B) (hk : k < L.nf) : ∃ b off, L.Af = some ⟨b, off, none⟩ ∧ b < B ∧ w.cell? ⟨b, off + k * 8, none⟩ = some (.int .i64 (L.bi k)) ∧ w.cell? ⟨b, off + k * 8 + 2, none⟩ = some (.int .i64 (fr L.fs k).par) := by
  obtain ⟨b, off, e, hb, c0, c1, c2, -⟩ := h.frags.at_ (k := k) (by rw [h.hf]; exact hk)
  rw [(h.bi_lt hk).2] at c0
  exact ⟨b, off, e, hb, c0, c2⟩
theorem LayV.ok.box {L : LayV} {w : World} {B m : Nat} (h : L.ok w B) (hm : m < L.nb) : ∃ b off, L.Ab = some ⟨b, off, none⟩ ∧ b < B ∧ w.cell? ⟨b, off + m * 5, none⟩ = some (.int .i64 (bx L.bs m).kind) := by
  obtain ⟨b, off, e, hb, c0, -⟩ := h.boxes.at_ (i := m) (by rw [h.hb]; exact hm)
  exact ⟨b, off, e, hb, c0⟩
/-- The reference's stacker. -/
def stC (L : LayV) (v : Value) : Array Value := #[.slice L.Ab L.nb L.cb, .slice L.Af L.nf L.cf, .int .i64 L.W1, .int .i64 L.H1, .slice (some ⟨L.gL, 0, none⟩) L.nb L.cl, v]
structure RSt (L : LayV) (B gS : Nat) (v : Value) (w : World) : Prop where
  lay : L.ok w B
  blk : Blk w gS 86 (stC L v)
  hB : B ≤ w.heap.size
theorem RSt.below {L : LayV} {B gS : Nat} {v : Value} {w w' : World} (h : RSt L B gS v w) (hb : Below w.heap.size w w') : RSt L B gS v w' :=
  ⟨h.lay.below hb h.hB, h.blk.below hb h.blk.lt, Nat.le_trans h.hB hb.size⟩
section
variable {L : LayV} {B gS k : Nat} {v : Value} {w : World}
theorem RSt.c0 (h : RSt L B gS v w) : w.cell? ⟨gS, 0, none⟩ = some (.slice L.Ab L.nb L.cb) := h.blk.cell 0
theorem RSt.c1 (h : RSt L B gS v w) : w.cell? ⟨gS, 1, none⟩ = some (.slice L.Af L.nf L.cf) := h.blk.cell 1
theorem RSt.c4 (h : RSt L B gS v w) : w.cell? ⟨gS, 4, none⟩ = some (.slice (some ⟨L.gL, 0, none⟩) L.nb L.cl) := h.blk.cell 4
end
theorem rkind_calls (L : LayV) (B gS k : Nat) (v : Value) (w : World) (h : RSt L B gS v w) (hk : k < L.nf) :
    Calls Tryd.prog 67 #[.pointer (some ⟨gS, 0, none⟩), .int .i64 (k : Nat)] w fun e w' => e = .returned (.int .i64 (L.kd k)) ∧ Below w.heap.size w w' := by
  have s0 := h.c0
  have s1 := h.c1
  obtain ⟨hm, -⟩ := h.lay.bi_lt hk
  obtain ⟨b, off, eA, hb, f0, -⟩ := h.lay.frag hk
  obtain ⟨b2, off2, eB, hb2, x0⟩ := h.lay.box hm
  rw [eA] at s1
  rw [eB] at s0
  obtain ⟨m, hmm⟩ : ∃ m, m = L.bi k := ⟨_, rfl⟩
  rw [← hmm] at hm f0 x0
  obtain ⟨kd, hkd⟩ : ∃ x, x = L.kd k := ⟨_, rfl⟩
  have e : (bx L.bs m).kind = kd := by rw [hkd, hmm]; rfl
  rw [e] at x0
  rw [← hkd]
  clear e hkd hmm eA eB h hb hb2
  go_enter Tryd.func67, Tryd.ntmps67
  go_wp2_with fail
  go_quiet (fail)
  go_wp2_with fail
  go_ret
  exact ⟨rfl, below_drewN (Below.refl _ _) _⟩
set_option maxRecDepth 100000 in
set_option maxHeartbeats 1000000 in
theorem rlook_calls (L : LayV) (B gS k : Nat) (v : Value) (w : World) (h : RSt L B gS v w) (hk : k < L.nf) :
    Calls Tryd.prog 68 #[.pointer (some ⟨gS, 0, none⟩), .int .i64 (k : Nat)] w fun e w' => e = .returned (.agg (sty (L.st k))) ∧ Below w.heap.size w w' := by
  have h' := h.below (below_alloc (Below.refl _ w) (.cells zst 28))
  have bz := (Blk.new w 28 zst).drew
  have s1 := h'.c1
  have s4 := h'.c4
  obtain ⟨hm, -⟩ := h.lay.bi_lt hk
  obtain ⟨b, off, eA, hb, f0, -⟩ := h'.lay.frag hk
  rw [eA] at s1
  have hl := h'.lay.looks _ hm
  have hln := h.lay.len (L.bi k)
  obtain ⟨m, hmm⟩ : ∃ m, m = L.bi k := ⟨_, rfl⟩
  have est : L.st k = L.lk m := by rw [hmm]; rfl
  rw [← hmm] at hm f0 hl hln
  rw [est]
  have hS0 : (fun w' : World => w'.cell? ⟨gS, 1, none⟩ = some (.slice (some ⟨b, off, none⟩) L.nf L.cf) ∧ w'.cell? ⟨gS, 4, none⟩ = some (.slice (some ⟨L.gL, 0, none⟩) L.nb L.cl) ∧ w'.cell? ⟨b, off + k * 8, none⟩ = some (.int .i64 (m : Int)) ∧ w'.rangeAt L.gL (m * 118) (sty (L.lk m)).toList) (w.alloc (.cells zst 28)).drew := ⟨s1, s4, f0, hl⟩
  have HLL := Lib.hid hln
  have HSZ : Hid ((Tryd.prog.info? 28).map (·.size) = some (sty (L.lk m)).size) := by show _ = _; rw [sty_size, hln]; kernel_rfl
  have HSZL : Hid ((Tryd.prog.info? 28).map (·.size) = some (sty (L.lk m)).toList.length) := by show _ = _; rw [Array.length_toList, sty_size, hln]; kernel_rfl
  clear hmm est eA h h' hb hl hln f0 s1 s4
  go_enter Tryd.func68, Tryd.ntmps68
  go_wp2_with fail
  refine wp_region_noPanic ?_
  refine region_M (S := fun w' => w'.cell? ⟨gS, 1, none⟩ = some (.slice (some ⟨b, off, none⟩) L.nf L.cf) ∧ w'.cell? ⟨gS, 4, none⟩ = some (.slice (some ⟨L.gL, 0, none⟩) L.nb L.cl) ∧ w'.cell? ⟨b, off + k * 8, none⟩ = some (.int .i64 (m : Int)) ∧ w'.rangeAt L.gL (m * 118) (sty (L.lk m)).toList) (T := [15]) (by kernel_rfl) ?_
  refine anyM_free (i := 0) (oi := { dst := some 5, op := _, type := _, pos := _, after := _, guard := _ }) (v := ?_) rfl (by kernel_rfl) (fun _ _ _ h => h) (Or.inl ⟨by kernel_rfl, ?_⟩) (fun _ => hS0) ?_
  rotate_left 1
  · (intro w hSw; (try dsimp only at hSw); go_simp; try with_reducible rfl)
  try simp only [Act.put, Array.toArray_toList, List.setIfInBounds_toArray, List.set_cons_zero, List.set_cons_succ]
  refine anyM_free (i := 1) (oi := { dst := some 6, op := _, type := _, pos := _, after := _, guard := _ }) (v := ?_) rfl (by kernel_rfl) (fun _ _ _ h => h) (Or.inl ⟨by kernel_rfl, ?_⟩) (fun _ => hS0) ?_
  rotate_left 1
  · (intro w hSw; (try dsimp only at hSw); go_simp; try with_reducible rfl)
  try simp only [Act.put, Array.toArray_toList, List.setIfInBounds_toArray, List.set_cons_zero, List.set_cons_succ]
  refine anyM_free (i := 2) (oi := { dst := some 7, op := _, type := _, pos := _, after := _, guard := _ }) (v := ?_) rfl (by kernel_rfl) (fun _ _ _ h => h) (Or.inl ⟨by kernel_rfl, ?_⟩) (fun _ => hS0) ?_
  rotate_left 1
  · (intro w hSw; (try dsimp only at hSw); go_simp; try with_reducible rfl)
  try simp only [Act.put, Array.toArray_toList, List.setIfInBounds_toArray, List.set_cons_zero, List.set_cons_succ]
  refine anyM_take (i := 3) (oi := { dst := some 8, op := _, type := _, pos := _, after := _, guard := _ }) (v := ?_) rfl (by kernel_rfl) (fun _ _ _ h => h) (Or.inl ⟨by kernel_rfl, ?_⟩) hS0 ?_
  rotate_left 1
  · (intro w hSw; (try dsimp only at hSw); go_simp; try with_reducible rfl)
  try simp only [Act.put, Array.toArray_toList, List.setIfInBounds_toArray, List.set_cons_zero, List.set_cons_succ]
  refine anyM_free (i := 4) (oi := { dst := some 9, op := _, type := _, pos := _, after := _, guard := _ }) (v := ?_) rfl (by kernel_rfl) (fun _ _ _ h => h) (Or.inl ⟨by kernel_rfl, ?_⟩) (fun _ => hS0) ?_
  rotate_left 1
  · (intro w hSw; (try dsimp only at hSw); go_simp; try with_reducible rfl)
  try simp only [Act.put, Array.toArray_toList, List.setIfInBounds_toArray, List.set_cons_zero, List.set_cons_succ]
  refine anyM_free (i := 5) (oi := { dst := some 10, op := _, type := _, pos := _, after := _, guard := _ }) (v := ?_) rfl (by kernel_rfl) (fun _ _ _ h => h) (Or.inl ⟨by kernel_rfl, ?_⟩) (fun _ => hS0) ?_
  rotate_left 1
  · (intro w hSw; (try dsimp only at hSw); go_simp; try with_reducible rfl)
  try simp only [Act.put, Array.toArray_toList, List.setIfInBounds_toArray, List.set_cons_zero, List.set_cons_succ]
  refine anyM_free (i := 6) (oi := { dst := some 11, op := _, type := _, pos := _, after := _, guard := _ }) (v := ?_) rfl (by kernel_rfl) (fun _ _ _ h => h) (Or.inl ⟨by kernel_rfl, ?_⟩) (fun _ => hS0) ?_
  rotate_left 1
  · (intro w hSw; (try dsimp only at hSw); go_simp; try with_reducible rfl)
  try simp only [Act.put, Array.toArray_toList, List.setIfInBounds_toArray, List.set_cons_zero, List.set_cons_succ]
  refine anyM_free (i := 7) (oi := { dst := some 12, op := _, type := _, pos := _, after := _, guard := _ }) (v := ?_) rfl (by kernel_rfl) (fun _ _ _ h => h) (Or.inl ⟨by kernel_rfl, ?_⟩) (fun _ => hS0) ?_
  rotate_left 1
  · (intro w hSw; (try dsimp only at hSw); go_simp; try with_reducible rfl)
  try simp only [Act.put, Array.toArray_toList, List.setIfInBounds_toArray, List.set_cons_zero, List.set_cons_succ]
  refine anyM_take (i := 8) (oi := { dst := some 13, op := _, type := _, pos := _, after := _, guard := _ }) (v := ?_) rfl (by kernel_rfl) (fun _ _ _ h => h) (Or.inl ⟨by kernel_rfl, ?_⟩) hS0 ?_
  rotate_left 1
  · (intro w hSw; (try dsimp only at hSw); go_simp; try with_reducible rfl)
  try simp only [Act.put, Array.toArray_toList, List.setIfInBounds_toArray, List.set_cons_zero, List.set_cons_succ]
  refine anyM_free (i := 9) (oi := { dst := some 14, op := _, type := _, pos := _, after := _, guard := _ }) (v := ?_) rfl (by kernel_rfl) (fun _ _ _ h => h) (Or.inl ⟨by kernel_rfl, ?_⟩) (fun _ => hS0) ?_
  rotate_left 1
  · (intro w hSw; (try dsimp only at hSw); go_simp; try with_reducible rfl)
  try simp only [Act.put, Array.toArray_toList, List.setIfInBounds_toArray, List.set_cons_zero, List.set_cons_succ]
  refine anyM_free (i := 10) (oi := { dst := some 15, op := _, type := _, pos := _, after := _, guard := _ }) (v := ?_) rfl (by kernel_rfl) (fun _ _ _ h => h) (Or.inl ⟨by kernel_rfl, ?_⟩) (fun _ => hS0) ?_
  rotate_left 1
  · (intro w hSw; (try dsimp only at hSw); go_simp; try with_reducible rfl)
  try simp only [Act.put, Array.toArray_toList, List.setIfInBounds_toArray, List.set_cons_zero, List.set_cons_succ]
  refine anyM_free (i := 11) (oi := { dst := some 16, op := _, type := _, pos := _, after := _, guard := _ }) (v := ?_) rfl (by kernel_rfl) (fun _ _ _ h => h) (Or.inl ⟨by kernel_rfl, ?_⟩) (fun _ => hS0) ?_
  rotate_left 1
  · (intro w hSw; (try dsimp only at hSw); go_simp; try with_reducible rfl)
  try simp only [Act.put, Array.toArray_toList, List.setIfInBounds_toArray, List.set_cons_zero, List.set_cons_succ]
  refine anyM_take (i := 12) (oi := { dst := some 17, op := _, type := _, pos := _, after := _, guard := _ }) (v := ?_) rfl (by kernel_rfl) (fun _ _ _ h => h) (Or.inl ⟨by kernel_rfl, ?_⟩) hS0 ?_
  rotate_left 1
  · (intro w hSw; (try dsimp only at hSw); go_simp; try with_reducible rfl)
  try simp only [Act.put, Array.toArray_toList, List.setIfInBounds_toArray, List.set_cons_zero, List.set_cons_succ]
  refine anyM_free (i := 13) (oi := { dst := some 18, op := _, type := _, pos := _, after := _, guard := _ }) (v := ?_) rfl (by kernel_rfl) (fun _ _ _ h => h) (Or.inl ⟨by kernel_rfl, ?_⟩) (fun _ => hS0) ?_
  rotate_left 1
  · (intro w hSw; (try dsimp only at hSw); go_simp; try with_reducible rfl)
  try simp only [Act.put, Array.toArray_toList, List.setIfInBounds_toArray, List.set_cons_zero, List.set_cons_succ]
  refine anyM_take (i := 14) (oi := { dst := some 19, op := _, type := _, pos := _, after := _, guard := _ }) (v := _) rfl (by kernel_rfl) (fun _ _ _ h => h) (yieldsIf_load_mid (by kernel_rfl) _ _ rfl _ _ rfl (sty (L.lk m)).toList _ (fun w' h => by simpa using h.2.2.2) Tryd.underlying28 rfl HSZL.out) hS0 ?_
  try simp only [Act.put, Array.toArray_toList, List.setIfInBounds_toArray, List.set_cons_zero, List.set_cons_succ]
  refine anyM_one (i := 15) (by kernel_rfl) rfl (fun K hK => ?_)
  rw [if_pos (by kernel_rfl)]
  refine wp_store_mid _ _ _ rfl w.heap.size 0 (sty (L.lk m)) rfl rfl (bz.there _ (by rw [sty_size, HLL.out, zst_size]; omega)) HSZ.out (sty_one _) ?_
  refine hK.out _ _ (fun h => late_no h (by kernel_rfl)) ?_
  clear hK K
  try simp only [Act.put, Array.toArray_toList, List.setIfInBounds_toArray, List.set_cons_zero, List.set_cons_succ]
  refine anyM_done (by kernel_rfl) ?_ _
  refine NoPanic.normal ?_
  go_wp2_with fail
  exact bodyPost_ret (v := .agg (sty (L.lk m))) (results_cell_row Tryd.results68 _ _ w.heap.size 28 _ (0, 0) _ rfl (bz.setAll (sty (L.lk m)) (by rw [sty_size, HLL.out, zst_size])) Tryd.underlying28 rfl HSZ.out) rfl ⟨rfl, below_setCells (Nat.le_refl _) _ _ _ (below_drewN (below_alloc (Below.refl _ _) _) 1)⟩
theorem rwithin_calls (L : LayV) (B gS k : Nat) (v : Value) (w : World) (h : RSt L B gS v w) (hk : k < L.nf) :
    Calls Tryd.prog 66 #[.pointer (some ⟨gS, 0, none⟩), .int .i64 (k : Nat)] w fun e w' => e = .returned (.bool (L.withinF k)) ∧ Below w.heap.size w w' := by
  have hc := fun w (h : RSt L B gS v w) => rkind_calls L B gS k v w h hk
  obtain ⟨kd, hkd⟩ : ∃ x, x = L.kd k := ⟨_, rfl⟩
  rw [← hkd] at hc
  have e : L.withinF k = (kd == 3 || kd == 4) := by unfold LayV.withinF withinK; rw [hkd]
  rw [e]
  have HC := Lib.hid hc
  have H := Lib.hid h
  have hbel := Below.refl w.heap.size w
  clear hc e hkd h
  by_cases h3 : kd = 3
  · have k3 : (kd == 3) = true := by simp [h3]
    rw [k3, Bool.true_or]
    clear h3
    go_enter Tryd.func66, Tryd.ntmps66
    go_wp2_with (go_at_call 67; refine (HC.out _ (H.out.below hbel)).mono ?_; rintro e w1 ⟨rfl, hb1⟩; have hbel := below_then hbel hb1)
    go_ret
    exact ⟨rfl, hbel⟩
  · have k3 : (kd == 3) = false := by simpa using h3
    rw [k3, Bool.false_or]
    clear h3
    cases k4 : (kd == 4)
    all_goals
      go_enter Tryd.func66, Tryd.ntmps66
      go_wp2_with (go_at_call 67; refine (HC.out _ (H.out.below hbel)).mono ?_; rintro e w1 ⟨rfl, hb1⟩; have hbel := below_then hbel hb1)
      go_ret
      exact ⟨rfl, hbel⟩
end Go.Proofs.YtpamfhplklhnpaaDoor
