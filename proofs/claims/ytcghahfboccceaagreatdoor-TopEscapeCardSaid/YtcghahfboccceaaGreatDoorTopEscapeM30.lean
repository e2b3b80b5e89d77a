/- Several texts in one: TfE. -/
import Derived.Test.YtcghahfboccceaaGreatDoorTopEscapeM29
/- Contracts of slices.Insert at the end, of the tree's put. Printed by genTfE.py. -/
namespace Go.Proofs.YtcghahfboccceaaGreatDoor
open Go.RowKit Go.Shelf
set_option linter.unusedVariables false
set_option linter.unusedSimpArgs false

theorem infoInt : (Tryz.prog.info? 3).map (fun i => (i.zero, i.size, i.bytes)) = some (some (.int .i64 0), 1, 8) := by kernel_rfl
set_option maxRecDepth 100000 in
set_option maxHeartbeats 4000000 in
theorem insEnd_calls (B g n c : Nat) (A : Option Addr) (ks : List Int) (k : Int) (w : World) (ho : w.ownsRow B 3 1 (.slice A n c) n (ints ks)) (hg : Blk w g 3 #[.int .i64 k]) (hn : n < 100000) (hB : B ≤ w.heap.size) :
    Calls Tryz.prog 66 #[.slice A n c, .int .i64 (n : Int), .slice (some ⟨g, 0, none⟩) 1 1] w fun e w' =>
      ∃ A9 c9, e = .returned (.slice A9 (n + 1) c9) ∧ w'.ownsRow B 3 1 (.slice A9 (n + 1) c9) (n + 1) (ints (ks ++ [k])) ∧ w.grownBy w' (Value.slice A n c).ownBlock ∧ ((Value.slice A9 (n + 1) c9).ownBlock = (Value.slice A n c).ownBlock ∨ (Value.slice A9 (n + 1) c9).ownBlock = some w.heap.size) := by
  obtain ⟨i0, hi, hz0, hz1, hz2⟩ := info_parts infoInt
  have HO := Lib.hid ho
  have HG := Lib.hid hg
  have hnc : n ≤ c := by
    rcases ho.2 with ⟨e, h0⟩ | ⟨g', cap', cur, hv, _, _, h3, _⟩
    · omega
    · injection hv with _ _ hc; omega
  have e1 : ((n : Int) == (n : Int)) = true := by simp
  rcases ho.2 with ⟨e, h0⟩ | ⟨g', cap', cur, hv, _, _, h3, _⟩
  · injection e with ea en ec
    subst ea; subst en; subst ec
    clear ho hg h0
    go_enter Tryz.func66, Tryz.ntmps66
    go_wp2_with (at_builtin; refine wpList_append_any rfl _ _ 33 rfl B 3 i0 (.int .i64 0) 1 8 Tryz.underlying33 hi hz0 hz1 hz2 rfl (by decide) (.slice none 0 0) 0 (ints ks) rfl HO.out (some ⟨g, 0, none⟩) 1 1 [.int .i64 k] rfl rfl (.inl ⟨g, 0, rfl, fun j u hj => by rw [Nat.zero_add, HG.out.cell j]; simpa using hj⟩) (by intro u hu; simp at hu; subst hu; rfl) (by unfold maxLen; omega) (by omega) hB ?_; intro A9 c9 w9 ho9 hg9 hat9)
    go_ret
    exact ⟨A9, c9, rfl, by simpa [ints] using ho9, hg9, hat9⟩
  · injection hv with ea en ec
    subst ea
    clear ho hg h3
    go_enter Tryz.func66, Tryz.ntmps66
    go_wp2_with (at_builtin; refine wpList_append_any rfl _ _ 33 rfl B 3 i0 (.int .i64 0) 1 8 Tryz.underlying33 hi hz0 hz1 hz2 rfl (by decide) (.slice (some ⟨g', 0, none⟩) n c) n (ints ks) rfl HO.out (some ⟨g, 0, none⟩) 1 1 [.int .i64 k] rfl rfl (.inl ⟨g, 0, rfl, fun j u hj => by rw [Nat.zero_add, HG.out.cell j]; simpa using hj⟩) (by intro u hu; simp at hu; subst hu; rfl) (by unfold maxLen; omega) (by omega) hB ?_; intro A9 c9 w9 ho9 hg9 hat9)
    all_goals go_ret
    all_goals exact ⟨A9, c9, rfl, by simpa [ints] using ho9, hg9, hat9⟩
/-- A node put behind the kids of another one. -/
def PS.put (S : PS) (i k : Nat) : PS := { S with ns := (S.ns.modify i fun x => { x with kids := x.kids ++ [(k : Int)] }).modify k fun x => { x with parent := (i : Int) } }
theorem map_set_modify {ns : List NodeV} {i : Nat} {x x' : NodeV} {f : Nd → Nd} (hi : i < ns.length) (hx : ns[i] = x) (hf : x'.abs = f x.abs) : (ns.set i x').map NodeV.abs = (ns.map NodeV.abs).modify i f := by
  apply List.ext_getElem?
  intro j
  rw [List.getElem?_map, List.getElem?_modify, List.getElem?_map, List.getElem?_set]
  by_cases h : i = j
  · subst h
    simp [hi, hx, hf]
  · simp [h]
theorem RPx.mem {B b : Nat} {m : Int} {S : PS} {v vo : Value} {ns : List NodeV} {w w' : World} (h : RPx B b m S v vo ns w) (hb : Below B w w') : w'.cell? ⟨0, 0, none⟩ = some (.int .i64 m) := (hb.cell (p := ⟨0, 0, none⟩) h.b0).trans h.mx
/-- A kid's number appended. -/
theorem RPx.kid {B b : Nat} {m : Int} {S S' : PS} {vo : Value} {ns : List NodeV} {w w9 : World} {g n cap i k kl kc : Nat} {kA A9 : Option Addr} {c9 : Nat} {X : NodeV} (h : RPx B b m S (.slice (some ⟨g, 0, none⟩) n cap) vo ns w) (hn : ns.length = n) (hi : i < ns.length) (hX : ns[i] = X)
    (hkl : X.kids.length = kl) (hkA : X.kidsA = kA) (hkc : X.kcap = kc)
    (ho : w9.ownsRow B 3 1 (.slice A9 (kl + 1) c9) (kl + 1) (ints (X.kids ++ [(k : Int)]))) (hg : w.grownBy w9 (Value.slice kA kl kc).ownBlock) (hat : (Value.slice A9 (kl + 1) c9).ownBlock = (Value.slice kA kl kc).ownBlock ∨ (Value.slice A9 (kl + 1) c9).ownBlock = some w.heap.size)
    (hS : S' = { S with ns := S.ns.modify i fun x => { x with kids := x.kids ++ [(k : Int)] } }) :
    RPx B b m S' (.slice (some ⟨g, 0, none⟩) n cap) vo (ns.set i { X with kids := X.kids ++ [(k : Int)], kidsA := A9, kcap := c9 }) (w9.setCell ⟨g, i * 6 + 5, none⟩ (.slice A9 (kl + 1) c9)) ∧ Left B w (w9.setCell ⟨g, i * 6 + 5, none⟩ (.slice A9 (kl + 1) c9)) ∧
      Blk w9 b 56 (pcells S (.slice (some ⟨g, 0, none⟩) n cap) vo) ∧ w9.cell? ⟨g, i * 6 + 5, none⟩ = some (.slice kA kl kc) ∧ w9.frozen? ⟨g, i * 6 + 5, none⟩ = false := by
  subst hkl; subst hkA; subst hkc
  have hmem : X ∈ ns := hX ▸ List.getElem_mem hi
  have hko := h.tree.kids X hmem
  have hB := h.bw
  have hgB : B ≤ g := (h.tree.own.lt g rfl).1
  have hbg : b ≠ g := fun e => by
    have := blk_ne h.blk h.tree.own (by decide)
    exact this (by rw [e]; rfl)
  have hb9 := blk_grown h.blk hg (blk_ne h.blk hko (by decide))
  have hown9 := own_grownFar h.tree.own (h.tree.nk hmem).symm hg
  have hbel : Below B w (w9.setCell ⟨g, i * 6 + 5, none⟩ (.slice A9 (X.kids.length + 1) c9)) := ((Below.refl B w).grown hg hB (fun q hq => (hko.lt q hq).1)).setCell (p := ⟨g, i * 6 + 5, none⟩) hgB _
  refine ⟨⟨h.lo, h.b0, ?_, ?_, ?_, h.mem hbel⟩, ⟨hbel, ?_⟩, hb9, ?_, ?_⟩
  · rw [hS, map_set_modify (f := fun x => { x with kids := x.kids ++ [(k : Int)] }) hi hX rfl, h.abs]
  · rw [hS]; exact hb9.far hbg _
  · rw [hS]; exact h.tree.kid hn hi hX rfl ho hg hat
  · obtain ⟨o, h1, h2⟩ := treeO_n hown9 g rfl
    exact (Keep.grown hg (treeO_i hko)).trans (Keep.setCell (p := ⟨g, i * 6 + 5, none⟩) h1 h2 _)
  · have h8 : n = ns.length := hn.symm
    subst h8
    exact own_cell hown9 (nodesL_at ns i 5 _ hi (by rw [hX]; rfl))
  · exact own_free (by rw [hn] at hown9; exact hown9)
theorem RPx.par {B b : Nat} {m : Int} {S S' : PS} {vo : Value} {ns : List NodeV} {w : World} {g n cap i k : Nat} (h : RPx B b m S (.slice (some ⟨g, 0, none⟩) n cap) vo ns w) (hn : ns.length = n) (hk : k < ns.length)
    (hS : S' = { S with ns := S.ns.modify k fun x => { x with parent := (i : Int) } }) :
    ∃ ns', RPx B b m S' (.slice (some ⟨g, 0, none⟩) n cap) vo ns' (w.setCell ⟨g, k * 6 + 4, none⟩ (.int .i64 (i : Int))) ∧ Left B w (w.setCell ⟨g, k * 6 + 4, none⟩ (.int .i64 (i : Int))) := by
  have hgB : B ≤ g := (h.tree.own.lt g rfl).1
  have hbg : b ≠ g := fun e => by
    have := blk_ne h.blk h.tree.own (by decide)
    exact this (by rw [e]; rfl)
  have hbel : Below B w (w.setCell ⟨g, k * 6 + 4, none⟩ (.int .i64 (i : Int))) := (Below.refl B w).setCell (p := ⟨g, k * 6 + 4, none⟩) hgB _
  obtain ⟨o, h1, h2⟩ := treeO_n h.tree.own g rfl
  refine ⟨_, ⟨h.lo, h.b0, ?_, by rw [hS]; exact h.blk.far hbg _, by rw [hS]; exact h.tree.par hn hk rfl, h.mem hbel⟩, ⟨hbel, Keep.setCell (p := ⟨g, k * 6 + 4, none⟩) h1 h2 _⟩⟩
  rw [hS, map_set_modify (f := fun x => { x with parent := (i : Int) }) hk rfl rfl, h.abs]
set_option maxRecDepth 100000 in
set_option maxHeartbeats 8000000 in
theorem tput_calls (B b : Nat) (m : Int) (S : PS) (i k kl : Nat) (x : Nd) (w : World) (h : RP B b m S w) (hx : S.ns[i]? = some x) (hl : x.kids.length = kl) (hk : k < S.ns.length) (hkl : kl < 100000) :
    Calls Tryz.prog 40 #[.pointer (some ⟨b, 0, none⟩), .agg #[.int .i64 (i : Int), .int .i64 (kl : Int)], .int .i64 (k : Int)] w fun e w' => e = .returned (.tuple #[]) ∧ RP B b m (S.put i k) w' ∧ Left B w w' := by
  obtain ⟨v, vo, ns, h⟩ := h
  obtain ⟨hi, hab⟩ := h.at_ hx
  obtain ⟨g, cap, rfl⟩ := h.nodes hx
  obtain ⟨n, hn⟩ : ∃ n, n = ns.length := ⟨_, rfl⟩
  rw [← hn] at h
  have hkn : k < n := by rw [hn, h.len]; exact hk
  obtain ⟨X, hX⟩ : ∃ X, X = ns[i] := ⟨_, rfl⟩
  have hXk : X.kids.length = kl := by rw [← hl, ← hab, hX]; rfl
  obtain ⟨kA, hkA⟩ : ∃ kA, kA = X.kidsA := ⟨_, rfl⟩
  obtain ⟨kc, hkc⟩ : ∃ kc, kc = X.kcap := ⟨_, rfl⟩
  have hmem : X ∈ ns := hX ▸ List.getElem_mem hi
  obtain ⟨g4, hg4⟩ : ∃ g4, g4 = w.heap.size := ⟨_, rfl⟩
  obtain ⟨wa, hwa⟩ : ∃ wa, wa = w.alloc (.cells #[.int .i64 (i : Int), .int .i64 (kl : Int)] 59) := ⟨_, rfl⟩
  have P0 : Hid (Blk wa g4 59 #[.int .i64 (i : Int), .int .i64 (kl : Int)]) := by show Blk _ _ _ _; rw [hwa, hg4]; exact Blk.new w _ _
  have B0 : Hid (Below w.heap.size w wa) := by show Below _ _ _; rw [hwa]; exact (Below.refl _ w).alloc (Nat.le_refl _) _
  have R0 : Hid (RPx B b m S (.slice (some ⟨g, 0, none⟩) n cap) vo ns wa) := h.below B0.out
  have L0 : Hid (Left B w wa) := Left.of_below B0.out h.bw
  have c0 : wa.cell? ⟨b, 0, none⟩ = some (.slice (some ⟨g, 0, none⟩) n cap) := R0.out.blk.cell 0
  have c4 : wa.cell? ⟨g4, 0, none⟩ = some (.int .i64 (i : Int)) := P0.out.cell 0
  have hin : i < n := by omega
  have HI := Lib.hid hi
  have HX := Lib.hid hX
  have HXK := Lib.hid hXk
  have HKA := Lib.hid hkA
  have HKC := Lib.hid hkc
  have HN := Lib.hid hn
  have HM := Lib.hid hmem
  have HWA := Lib.hid hwa
  have HG4 := Lib.hid hg4
  clear h hx hab hl hk hX hXk hkA hkc hn hmem hwa hg4 B0
  go_enter Tryz.func40, Tryz.ntmps40
  go_upto_region 1 with fail
  rw [← HWA.out, ← HG4.out]
  go_quiet (fail)
  have R0 : Hid (RPx B b m S (.slice (some ⟨g, 0, none⟩) n cap) vo ns (wa.drewN nq)) := R0.out.drewN nq
  have P0 : Hid (Blk (wa.drewN nq) g4 59 #[.int .i64 (i : Int), .int .i64 (kl : Int)]) := P0.out
  have L0 : Hid (Left B w (wa.drewN nq)) := L0.out.trans (Left.of_below (below_drewN (Below.refl _ _) nq) (by have := R0.out.bw; exact this))
  clear c0 c4 HWA
  generalize wa.drewN nq = wb at R0 P0 L0 ⊢
  clear nq
  go_upto_region 2 with fail
  have R0 : Hid (RPx B b m S (.slice (some ⟨g, 0, none⟩) n cap) vo ns (World.drew wb)) := R0.out.drewN 1
  have P0 : Hid (Blk (World.drew wb) g4 59 #[.int .i64 (i : Int), .int .i64 (kl : Int)]) := P0.out
  have L0 : Hid (Left B w (World.drew wb)) := L0.out.trans (Left.of_below (below_drewN (Below.refl _ _) 1) (by have := R0.out.bw; exact this))
  have k5 : Hid (∀ W, RPx B b m S (.slice (some ⟨g, 0, none⟩) n cap) vo ns W → W.cell? ⟨g, i * 6 + 5, none⟩ = some (.slice kA kl kc)) := fun W hW => by rw [HKA.out, HKC.out, ← HXK.out, HX.out]; exact hW.tree.cell HI.out rfl
  have hS0 : (fun w' : World => w'.cell? ⟨g, i * 6 + 5, none⟩ = some (.slice kA kl kc) ∧ w'.cell? ⟨g4, 1, none⟩ = some (.int .i64 (kl : Int))) (World.drew wb) := ⟨k5.out _ R0.out, P0.out.cell 1⟩
  refine wp_region_noPanic ?_
  refine region_M (S := fun w' => w'.cell? ⟨g, i * 6 + 5, none⟩ = some (.slice kA kl kc) ∧ w'.cell? ⟨g4, 1, none⟩ = some (.int .i64 (kl : Int))) (T := [12]) (by kernel_rfl) ?_
  generalize World.drew wb = wf at R0 P0 L0 hS0 ⊢
  refine anyM_free (i := 0) (oi := { dst := some 14, op := _, type := _, pos := _, after := _, guard := _ }) (v := ?_) rfl (by kernel_rfl) (fun _ _ _ h => h) (Or.inl ⟨by kernel_rfl, ?_⟩) (fun _ => hS0) ?_
  rotate_left 1
  · (intro w hSw; (try dsimp only at hSw); go_simp; try with_reducible rfl)
  try simp only [Act.put, Array.toArray_toList, List.setIfInBounds_toArray, List.set_cons_zero, List.set_cons_succ]
  refine anyM_free (i := 1) (oi := { dst := some 15, op := _, type := _, pos := _, after := _, guard := _ }) (v := ?_) rfl (by kernel_rfl) (fun _ _ _ h => h) (Or.inl ⟨by kernel_rfl, ?_⟩) (fun _ => hS0) ?_
  rotate_left 1
  · (intro w hSw; (try dsimp only at hSw); go_simp; try with_reducible rfl)
  try simp only [Act.put, Array.toArray_toList, List.setIfInBounds_toArray, List.set_cons_zero, List.set_cons_succ]
  refine anyM_free (i := 2) (oi := { dst := some 16, op := _, type := _, pos := _, after := _, guard := _ }) (v := ?_) rfl (by kernel_rfl) (fun _ _ _ h => h) (Or.inl ⟨by kernel_rfl, ?_⟩) (fun _ => hS0) ?_
  rotate_left 1
  · (intro w hSw; (try dsimp only at hSw); go_simp; try with_reducible rfl)
  try simp only [Act.put, Array.toArray_toList, List.setIfInBounds_toArray, List.set_cons_zero, List.set_cons_succ]
  refine anyM_free (i := 3) (oi := { dst := some 17, op := _, type := _, pos := _, after := _, guard := _ }) (v := ?_) rfl (by kernel_rfl) (fun _ _ _ h => h) (Or.inl ⟨by kernel_rfl, ?_⟩) (fun _ => hS0) ?_
  rotate_left 1
  · (intro w hSw; (try dsimp only at hSw); go_simp; try with_reducible rfl)
  try simp only [Act.put, Array.toArray_toList, List.setIfInBounds_toArray, List.set_cons_zero, List.set_cons_succ]
  refine anyM_take (i := 4) (oi := { dst := some 18, op := _, type := _, pos := _, after := _, guard := _ }) (v := ?_) rfl (by kernel_rfl) (fun _ _ _ h => h) (Or.inl ⟨by kernel_rfl, ?_⟩) hS0 ?_
  rotate_left 1
  · (intro w hSw; (try dsimp only at hSw); go_simp; try with_reducible rfl)
  try simp only [Act.put, Array.toArray_toList, List.setIfInBounds_toArray, List.set_cons_zero, List.set_cons_succ]
  refine anyM_free (i := 5) (oi := { dst := some 19, op := _, type := _, pos := _, after := _, guard := _ }) (v := ?_) rfl (by kernel_rfl) (fun _ _ _ h => h) (Or.inl ⟨by kernel_rfl, ?_⟩) (fun _ => hS0) ?_
  rotate_left 1
  · (intro w hSw; (try dsimp only at hSw); go_simp; try with_reducible rfl)
  try simp only [Act.put, Array.toArray_toList, List.setIfInBounds_toArray, List.set_cons_zero, List.set_cons_succ]
  refine anyM_take (i := 6) (oi := { dst := some 20, op := _, type := _, pos := _, after := _, guard := _ }) (v := ?_) rfl (by kernel_rfl) (fun _ _ _ h => h) (Or.inl ⟨by kernel_rfl, ?_⟩) hS0 ?_
  rotate_left 1
  · (intro w hSw; (try dsimp only at hSw); go_simp; try with_reducible rfl)
  try simp only [Act.put, Array.toArray_toList, List.setIfInBounds_toArray, List.set_cons_zero, List.set_cons_succ]
  refine anyM_free (i := 7) (oi := { dst := some 21, op := _, type := _, pos := _, after := _, guard := _ }) (v := ?_) rfl (by kernel_rfl) (fun _ _ _ h => h) (Or.inl ⟨by kernel_rfl, ?_⟩) (fun _ => hS0) ?_
  rotate_left 1
  · (intro w hSw; (try dsimp only at hSw); go_simp; try with_reducible rfl)
  try simp only [Act.put, Array.toArray_toList, List.setIfInBounds_toArray, List.set_cons_zero, List.set_cons_succ]
  refine anyM_one (i := 8) (by kernel_rfl) rfl (fun K hK => ?_)
  go_simp
  have hbx := below_alloc (Below.refl wf.heap.size wf) (.cells #[.int .i64 (k : Int)] 3)
  have HNI := Lib.hid (Blk.new wf 3 #[.int .i64 (k : Int)])
  have R1 := Lib.hid (R0.out.below hbx)
  have P1 := Lib.hid (P0.out.below hbx P0.out.lt)
  have L1 := Lib.hid (L0.out.trans (Left.of_below hbx R0.out.bw))
  have hko := R1.out.tree.kids X HM.out
  unfold kidsV at hko
  rw [HXK.out, ← HKA.out, ← HKC.out] at hko
  have HKO := Lib.hid hko
  have hS0 : (fun w' : World => w'.cell? ⟨g, i * 6 + 5, none⟩ = some (.slice kA kl kc) ∧ w'.cell? ⟨g4, 1, none⟩ = some (.int .i64 (kl : Int))) (wf.alloc (.cells #[.int .i64 (k : Int)] 3)) := ⟨k5.out _ R1.out, P1.out.cell 1⟩
  clear hbx hko
  refine hK.out _ _ (fun _ => hS0) ?_
  clear hK K
  try simp only [Act.put, Array.toArray_toList, List.setIfInBounds_toArray, List.set_cons_zero, List.set_cons_succ]
  refine anyM_one (i := 9) (by kernel_rfl) rfl (fun K hK => ?_)
  go_simp
  refine (insEnd_calls B _ kl kc kA X.kids (k : Int) _ HKO.out HNI.out hkl R1.out.bw).mono ?_
  rintro e w9 ⟨A9, c9, rfl, ho9, hg9, hat9⟩
  have HK := Lib.hid (R1.out.kid (S' := { S with ns := S.ns.modify i fun x => { x with kids := x.kids ++ [(k : Int)] } }) HN.out.symm HI.out HX.out.symm HXK.out HKA.out.symm HKC.out.symm ho9 hg9 hat9 rfl)
  have P2 := Lib.hid (blk_grown P1.out hg9 (blk_ne P1.out HKO.out (by decide)))
  have m8 : w9.cell? ⟨g, i * 6 + 5, none⟩ = some (.slice kA kl kc) := HK.out.2.2.2.1
  have f8 : w9.frozen? ⟨g, i * 6 + 5, none⟩ = false := HK.out.2.2.2.2
  have hS0 : (fun w' : World => w'.cell? ⟨g, i * 6 + 5, none⟩ = some (.slice kA kl kc) ∧ w'.cell? ⟨g4, 1, none⟩ = some (.int .i64 (kl : Int))) w9 := ⟨m8, P2.out.cell 1⟩
  clear ho9 hg9 hat9
  refine hK.out _ _ (fun _ => hS0) ?_
  clear hK K
  try simp only [Act.put, Array.toArray_toList, List.setIfInBounds_toArray, List.set_cons_zero, List.set_cons_succ]
  refine anyM_free (i := 10) (oi := { dst := some 24, op := _, type := _, pos := _, after := _, guard := _ }) (v := ?_) rfl (by kernel_rfl) (fun _ _ _ h => h) (Or.inl ⟨by kernel_rfl, ?_⟩) (fun _ => hS0) ?_
  rotate_left 1
  · (intro w hSw; (try dsimp only at hSw); go_simp; try with_reducible rfl)
  try simp only [Act.put, Array.toArray_toList, List.setIfInBounds_toArray, List.set_cons_zero, List.set_cons_succ]
  refine anyM_free (i := 11) (oi := { dst := some 25, op := _, type := _, pos := _, after := _, guard := _ }) (v := ?_) rfl (by kernel_rfl) (fun _ _ _ h => h) (Or.inl ⟨by kernel_rfl, ?_⟩) (fun _ => hS0) ?_
  rotate_left 1
  · (intro w hSw; (try dsimp only at hSw); go_simp; try with_reducible rfl)
  try simp only [Act.put, Array.toArray_toList, List.setIfInBounds_toArray, List.set_cons_zero, List.set_cons_succ]
  refine anyM_one (i := 12) (by kernel_rfl) rfl (fun K hK => ?_)
  go_simp
  skip
  refine hK.out _ _ (fun h => late_no h (by kernel_rfl)) ?_
  clear hK K
  try simp only [Act.put, Array.toArray_toList, List.setIfInBounds_toArray, List.set_cons_zero, List.set_cons_succ]
  refine anyM_done (by kernel_rfl) ?_ _
  refine NoPanic.normal ?_
  clear hS0 m8 f8
  have hgg : g4 ≠ g := fun e => by
    have h1 := R0.out.tree.own
    exact blk_ne P0.out h1 (by decide) (by rw [e]; rfl)
  have R2 := Lib.hid HK.out.1
  have P3 := Lib.hid (P2.out.far hgg (i := i * 6 + 5) (.slice A9 (kl + 1) c9))
  have L2 := Lib.hid (L1.out.trans HK.out.2.1)
  obtain ⟨ns2, hns2⟩ : ∃ ns2, ns2 = ns.set i { X with kids := X.kids ++ [(k : Int)], kidsA := A9, kcap := c9 } := ⟨_, rfl⟩
  have HN2 : Hid (ns2.length = n) := by show _ = _; rw [hns2, List.length_set]; exact HN.out.symm
  rw [← hns2] at R2
  generalize w9.setCell ⟨g, i * 6 + 5, none⟩ (.slice A9 (kl + 1) c9) = wg at R2 P3 L2 ⊢
  clear HK P2 HKO R1 P1 L1 HNI R0 P0 L0 k5 hns2
  go_upto_region 3 with fail
  have R2 : Hid (RPx B b m _ (.slice (some ⟨g, 0, none⟩) n cap) vo ns2 (World.drew wg)) := R2.out.drewN 1
  have P3 : Hid (Blk (World.drew wg) g4 59 #[.int .i64 (i : Int), .int .i64 (kl : Int)]) := P3.out
  have L2 : Hid (Left B w (World.drew wg)) := L2.out.trans (Left.of_below (below_drewN (Below.refl _ _) 1) (by have := R2.out.bw; exact this))
  have hS0 : (fun w' : World => w'.cell? ⟨b, 0, none⟩ = some (.slice (some ⟨g, 0, none⟩) n cap) ∧ w'.cell? ⟨g4, 0, none⟩ = some (.int .i64 (i : Int))) (World.drew wg) := ⟨R2.out.blk.cell 0, P3.out.cell 0⟩
  refine wp_region_noPanic ?_
  refine region_M (S := fun w' => w'.cell? ⟨b, 0, none⟩ = some (.slice (some ⟨g, 0, none⟩) n cap) ∧ w'.cell? ⟨g4, 0, none⟩ = some (.int .i64 (i : Int))) (T := [9]) (by kernel_rfl) ?_
  generalize World.drew wg = wh at R2 P3 L2 hS0 ⊢
  have mk : ∃ u, wh.cell? ⟨g, k * 6 + 4, none⟩ = some u := ⟨_, R2.out.tree.cell (i := k) (j := 4) (by rw [HN2.out]; exact hkn) rfl⟩
  obtain ⟨uk, mk⟩ := mk
  have fk : wh.frozen? ⟨g, k * 6 + 4, none⟩ = false := own_free (by have := R2.out.tree.own; rw [HN2.out] at this; exact this)
  refine anyM_free (i := 0) (oi := { dst := some 26, op := _, type := _, pos := _, after := _, guard := _ }) (v := ?_) rfl (by kernel_rfl) (fun _ _ _ h => h) (Or.inl ⟨by kernel_rfl, ?_⟩) (fun _ => hS0) ?_
  rotate_left 1
  · (intro w hSw; (try dsimp only at hSw); go_simp; try with_reducible rfl)
  try simp only [Act.put, Array.toArray_toList, List.setIfInBounds_toArray, List.set_cons_zero, List.set_cons_succ]
  refine anyM_free (i := 1) (oi := { dst := some 27, op := _, type := _, pos := _, after := _, guard := _ }) (v := ?_) rfl (by kernel_rfl) (fun _ _ _ h => h) (Or.inl ⟨by kernel_rfl, ?_⟩) (fun _ => hS0) ?_
  rotate_left 1
  · (intro w hSw; (try dsimp only at hSw); go_simp; try with_reducible rfl)
  try simp only [Act.put, Array.toArray_toList, List.setIfInBounds_toArray, List.set_cons_zero, List.set_cons_succ]
  refine anyM_free (i := 2) (oi := { dst := some 28, op := _, type := _, pos := _, after := _, guard := _ }) (v := ?_) rfl (by kernel_rfl) (fun _ _ _ h => h) (Or.inl ⟨by kernel_rfl, ?_⟩) (fun _ => hS0) ?_
  rotate_left 1
  · (intro w hSw; (try dsimp only at hSw); go_simp; try with_reducible rfl)
  try simp only [Act.put, Array.toArray_toList, List.setIfInBounds_toArray, List.set_cons_zero, List.set_cons_succ]
  refine anyM_take (i := 3) (oi := { dst := some 29, op := _, type := _, pos := _, after := _, guard := _ }) (v := ?_) rfl (by kernel_rfl) (fun _ _ _ h => h) (Or.inl ⟨by kernel_rfl, ?_⟩) hS0 ?_
  rotate_left 1
  · (intro w hSw; (try dsimp only at hSw); go_simp; try with_reducible rfl)
  try simp only [Act.put, Array.toArray_toList, List.setIfInBounds_toArray, List.set_cons_zero, List.set_cons_succ]
  refine anyM_free (i := 4) (oi := { dst := some 30, op := _, type := _, pos := _, after := _, guard := _ }) (v := ?_) rfl (by kernel_rfl) (fun _ _ _ h => h) (Or.inl ⟨by kernel_rfl, ?_⟩) (fun _ => hS0) ?_
  rotate_left 1
  · (intro w hSw; (try dsimp only at hSw); go_simp; try with_reducible rfl)
  try simp only [Act.put, Array.toArray_toList, List.setIfInBounds_toArray, List.set_cons_zero, List.set_cons_succ]
  refine anyM_free (i := 5) (oi := { dst := some 31, op := _, type := _, pos := _, after := _, guard := _ }) (v := ?_) rfl (by kernel_rfl) (fun _ _ _ h => h) (Or.inl ⟨by kernel_rfl, ?_⟩) (fun _ => hS0) ?_
  rotate_left 1
  · (intro w hSw; (try dsimp only at hSw); go_simp; try with_reducible rfl)
  try simp only [Act.put, Array.toArray_toList, List.setIfInBounds_toArray, List.set_cons_zero, List.set_cons_succ]
  refine anyM_take (i := 6) (oi := { dst := some 32, op := _, type := _, pos := _, after := _, guard := _ }) (v := ?_) rfl (by kernel_rfl) (fun _ _ _ h => h) (Or.inl ⟨by kernel_rfl, ?_⟩) hS0 ?_
  rotate_left 1
  · (intro w hSw; (try dsimp only at hSw); go_simp; try with_reducible rfl)
  try simp only [Act.put, Array.toArray_toList, List.setIfInBounds_toArray, List.set_cons_zero, List.set_cons_succ]
  refine anyM_free (i := 7) (oi := { dst := some 33, op := _, type := _, pos := _, after := _, guard := _ }) (v := ?_) rfl (by kernel_rfl) (fun _ _ _ h => h) (Or.inl ⟨by kernel_rfl, ?_⟩) (fun _ => hS0) ?_
  rotate_left 1
  · (intro w hSw; (try dsimp only at hSw); go_simp; try with_reducible rfl)
  try simp only [Act.put, Array.toArray_toList, List.setIfInBounds_toArray, List.set_cons_zero, List.set_cons_succ]
  refine anyM_free (i := 8) (oi := { dst := some 34, op := _, type := _, pos := _, after := _, guard := _ }) (v := ?_) rfl (by kernel_rfl) (fun _ _ _ h => h) (Or.inl ⟨by kernel_rfl, ?_⟩) (fun _ => hS0) ?_
  rotate_left 1
  · (intro w hSw; (try dsimp only at hSw); go_simp; try with_reducible rfl)
  try simp only [Act.put, Array.toArray_toList, List.setIfInBounds_toArray, List.set_cons_zero, List.set_cons_succ]
  refine anyM_one (i := 9) (by kernel_rfl) rfl (fun K hK => ?_)
  go_simp
  skip
  refine hK.out _ _ (fun h => late_no h (by kernel_rfl)) ?_
  clear hK K
  try simp only [Act.put, Array.toArray_toList, List.setIfInBounds_toArray, List.set_cons_zero, List.set_cons_succ]
  refine anyM_done (by kernel_rfl) ?_ _
  refine NoPanic.normal ?_
  clear hS0 mk fk
  go_wp2_with fail
  go_end0
  obtain ⟨ns3, hR3, hL3⟩ := R2.out.par (S' := S.put i k) (i := i) (k := k) HN2.out (by rw [HN2.out]; exact hkn) rfl
  exact ⟨rfl, ⟨_, _, _, hR3⟩, L2.out.trans hL3⟩
end Go.Proofs.YtcghahfboccceaaGreatDoor
