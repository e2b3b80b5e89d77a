/- Several texts in one: BxPb. -/
import Derived.Test.YtkmmlcnoeeaekaaGreatDoorBoxesMakeM37
/- Contract of the program's box, case by case. -/
namespace Go.Proofs.YtkmmlcnoeeaekaaGreatDoor
open Go.RowKit
set_option linter.unusedVariables false
set_option linter.unusedSimpArgs false

/-- Within box: the maker's copy at g, the result's cell behind it, the tree's behind that. -/
structure BxM (I : BxV) (w0 : World) (g : Nat) (rs ts : Array Value) (w : World) : Prop where
  bel : Below w0.heap.size w0 w
  mkb : Blk w g 69 #[.slice I.A I.n I.c, .slice I.Al I.nl I.cl]
  res : Blk w (g + 1) 75 rs
  var : Blk w (g + 1 + 1) 75 ts
  lo : w0.heap.size ≤ g
  lr : rs.size = 6
  lt : ts.size = 6
section
variable {I : BxV} {w0 w w' : World} {g : Nat} {rs ts : Array Value}
theorem BxM.call (h : BxM I w0 g rs ts w) (hb : Below w.heap.size w w') : BxM I w0 g rs ts w' :=
  { h with bel := below_then h.bel hb, mkb := h.mkb.below hb h.mkb.lt, res := h.res.below hb h.res.lt, var := h.var.below hb h.var.lt }
theorem BxM.drew (h : BxM I w0 g rs ts w) : BxM I w0 g rs ts w.drew := h.call ⟨rfl, rfl, rfl, Nat.le_refl _, fun _ _ => rfl⟩
theorem BxM.alloc (h : BxM I w0 g rs ts w) (o : Obj) : BxM I w0 g rs ts (w.alloc o) := h.call (below_alloc (Below.refl _ _) o)
theorem BxM.put (h : BxM I w0 g rs ts w) (i : Nat) (u : Value) : BxM I w0 g rs (ts.setIfInBounds i u) (w.setCell ⟨g + 1 + 1, i, none⟩ u) :=
  { h with bel := below_set h.bel (by have := h.lo; omega) u, mkb := h.mkb.far (by omega) u, res := h.res.far (by omega) u, var := h.var.stored i u, lt := by simp [h.lt] }
theorem BxM.fin (h : BxM I w0 g rs ts w) (vals : Array Value) (hs : vals.size = 6) : w.there (g + 1) 0 vals.size ∧ ∃ w2, w.setCells (g + 1) 0 vals.toList = w2 ∧ BxM I w0 g vals ts w2 ∧ w.heap.size ≤ w2.heap.size ∧ ∀ b, b ≠ g + 1 → w2.heap[b]? = w.heap[b]? :=
  ⟨h.res.there _ (by rw [hs, h.lr]; exact Nat.le_refl _), _, rfl, { bel := below_setCells (by have := h.lo; omega) _ _ _ h.bel, mkb := h.mkb.farCells (by omega) _ _ _, res := h.res.setAll vals (by rw [hs, h.lr]), var := h.var.farCells (by omega) _ _ _, lo := h.lo, lr := hs, lt := h.lt }, setCells_size _ _ _ _, fun b hb => setCells_far hb _ _ _⟩
theorem BxM.gt (h : BxM I w0 g rs ts w) : g + 1 + 1 < w.heap.size := h.var.lt
theorem KidsAt.put {w1 : World} {ks : List TreeV} {A : Option Addr} {n : Nat} (h : KidsAt w (MadeQ w1 w) ks A n) (hg : g < w1.heap.size) (i : Nat) (u : Value) : KidsAt (w.setCell ⟨g, i, none⟩ u) (MadeQ w1 (w.setCell ⟨g, i, none⟩ u)) ks A n :=
  (h.far (fun b hq e => by have := hq.1; omega) i u).mono fun b hq => ⟨⟨hq.1, by simpa using hq.2⟩, rfl⟩
end
theorem bxM_new (I : BxV) (w : World) (ts : Array Value) (ht : ts.size = 6) : BxM I w w.heap.size #[.int .i64 0, .int .i64 0, .int .i64 0, .slice none 0 0, .string ⟨#[]⟩, .slice none 0 0] ts (((w.alloc (.cells #[.slice I.A I.n I.c, .slice I.Al I.nl I.cl] 69)).alloc (.cells #[.int .i64 0, .int .i64 0, .int .i64 0, .slice none 0 0, .string ⟨#[]⟩, .slice none 0 0] 75)).alloc (.cells ts 75)) where
  bel := below_alloc (below_alloc (below_alloc (Below.refl _ _) _) _) _
  mkb := ((Blk.new w _ _).alloc _).alloc _
  res := by
    have h := (Blk.new (w.alloc (.cells #[.slice I.A I.n I.c, .slice I.Al I.nl I.cl] 69)) 75 #[.int .i64 0, .int .i64 0, .int .i64 0, .slice none 0 0, .string ⟨#[]⟩, .slice none 0 0]).alloc (.cells ts 75)
    rw [alloc_size] at h
    exact h
  var := by
    have h := Blk.new ((w.alloc (.cells #[.slice I.A I.n I.c, .slice I.Al I.nl I.cl] 69)).alloc (.cells #[.int .i64 0, .int .i64 0, .int .i64 0, .slice none 0 0, .string ⟨#[]⟩, .slice none 0 0] 75)) 75 ts
    rw [alloc_size, alloc_size] at h
    exact h
  lo := Nat.le_refl _
  lr := rfl
  lt := ht
theorem node_six {I : BxV} {w0 : World} {B0 k : Nat} (h : I.ok w0 B0) (hk : k < I.n) : ∃ b off, I.A = some ⟨b, off, none⟩ ∧ ∀ (w' : World) (B' : Nat), I.ok w' B' → ∀ j, j < 6 → w'.cell? ⟨b, off + k * 6 + j, none⟩ = (nodeC (nd I.ns k))[j]? := by
  obtain ⟨b, off, hA, _⟩ := node_cells h hk
  refine ⟨b, off, hA, fun w' B' h' => ?_⟩
  obtain ⟨b2, off2, hA2, _, hc2, _⟩ := node_cells h' hk
  rw [hA] at hA2
  injection hA2 with hA2
  injection hA2 with e1 e2
  subst e1; subst e2
  exact hc2
set_option maxRecDepth 100000 in
set_option maxHeartbeats 8000000 in
theorem pboxText_calls (I : BxV) (hc : checkE I.ns = 0) (r k : Nat) (IH : DeepP I hc r) (w : World) (h : I.ok w w.heap.size) (hk : k < I.n) (hrk : rankN I.ns k ≤ r) (h3 : (nd I.ns k).kind = 3) :
    Calls Tryz.prog 65 #[mkA I, .int .i64 (k : Nat)] w (MadeT w (.mk 4 k ((docB I (docOk hc)).tx k) [])) := by
  have hkb : k ≤ 200 := by have := h.n0; omega
  obtain ⟨i1, i2, i3⟩ := IH.content h.hn hrk
  have hcl := content_len I hc k
  obtain ⟨b, off, hA, hnc⟩ := node_six h hk
  have HNC := Lib.hid (fun w' (hb : Below w.heap.size w w') => hnc w' _ (h.below hb (Nat.le_refl _)))
  have HS := Lib.hid (bxM_new I w #[.int .i64 4, .int .i64 (k : Nat), .int .i64 0, .slice none 0 0, .string ⟨#[]⟩, .slice none 0 0] rfl)
  have HIS := Lib.hid (fun w' (hb : Below w.heap.size w w') => is_calls I k w' ((h.below hb (Nat.le_refl _)).more hb.size) hk)
  have HCO := Lib.hid (fun w' (hb : Below w.heap.size w w') => content_says I hc k w' ((h.below hb (Nat.le_refl _)).more hb.size) hk)
  unfold ContSays at HCO
  have hnc0 : nodeC (nd I.ns k) = #[.int .i64 (nd I.ns k).kind, .string (nd I.ns k).name, .slice (nd I.ns k).attrsA (nd I.ns k).attrs.length (nd I.ns k).acap, .string (nd I.ns k).text, .int .i64 (nd I.ns k).parent, .slice (nd I.ns k).kidsA (nd I.ns k).kids.length (nd I.ns k).kcap] := rfl
  rw [hnc0] at HNC
  obtain ⟨bz, oz, bs, os, hAz, hAl, hnf⟩ := node_facts h hk
  clear hAz
  have hkl : k < I.nl := by rw [h.same]; exact hk
  have htx : (nd I.ns k).text.size ≤ 400 := text_le (docOk hc) (by rw [h.hn]; exact hk)
  have HST := Lib.hid (fun w' (hb : Below w.heap.size w w') => (hnf w' _ (h.below hb (Nat.le_refl _))).2.2 43 (by omega))
  have htt : (docB I (docOk hc)).tx k = turnS (stN (I.sty k) 43) (nd I.ns k).text := rfl
  have HTU := Lib.hid (fun w' => turn_calls (nd I.ns k).text (stN (I.sty k) 43) w' htx)
  rw [htt]
  generalize turnS (stN (I.sty k) 43) (nd I.ns k).text = tt at HTU ⊢
  generalize stN (I.sty k) 43 = md at HST HTU
  clear htt hnf
  generalize (nd I.ns k).kind = nk at HNC h3
  generalize (nd I.ns k).name = nm at HNC 
  generalize (nd I.ns k).attrsA = aA at HNC
  generalize (nd I.ns k).attrs.length = an at HNC
  generalize (nd I.ns k).acap = ac at HNC
  generalize (nd I.ns k).text = tx at HNC HTU htx
  generalize (nd I.ns k).parent = pa at HNC
  generalize (nd I.ns k).kidsA = kA at HNC
  generalize (nd I.ns k).kids.length = kn at HNC
  generalize (nd I.ns k).kcap = kc at HNC
  have HA := Lib.hid hA
  have HAL := Lib.hid hAl
  have p3 : (nk == 3) = true := by simp [h3]
  clear hAl htx h hrk IH i1 i2 i3 hcl h3
  clear hnc0 hnc hA
  unfold mkA at HIS HCO ⊢
  go_enter Tryz.func65, Tryz.ntmps65
  go_upto_region 2 with fail
  generalize World.alloc (World.alloc (World.alloc w _) _) _ = w1 at HS ⊢
  generalize hg : w.heap.size = g at HS ⊢
  have HG := Lib.hid hg
  clear hg
  have m0 : w1.cell? ⟨g, 0, none⟩ = some (.slice (some ⟨b, off, none⟩) I.n I.c) := by rw [← HA.out]; exact HS.out.mkb.cell 0
  have n0 : w1.cell? ⟨b, off + k * 6, none⟩ = some (.int .i64 nk) := HNC.out w1 HS.out.bel 0 (by omega)
  have n1 : w1.cell? ⟨b, off + k * 6 + 1, none⟩ = some (.string nm) := HNC.out w1 HS.out.bel 1 (by omega)
  have n2 : w1.cell? ⟨b, off + k * 6 + 2, none⟩ = some (.slice aA an ac) := HNC.out w1 HS.out.bel 2 (by omega)
  have n3 : w1.cell? ⟨b, off + k * 6 + 3, none⟩ = some (.string tx) := HNC.out w1 HS.out.bel 3 (by omega)
  have n4 : w1.cell? ⟨b, off + k * 6 + 4, none⟩ = some (.int .i64 pa) := HNC.out w1 HS.out.bel 4 (by omega)
  have n5 : w1.cell? ⟨b, off + k * 6 + 5, none⟩ = some (.slice kA kn kc) := HNC.out w1 HS.out.bel 5 (by omega)
  have HV := Lib.hid (Blk.new w1 117 #[.int .i64 nk, .string nm, .slice aA an ac, .string tx, .int .i64 pa, .slice kA kn kc])
  replace HS := Lib.hid (HS.out.alloc (.cells #[.int .i64 nk, .string nm, .slice aA an ac, .string tx, .int .i64 pa, .slice kA kn kc] 117))
  go_upto_region 3 with fail
  generalize World.alloc w1 _ = w2 at HS HV ⊢
  generalize w1.heap.size = gv at HV ⊢
  clear m0 n0 n1 n2 n3 n4 n5 HNC
  have v0 : w2.cell? ⟨gv, 0, none⟩ = some (.int .i64 nk) := HV.out.cell 0
  have m0 : w2.cell? ⟨g, 0, none⟩ = some (.slice I.A I.n I.c) := HS.out.mkb.cell 0
  have m1 : w2.cell? ⟨g, 1, none⟩ = some (.slice I.Al I.nl I.cl) := HS.out.mkb.cell 1
  go_upto_region 4 with fail
  replace HS := Lib.hid HS.out.drew
  have HVD : Hid (Blk (World.drew w2) gv 117 #[.int .i64 nk, .string nm, .slice aA an ac, .string tx, .int .i64 pa, .slice kA kn kc]) := HV.out
  have hS0 : (fun w' : World => w'.cell? ⟨gv, 3, none⟩ = some (.string tx) ∧ w'.cell? ⟨g, 1, none⟩ = some (.slice (some ⟨bs, os, none⟩) I.nl I.cl) ∧ w'.cell? ⟨bs, os + k * 118 + 86 + 1, none⟩ = some (.int .i64 md)) (World.drew w2) := ⟨HVD.out.cell 3, by show _ = _; rw [← HAL.out]; exact HS.out.mkb.cell 1, HST.out _ HS.out.bel⟩
  clear v0 m0 m1 HV
  refine wp_region_noPanic ?_
  refine region_M (S := fun w' => w'.cell? ⟨gv, 3, none⟩ = some (.string tx) ∧ w'.cell? ⟨g, 1, none⟩ = some (.slice (some ⟨bs, os, none⟩) I.nl I.cl) ∧ w'.cell? ⟨bs, os + k * 118 + 86 + 1, none⟩ = some (.int .i64 md)) (T := [12]) (by kernel_rfl) ?_
  generalize World.drew w2 = wd at HS HVD hS0 ⊢
  refine anyM_free (i := 0) (oi := { dst := some 21, op := _, type := _, pos := _, after := _, guard := _ }) (v := ?_) rfl (by kernel_rfl) (fun _ _ _ h => h) (Or.inl ⟨by kernel_rfl, ?_⟩) (fun _ => hS0) ?_
  rotate_left 1
  · (intro w hSw; (try dsimp only at hSw); go_simp; try with_reducible rfl)
  try simp only [Act.put, Array.toArray_toList, List.setIfInBounds_toArray, List.set_cons_zero, List.set_cons_succ]
  refine anyM_take (i := 1) (oi := { dst := some 22, op := _, type := _, pos := _, after := _, guard := _ }) (v := ?_) rfl (by kernel_rfl) (fun _ _ _ h => h) (Or.inl ⟨by kernel_rfl, ?_⟩) hS0 ?_
  rotate_left 1
  · (intro w hSw; (try dsimp only at hSw); go_simp; try with_reducible rfl)
  try simp only [Act.put, Array.toArray_toList, List.setIfInBounds_toArray, List.set_cons_zero, List.set_cons_succ]
  refine anyM_free (i := 2) (oi := { dst := some 23, op := _, type := _, pos := _, after := _, guard := _ }) (v := ?_) rfl (by kernel_rfl) (fun _ _ _ h => h) (Or.inl ⟨by kernel_rfl, ?_⟩) (fun _ => hS0) ?_
  rotate_left 1
  · (intro w hSw; (try dsimp only at hSw); go_simp; try with_reducible rfl)
  try simp only [Act.put, Array.toArray_toList, List.setIfInBounds_toArray, List.set_cons_zero, List.set_cons_succ]
  refine anyM_take (i := 3) (oi := { dst := some 24, op := _, type := _, pos := _, after := _, guard := _ }) (v := ?_) rfl (by kernel_rfl) (fun _ _ _ h => h) (Or.inl ⟨by kernel_rfl, ?_⟩) hS0 ?_
  rotate_left 1
  · (intro w hSw; (try dsimp only at hSw); go_simp; try with_reducible rfl)
  try simp only [Act.put, Array.toArray_toList, List.setIfInBounds_toArray, List.set_cons_zero, List.set_cons_succ]
  refine anyM_free (i := 4) (oi := { dst := some 25, op := _, type := _, pos := _, after := _, guard := _ }) (v := ?_) rfl (by kernel_rfl) (fun _ _ _ h => h) (Or.inl ⟨by kernel_rfl, ?_⟩) (fun _ => hS0) ?_
  rotate_left 1
  · (intro w hSw; (try dsimp only at hSw); go_simp; try with_reducible rfl)
  try simp only [Act.put, Array.toArray_toList, List.setIfInBounds_toArray, List.set_cons_zero, List.set_cons_succ]
  refine anyM_free (i := 5) (oi := { dst := some 26, op := _, type := _, pos := _, after := _, guard := _ }) (v := ?_) rfl (by kernel_rfl) (fun _ _ _ h => h) (Or.inl ⟨by kernel_rfl, ?_⟩) (fun _ => hS0) ?_
  rotate_left 1
  · (intro w hSw; (try dsimp only at hSw); go_simp; try with_reducible rfl)
  try simp only [Act.put, Array.toArray_toList, List.setIfInBounds_toArray, List.set_cons_zero, List.set_cons_succ]
  refine anyM_free (i := 6) (oi := { dst := some 27, op := _, type := _, pos := _, after := _, guard := _ }) (v := ?_) rfl (by kernel_rfl) (fun _ _ _ h => h) (Or.inl ⟨by kernel_rfl, ?_⟩) (fun _ => hS0) ?_
  rotate_left 1
  · (intro w hSw; (try dsimp only at hSw); go_simp; try with_reducible rfl)
  try simp only [Act.put, Array.toArray_toList, List.setIfInBounds_toArray, List.set_cons_zero, List.set_cons_succ]
  refine anyM_free (i := 7) (oi := { dst := some 28, op := _, type := _, pos := _, after := _, guard := _ }) (v := ?_) rfl (by kernel_rfl) (fun _ _ _ h => h) (Or.inl ⟨by kernel_rfl, ?_⟩) (fun _ => hS0) ?_
  rotate_left 1
  · (intro w hSw; (try dsimp only at hSw); go_simp; try with_reducible rfl)
  try simp only [Act.put, Array.toArray_toList, List.setIfInBounds_toArray, List.set_cons_zero, List.set_cons_succ]
  refine anyM_take (i := 8) (oi := { dst := some 29, op := _, type := _, pos := _, after := _, guard := _ }) (v := ?_) rfl (by kernel_rfl) (fun _ _ _ h => h) (Or.inl ⟨by kernel_rfl, ?_⟩) hS0 ?_
  rotate_left 1
  · (intro w hSw; (try dsimp only at hSw); go_simp; try with_reducible rfl)
  try simp only [Act.put, Array.toArray_toList, List.setIfInBounds_toArray, List.set_cons_zero, List.set_cons_succ]
  refine anyM_one (i := 9) (by kernel_rfl) rfl (fun K hK => ?_)
  go_simp
  refine Calls.mono (HTU.out _) ?_
  rintro e wt ⟨rfl, hbt⟩
  replace HS := Lib.hid (HS.out.call hbt)
  replace HVD := Lib.hid (HVD.out.below hbt HVD.out.lt)
  clear hbt
  have hS0 : (fun w' : World => w'.cell? ⟨gv, 3, none⟩ = some (.string tx) ∧ w'.cell? ⟨g, 1, none⟩ = some (.slice (some ⟨bs, os, none⟩) I.nl I.cl) ∧ w'.cell? ⟨bs, os + k * 118 + 86 + 1, none⟩ = some (.int .i64 md)) wt := ⟨HVD.out.cell 3, by show _ = _; rw [← HAL.out]; exact HS.out.mkb.cell 1, HST.out _ HS.out.bel⟩
  refine hK.out _ _ (fun _ => hS0) ?_
  clear hK K
  try simp only [Act.put, Array.toArray_toList, List.setIfInBounds_toArray, List.set_cons_zero, List.set_cons_succ]
  refine anyM_free (i := 10) (oi := { dst := some 31, op := _, type := _, pos := _, after := _, guard := _ }) (v := ?_) rfl (by kernel_rfl) (fun _ _ _ h => h) (Or.inl ⟨by kernel_rfl, ?_⟩) (fun _ => hS0) ?_
  rotate_left 1
  · (intro w hSw; (try dsimp only at hSw); go_simp; try with_reducible rfl)
  try simp only [Act.put, Array.toArray_toList, List.setIfInBounds_toArray, List.set_cons_zero, List.set_cons_succ]
  refine anyM_free (i := 11) (oi := { dst := some 32, op := _, type := _, pos := _, after := _, guard := _ }) (v := ?_) rfl (by kernel_rfl) (fun _ _ _ h => h) (Or.inl ⟨by kernel_rfl, ?_⟩) (fun _ => hS0) ?_
  rotate_left 1
  · (intro w hSw; (try dsimp only at hSw); go_simp; try with_reducible rfl)
  try simp only [Act.put, Array.toArray_toList, List.setIfInBounds_toArray, List.set_cons_zero, List.set_cons_succ]
  refine anyM_one (i := 12) (by kernel_rfl) rfl (fun K hK => ?_)
  have yc : World.cell? _ ⟨g + 1 + 1, 4, none⟩ = some (.string ⟨#[]⟩) := HS.out.var.cell 4
  have yf : World.frozen? _ ⟨g + 1 + 1, 4, none⟩ = false := HS.out.var.free 4
  go_simp
  replace HS := Lib.hid (show BxM I w g _ #[.int .i64 4, .int .i64 (k : Nat), .int .i64 0, .slice none 0 0, .string tt, .slice none 0 0] _ from HS.out.put 4 (.string tt))
  clear yc yf
  generalize World.setCell _ _ _ = ws at HS  ⊢
  refine hK.out _ _ (fun h => late_no h (by kernel_rfl)) ?_
  clear hK K
  try simp only [Act.put, Array.toArray_toList, List.setIfInBounds_toArray, List.set_cons_zero, List.set_cons_succ]
  refine anyM_done (by kernel_rfl) ?_ _
  refine NoPanic.normal ?_
  clear hS0
  have t0 : ws.cell? ⟨g + 1 + 1, 0, none⟩ = some (.int .i64 4) := HS.out.var.cell 0
  have t1 : ws.cell? ⟨g + 1 + 1, 1, none⟩ = some (.int .i64 (k : Nat)) := HS.out.var.cell 1
  have t2 : ws.cell? ⟨g + 1 + 1, 2, none⟩ = some (.int .i64 0) := HS.out.var.cell 2
  have t3 : ws.cell? ⟨g + 1 + 1, 3, none⟩ = some (.slice none 0 0) := HS.out.var.cell 3
  have t4 : ws.cell? ⟨g + 1 + 1, 4, none⟩ = some (.string tt) := HS.out.var.cell 4
  have t5 : ws.cell? ⟨g + 1 + 1, 5, none⟩ = some (.slice none 0 0) := HS.out.var.cell 5
  go_wp2_with (refine wpList_store_mid rfl _ _ _ rfl (g + 1) 0 #[.int .i64 4, .int .i64 (k : Nat), .int .i64 0, .slice none 0 0, .string tt, .slice none 0 0] rfl rfl (HS.out.fin _ rfl).1 (by kernel_rfl) (by kernel_rfl) ?_; obtain ⟨w9, hw9, hr9, hz9⟩ := (HS.out.fin #[.int .i64 4, .int .i64 (k : Nat), .int .i64 0, .slice none 0 0, .string tt, .slice none 0 0] rfl).2; rw [hw9]; clear hw9; have HS9 := Lib.hid hr9; have HZ9 := Lib.hid hz9; clear hr9 hz9)
  exact bodyPost_ret (ret_tree Tryz.results65 _ _ (g + 1) _ rfl HS9.out.res rfl) rfl ⟨_, _, _, rfl, ⟨rfl, .inl rfl⟩, HS9.out.bel⟩
set_option maxRecDepth 100000 in
set_option maxHeartbeats 8000000 in
theorem pboxBr_calls (I : BxV) (hc : checkE I.ns = 0) (r k : Nat) (IH : DeepP I hc r) (w : World) (h : I.ok w w.heap.size) (hk : k < I.n) (hrk : rankN I.ns k ≤ r) (h3 : ¬ (nd I.ns k).kind = 3) (hbr : (nd I.ns k).name = brS) (his : isS (I.sty k) = 1) :
    Calls Tryz.prog 65 #[mkA I, .int .i64 (k : Nat)] w (MadeT w (.mk 4 k nlS [])) := by
  have hkb : k ≤ 200 := by have := h.n0; omega
  obtain ⟨i1, i2, i3⟩ := IH.content h.hn hrk
  have hcl := content_len I hc k
  obtain ⟨b, off, hA, hnc⟩ := node_six h hk
  have HNC := Lib.hid (fun w' (hb : Below w.heap.size w w') => hnc w' _ (h.below hb (Nat.le_refl _)))
  have HS := Lib.hid (bxM_new I w #[.int .i64 4, .int .i64 (k : Nat), .int .i64 0, .slice none 0 0, .string ⟨#[]⟩, .slice none 0 0] rfl)
  have HIS := Lib.hid (fun w' (hb : Below w.heap.size w w') => is_calls I k w' ((h.below hb (Nat.le_refl _)).more hb.size) hk)
  have HCO := Lib.hid (fun w' (hb : Below w.heap.size w w') => content_says I hc k w' ((h.below hb (Nat.le_refl _)).more hb.size) hk)
  unfold ContSays at HCO
  have hnc0 : nodeC (nd I.ns k) = #[.int .i64 (nd I.ns k).kind, .string (nd I.ns k).name, .slice (nd I.ns k).attrsA (nd I.ns k).attrs.length (nd I.ns k).acap, .string (nd I.ns k).text, .int .i64 (nd I.ns k).parent, .slice (nd I.ns k).kidsA (nd I.ns k).kids.length (nd I.ns k).kcap] := rfl
  rw [hnc0] at HNC
  have pb : ((nd I.ns k).name.toList == [98, 114]) = true := by rw [← eBR, str_eqD]; exact decide_eq_true hbr
  rw [his] at HIS
  clear hbr his
  generalize (nd I.ns k).kind = nk at HNC h3
  generalize (nd I.ns k).name = nm at HNC pb
  generalize (nd I.ns k).attrsA = aA at HNC
  generalize (nd I.ns k).attrs.length = an at HNC
  generalize (nd I.ns k).acap = ac at HNC
  generalize (nd I.ns k).text = tx at HNC 
  generalize (nd I.ns k).parent = pa at HNC
  generalize (nd I.ns k).kidsA = kA at HNC
  generalize (nd I.ns k).kids.length = kn at HNC
  generalize (nd I.ns k).kcap = kc at HNC
  have HA := Lib.hid hA
  clear h hrk IH i1 i2 i3 hcl
  clear hnc0 hnc hA
  unfold mkA at HIS HCO ⊢
  go_enter Tryz.func65, Tryz.ntmps65
  go_upto_region 2 with fail
  generalize World.alloc (World.alloc (World.alloc w _) _) _ = w1 at HS ⊢
  generalize hg : w.heap.size = g at HS ⊢
  have HG := Lib.hid hg
  clear hg
  have m0 : w1.cell? ⟨g, 0, none⟩ = some (.slice (some ⟨b, off, none⟩) I.n I.c) := by rw [← HA.out]; exact HS.out.mkb.cell 0
  have n0 : w1.cell? ⟨b, off + k * 6, none⟩ = some (.int .i64 nk) := HNC.out w1 HS.out.bel 0 (by omega)
  have n1 : w1.cell? ⟨b, off + k * 6 + 1, none⟩ = some (.string nm) := HNC.out w1 HS.out.bel 1 (by omega)
  have n2 : w1.cell? ⟨b, off + k * 6 + 2, none⟩ = some (.slice aA an ac) := HNC.out w1 HS.out.bel 2 (by omega)
  have n3 : w1.cell? ⟨b, off + k * 6 + 3, none⟩ = some (.string tx) := HNC.out w1 HS.out.bel 3 (by omega)
  have n4 : w1.cell? ⟨b, off + k * 6 + 4, none⟩ = some (.int .i64 pa) := HNC.out w1 HS.out.bel 4 (by omega)
  have n5 : w1.cell? ⟨b, off + k * 6 + 5, none⟩ = some (.slice kA kn kc) := HNC.out w1 HS.out.bel 5 (by omega)
  have HV := Lib.hid (Blk.new w1 117 #[.int .i64 nk, .string nm, .slice aA an ac, .string tx, .int .i64 pa, .slice kA kn kc])
  replace HS := Lib.hid (HS.out.alloc (.cells #[.int .i64 nk, .string nm, .slice aA an ac, .string tx, .int .i64 pa, .slice kA kn kc] 117))
  go_upto_region 3 with fail
  generalize World.alloc w1 _ = w2 at HS HV ⊢
  generalize w1.heap.size = gv at HV ⊢
  clear m0 n0 n1 n2 n3 n4 n5 HNC
  have v0 : w2.cell? ⟨gv, 0, none⟩ = some (.int .i64 nk) := HV.out.cell 0
  have m0 : w2.cell? ⟨g, 0, none⟩ = some (.slice I.A I.n I.c) := HS.out.mkb.cell 0
  have m1 : w2.cell? ⟨g, 1, none⟩ = some (.slice I.Al I.nl I.cl) := HS.out.mkb.cell 1
  have p3 : (nk == 3) = false := by simp [h3]
  clear h3
  go_upto_region 9 with (go_at_call 66; refine (HIS.out _ HS.out.bel).mono ?_; rintro e wi ⟨rfl, hbi⟩; replace HS := Lib.hid (HS.out.call hbi); replace HV := Lib.hid (HV.out.below hbi HV.out.lt); have u1 : wi.cell? ⟨gv, 1, none⟩ = some (.string nm) := HV.out.cell 1; have a0 : wi.cell? ⟨g, 0, none⟩ = some (.slice I.A I.n I.c) := HS.out.mkb.cell 0; have a1 : wi.cell? ⟨g, 1, none⟩ = some (.slice I.Al I.nl I.cl) := HS.out.mkb.cell 1; have y4 : wi.cell? ⟨g + 1 + 1, 4, none⟩ = some (.string ⟨#[]⟩) := HS.out.var.cell 4; have f4 : wi.frozen? ⟨g + 1 + 1, 4, none⟩ = false := HS.out.var.free 4; clear hbi)
  replace HS := Lib.hid (show BxM I w g _ #[.int .i64 4, .int .i64 (k : Nat), .int .i64 0, .slice none 0 0, .string ⟨#[10]⟩, .slice none 0 0] _ from HS.out.put 4 (.string ⟨#[10]⟩))
  clear y4 f4 u1 a0 a1
  generalize World.setCell wi _ _ = ws at HS ⊢
  have t0 : ws.cell? ⟨g + 1 + 1, 0, none⟩ = some (.int .i64 4) := HS.out.var.cell 0
  have t1 : ws.cell? ⟨g + 1 + 1, 1, none⟩ = some (.int .i64 (k : Nat)) := HS.out.var.cell 1
  have t2 : ws.cell? ⟨g + 1 + 1, 2, none⟩ = some (.int .i64 0) := HS.out.var.cell 2
  have t3 : ws.cell? ⟨g + 1 + 1, 3, none⟩ = some (.slice none 0 0) := HS.out.var.cell 3
  have t4 : ws.cell? ⟨g + 1 + 1, 4, none⟩ = some (.string ⟨#[10]⟩) := HS.out.var.cell 4
  have t5 : ws.cell? ⟨g + 1 + 1, 5, none⟩ = some (.slice none 0 0) := HS.out.var.cell 5
  go_wp2_with (refine wpList_store_mid rfl _ _ _ rfl (g + 1) 0 #[.int .i64 4, .int .i64 (k : Nat), .int .i64 0, .slice none 0 0, .string ⟨#[10]⟩, .slice none 0 0] rfl rfl (HS.out.fin _ rfl).1 (by kernel_rfl) (by kernel_rfl) ?_; obtain ⟨w9, hw9, hr9, hz9⟩ := (HS.out.fin #[.int .i64 4, .int .i64 (k : Nat), .int .i64 0, .slice none 0 0, .string ⟨#[10]⟩, .slice none 0 0] rfl).2; rw [hw9]; clear hw9; have HS9 := Lib.hid hr9; have HZ9 := Lib.hid hz9; clear hr9 hz9)
  exact bodyPost_ret (ret_tree Tryz.results65 _ _ (g + 1) _ rfl HS9.out.res rfl) rfl ⟨_, _, _, rfl, ⟨rfl, .inl rfl⟩, HS9.out.bel⟩
set_option maxRecDepth 100000 in
set_option maxHeartbeats 8000000 in
theorem pboxInl_calls (I : BxV) (hc : checkE I.ns = 0) (r k : Nat) (IH : DeepP I hc r) (w : World) (h : I.ok w w.heap.size) (hk : k < I.n) (hrk : rankN I.ns k ≤ r) (h3 : ¬ (nd I.ns k).kind = 3) (hbr : ¬ ((nd I.ns k).name = brS ∧ isS (I.sty k) = 1)) (his : isS (I.sty k) = 1) (hany : (((docB I (docOk hc)).content k).map (docB I (docOk hc)).box).any ((docB I (docOk hc)).blockyT 1) = false) :
    Calls Tryz.prog 65 #[mkA I, .int .i64 (k : Nat)] w (MadeT w (.mk 3 k noS (((docB I (docOk hc)).content k).map (docB I (docOk hc)).box))) := by
  have hkb : k ≤ 200 := by have := h.n0; omega
  obtain ⟨i1, i2, i3⟩ := IH.content h.hn hrk
  have hcl := content_len I hc k
  obtain ⟨b, off, hA, hnc⟩ := node_six h hk
  have HNC := Lib.hid (fun w' (hb : Below w.heap.size w w') => hnc w' _ (h.below hb (Nat.le_refl _)))
  have HS := Lib.hid (bxM_new I w #[.int .i64 4, .int .i64 (k : Nat), .int .i64 0, .slice none 0 0, .string ⟨#[]⟩, .slice none 0 0] rfl)
  have HIS := Lib.hid (fun w' (hb : Below w.heap.size w w') => is_calls I k w' ((h.below hb (Nat.le_refl _)).more hb.size) hk)
  have HCO := Lib.hid (fun w' (hb : Below w.heap.size w w') => content_says I hc k w' ((h.below hb (Nat.le_refl _)).more hb.size) hk)
  unfold ContSays at HCO
  have hnc0 : nodeC (nd I.ns k) = #[.int .i64 (nd I.ns k).kind, .string (nd I.ns k).name, .slice (nd I.ns k).attrsA (nd I.ns k).attrs.length (nd I.ns k).acap, .string (nd I.ns k).text, .int .i64 (nd I.ns k).parent, .slice (nd I.ns k).kidsA (nd I.ns k).kids.length (nd I.ns k).kcap] := rfl
  rw [hnc0] at HNC
  have hisb : ¬ (nd I.ns k).name = brS := fun e => hbr ⟨e, his⟩
  have pb : ((nd I.ns k).name.toList == [98, 114]) = false := by rw [← eBR, str_eqD]; exact decide_eq_false hisb
  rw [his] at HIS
  have HBX := Lib.hid (fun (A' : Option Addr) (c' : Nat) w' (hb : Below w.heap.size w w') (hH : Holds w' w'.heap.size A' (nums ((docB I (docOk hc)).content k))) => boxesB_calls (docB I (docOk hc)) I ((docB I (docOk hc)).content k) A' ((docB I (docOk hc)).content k).length c' w' ((h.below hb (Nat.le_refl _)).more hb.size) rfl hH hcl i3)
  have HCF := Lib.hid (fun (g : Nat) (A : Option Addr) (c : Nat) (Q : Nat → Prop) w' (hb : Below w.heap.size w w') (hM : MkB I g w') (hk : KidsAt w' Q (((docB I (docOk hc)).content k).map (docB I (docOk hc)).box) A ((docB I (docOk hc)).content k).length) (hq : ∀ b, Q b → b < w'.heap.size) => containsT_calls 110 g ((docB I (docOk hc)).blockyT 1) (((docB I (docOk hc)).content k).map (docB I (docOk hc)).box) A ((docB I (docOk hc)).content k).length c Q w' (by omega) (.inr (.inl rfl)) hk hq (says_box1 I (docOk hc) g (((docB I (docOk hc)).content k).map (docB I (docOk hc)).box) w' ((h.below hb (Nat.le_refl _)).more hb.size) hM (boxes_ok I (docOk hc) h.hn i1)))
  rw [hany] at HCF
  generalize ((docB I (docOk hc)).content k).map (docB I (docOk hc)).box = TS at HBX HCF ⊢
  generalize (docB I (docOk hc)).content k = CL at HCO HBX HCF
  clear hisb hbr his hany
  generalize (nd I.ns k).kind = nk at HNC h3
  generalize (nd I.ns k).name = nm at HNC pb
  generalize (nd I.ns k).attrsA = aA at HNC
  generalize (nd I.ns k).attrs.length = an at HNC
  generalize (nd I.ns k).acap = ac at HNC
  generalize (nd I.ns k).text = tx at HNC 
  generalize (nd I.ns k).parent = pa at HNC
  generalize (nd I.ns k).kidsA = kA at HNC
  generalize (nd I.ns k).kids.length = kn at HNC
  generalize (nd I.ns k).kcap = kc at HNC
  have HA := Lib.hid hA
  clear h hrk IH i1 i2 i3 hcl
  clear hnc0 hnc hA
  unfold mkA at HIS HCO HBX ⊢
  go_enter Tryz.func65, Tryz.ntmps65
  go_upto_region 2 with fail
  generalize World.alloc (World.alloc (World.alloc w _) _) _ = w1 at HS ⊢
  generalize hg : w.heap.size = g at HS ⊢
  have HG := Lib.hid hg
  clear hg
  have m0 : w1.cell? ⟨g, 0, none⟩ = some (.slice (some ⟨b, off, none⟩) I.n I.c) := by rw [← HA.out]; exact HS.out.mkb.cell 0
  have n0 : w1.cell? ⟨b, off + k * 6, none⟩ = some (.int .i64 nk) := HNC.out w1 HS.out.bel 0 (by omega)
  have n1 : w1.cell? ⟨b, off + k * 6 + 1, none⟩ = some (.string nm) := HNC.out w1 HS.out.bel 1 (by omega)
  have n2 : w1.cell? ⟨b, off + k * 6 + 2, none⟩ = some (.slice aA an ac) := HNC.out w1 HS.out.bel 2 (by omega)
  have n3 : w1.cell? ⟨b, off + k * 6 + 3, none⟩ = some (.string tx) := HNC.out w1 HS.out.bel 3 (by omega)
  have n4 : w1.cell? ⟨b, off + k * 6 + 4, none⟩ = some (.int .i64 pa) := HNC.out w1 HS.out.bel 4 (by omega)
  have n5 : w1.cell? ⟨b, off + k * 6 + 5, none⟩ = some (.slice kA kn kc) := HNC.out w1 HS.out.bel 5 (by omega)
  have HV := Lib.hid (Blk.new w1 117 #[.int .i64 nk, .string nm, .slice aA an ac, .string tx, .int .i64 pa, .slice kA kn kc])
  replace HS := Lib.hid (HS.out.alloc (.cells #[.int .i64 nk, .string nm, .slice aA an ac, .string tx, .int .i64 pa, .slice kA kn kc] 117))
  go_upto_region 3 with fail
  generalize World.alloc w1 _ = w2 at HS HV ⊢
  generalize w1.heap.size = gv at HV ⊢
  clear m0 n0 n1 n2 n3 n4 n5 HNC
  have v0 : w2.cell? ⟨gv, 0, none⟩ = some (.int .i64 nk) := HV.out.cell 0
  have m0 : w2.cell? ⟨g, 0, none⟩ = some (.slice I.A I.n I.c) := HS.out.mkb.cell 0
  have m1 : w2.cell? ⟨g, 1, none⟩ = some (.slice I.Al I.nl I.cl) := HS.out.mkb.cell 1
  have p3 : (nk == 3) = false := by simp [h3]
  clear h3
  go_upto_region 16 with (first | (go_at_call 66; refine (HIS.out _ HS.out.bel).mono ?_; rintro e wi ⟨rfl, hbi⟩; replace HS := Lib.hid (HS.out.call hbi); replace HV := Lib.hid (HV.out.below hbi HV.out.lt); have u1 : wi.cell? ⟨gv, 1, none⟩ = some (.string nm) := HV.out.cell 1; have a0 : wi.cell? ⟨g, 0, none⟩ = some (.slice I.A I.n I.c) := HS.out.mkb.cell 0; have a1 : wi.cell? ⟨g, 1, none⟩ = some (.slice I.Al I.nl I.cl) := HS.out.mkb.cell 1; have y4 : wi.cell? ⟨g + 1 + 1, 4, none⟩ = some (.string ⟨#[]⟩) := HS.out.var.cell 4; have f4 : wi.frozen? ⟨g + 1 + 1, 4, none⟩ = false := HS.out.var.free 4; clear hbi) | (go_at_call 31; refine (HCO.out _ HS.out.bel).mono ?_; rintro e wc ⟨A', c', rfl, hcp, hhd, hbc⟩; have HCP := Lib.hid hcp; have HHD := Lib.hid hhd; replace HS := Lib.hid (HS.out.call hbc); have b0 : wc.cell? ⟨g, 0, none⟩ = some (.slice I.A I.n I.c) := HS.out.mkb.cell 0; have b1 : wc.cell? ⟨g, 1, none⟩ = some (.slice I.Al I.nl I.cl) := HS.out.mkb.cell 1; have HGC := Lib.hid HS.out.gt; clear hcp hhd hbc) | (go_at_call 30; refine (HBX.out _ _ _ HS.out.bel HHD.out).mono ?_; rintro e wb ⟨Ab, cb, rfl, hcb, hkb, hbb⟩; have HCB := Lib.hid hcb; have HKA := Lib.hid hkb; have HBB := Lib.hid hbb; replace HS := Lib.hid (HS.out.call hbb); have HMB := Lib.hid (show MkB I g wb from HS.out.mkb); clear hcb hkb hbb) | (go_at_call 63; refine (HCF.out g _ _ _ _ HS.out.bel HMB.out HKA.out (fun b hq => And.right hq)).mono ?_; rintro e wf ⟨rfl, hbf⟩; replace HS := Lib.hid (HS.out.call hbf); replace HKA := Lib.hid (KidsAt.step HKA.out hbf); have y0 : wf.cell? ⟨g + 1 + 1, 0, none⟩ = some (.int .i64 4) := HS.out.var.cell 0; have y5 : wf.cell? ⟨g + 1 + 1, 5, none⟩ = some (.slice none 0 0) := HS.out.var.cell 5; have f0 : wf.frozen? ⟨g + 1 + 1, 0, none⟩ = false := HS.out.var.free 0; have f5 : wf.frozen? ⟨g + 1 + 1, 5, none⟩ = false := HS.out.var.free 5; clear hbf))
  replace HS := Lib.hid (show BxM I w g _ #[.int .i64 3, .int .i64 (k : Nat), .int .i64 0, .slice none 0 0, .string ⟨#[]⟩, .slice Ab CL.length cb] _ from (HS.out.put 0 (.int .i64 3)).put 5 (.slice Ab CL.length cb))
  have HGT : Hid (g + 1 + 1 < wc.heap.size) := HGC.out
  replace HKA := Lib.hid ((KidsAt.put HKA.out HGT.out 0 (.int .i64 3)).put HGT.out 5 (.slice Ab CL.length cb))
  clear y0 y5 f0 f5 u1 a0 a1 b0 b1 y4 f4
  generalize World.setCell (World.setCell wf _ _) _ _ = ws at HS HKA ⊢
  have t0 : ws.cell? ⟨g + 1 + 1, 0, none⟩ = some (.int .i64 3) := HS.out.var.cell 0
  have t1 : ws.cell? ⟨g + 1 + 1, 1, none⟩ = some (.int .i64 (k : Nat)) := HS.out.var.cell 1
  have t2 : ws.cell? ⟨g + 1 + 1, 2, none⟩ = some (.int .i64 0) := HS.out.var.cell 2
  have t3 : ws.cell? ⟨g + 1 + 1, 3, none⟩ = some (.slice none 0 0) := HS.out.var.cell 3
  have t4 : ws.cell? ⟨g + 1 + 1, 4, none⟩ = some (.string ⟨#[]⟩) := HS.out.var.cell 4
  have t5 : ws.cell? ⟨g + 1 + 1, 5, none⟩ = some (.slice Ab CL.length cb) := HS.out.var.cell 5
  go_wp2_with (refine wpList_store_mid rfl _ _ _ rfl (g + 1) 0 #[.int .i64 3, .int .i64 (k : Nat), .int .i64 0, .slice none 0 0, .string ⟨#[]⟩, .slice Ab CL.length cb] rfl rfl (HS.out.fin _ rfl).1 (by kernel_rfl) (by kernel_rfl) ?_; obtain ⟨w9, hw9, hr9, hz9⟩ := (HS.out.fin #[.int .i64 3, .int .i64 (k : Nat), .int .i64 0, .slice none 0 0, .string ⟨#[]⟩, .slice Ab CL.length cb] rfl).2; rw [hw9]; clear hw9; have HS9 := Lib.hid hr9; have HZ9 := Lib.hid hz9; clear hr9 hz9)
  exact bodyPost_ret (ret_tree Tryz.results65 _ _ (g + 1) _ rfl HS9.out.res rfl) rfl ⟨_, _, _, rfl, KidsAt.earlier (KidsAt.moved HKA.out (by have := HGT.out; omega) HZ9.out) (by have := HG.out; have := HGT.out; omega), HS9.out.bel⟩
end Go.Proofs.YtkmmlcnoeeaekaaGreatDoor
