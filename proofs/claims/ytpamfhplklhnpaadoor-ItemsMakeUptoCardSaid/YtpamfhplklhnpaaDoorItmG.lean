/- The contract of (*items.maker).text. -/
import Derived.Test.YtpamfhplklhnpaaDoorItmF
import Derived.Test.YtpamfhplklhnpaaDoorStkD
namespace Go.Proofs.YtpamfhplklhnpaaDoor
open Go.RowKit
set_option linter.unusedVariables false
set_option linter.unusedSimpArgs false
theorem Blk.cell' {w : World} {g : Nat} {T : TypeId} {cs : Array Value} {v : Value} (h : Blk w g T cs) (j : Nat) (hv : cs[j]? = some v) : w.cell? ⟨g, j, none⟩ = some v := (h.cell j).trans hv
theorem colR_size (s : ByteArray) (m : Int) (b : Bool) : (colR s m b).1.size ≤ s.size := by
  unfold colR
  split
  · exact Nat.le_refl _
  · show (col s.data.toList b).1.toArray.size ≤ s.data.size
    have := col_len s.data.toList b
    simpa using this
def TextPost (M : MkV) (B gM at_ : Nat) (bl : Bool) (v : Value) (xs : List ItemV) (w : World) (e : Ending) (w' : World) : Prop :=
  e = .returned (.tuple #[]) ∧ ∃ v', MSt M B gM (textB M at_ bl) v' (xs ++ textI M at_ bl) w' ∧ Fr gM v w w' ∧ OwnRel v v' w
theorem emit_len (x must : ItemV) : ∀ (ps : List (List UInt8)) (first : Bool), (emit x must first ps).length ≤ 2 * ps.length
  | [], _ => by simp [emit]
  | t :: ts, first => by
    have h := emit_len x must ts false
    rw [emit, List.length_append, List.length_append, List.length_cons]
    have h1 : (if first = true then ([] : List ItemV) else [must]).length ≤ 1 := by split <;> simp
    have h2 : (if t = [] then ([] : List ItemV) else [{ x with text := ⟨t.toArray⟩ }]).length ≤ 1 := by split <;> simp
    omega
theorem emit_take {x must : ItemV} {ps : List (List UInt8)} {k : Nat} {t : List UInt8} (hlt : k < ps.length) (hk : ps.take (k + 1) = ps.take k ++ [t]) :
    emit x must true (ps.take (k + 1)) = emit x must true (ps.take k) ++ ((if k = 0 then [] else [must]) ++ (if t = [] then [] else [{ x with text := ⟨t.toArray⟩ }])) := by
  rw [hk, emit_snoc]
  by_cases h0 : k = 0
  · subst h0; simp
  · have h1 : (ps.take k).isEmpty = false := by
      rw [List.isEmpty_eq_false_iff]
      intro e
      have h2 := congrArg List.length e
      rw [List.length_take, List.length_nil] at h2
      omega
    rw [h1, if_neg h0]; simp
theorem blank_take {rb : Bool} {ps : List (List UInt8)} {k : Nat} {t : List UInt8} (hlt : k < ps.length) (hk : ps.take (k + 1) = ps.take k ++ [t]) :
    blankB rb true rb (ps.take (k + 1)) = if t = [] then (if k = 0 then rb else true) else rb := by
  rw [hk, blankB_snoc]
  by_cases h0 : k = 0
  · subst h0; simp [blankB]
  · have h1 : (ps.take k).isEmpty = false := by
      rw [List.isEmpty_eq_false_iff]
      intro e
      have h2 := congrArg List.length e
      rw [List.length_take, List.length_nil] at h2
      omega
    rw [h1, if_neg h0]; simp
/-- The maker behind some items of a text. -/
structure TG (M : MkV) (B gM gP gS : Nat) (v : Value) (xs : List ItemV) (ps : List (List UInt8)) (zs : List Int) (w : World) (L : List ItemV) (b : Bool) (wr : World) : Prop where
  mst : ∃ v', MSt M B gM b v' (xs ++ L) wr ∧ Fr gM v w wr ∧ OwnRel v v' w
  prt : Blk wr gP 9 (ps.map fun l => Value.string ⟨l.toArray⟩).toArray
  sty : Blk wr gS 28 (sty zs)
theorem Fr.blkOf {M : MkV} {B gM g : Nat} {b : Bool} {v : Value} {xs : List ItemV} {T : TypeId} {cs : Array Value} {w w' : World} (hm : MSt M B gM b v xs w) (hF : Fr gM v w w') (h : Blk w g T cs) (h1 : T ≠ 40) (h2 : T ≠ 63) : Blk w' g T cs :=
  (hF.block g h.lt (fun e => by
    subst e
    have h3 : w.heap[g]? = some (Obj.cells cs T (0, 0)) := h
    have h4 : w.heap[g]? = some (Obj.cells (mkC M b v) 63 (0, 0)) := hm.blk
    rw [h3] at h4
    injection h4 with h4
    injection h4 with _ h4 _
    exact h2 h4) (fun e => blk_ne h hm.own h1 e)).trans h
section
variable {M : MkV} {B gM gP gS : Nat} {v : Value} {xs : List ItemV} {ps : List (List UInt8)} {zs : List Int} {w : World} {L : List ItemV} {b : Bool} {wr wr' : World}
theorem TG.below (h : TG M B gM gP gS v xs ps zs w L b wr) (hb : Below wr.heap.size wr wr') : TG M B gM gP gS v xs ps zs w L b wr' := by
  obtain ⟨v', h1, h2, h3⟩ := h.mst
  exact ⟨⟨v', h1.below hb, h2.then hb, h3⟩, h.prt.below hb h.prt.lt, h.sty.below hb h.sty.lt⟩
theorem TG.drew (h : TG M B gM gP gS v xs ps zs w L b wr) : TG M B gM gP gS v xs ps zs w L b wr.drew := h.below (below_drewN (Below.refl _ _) 1)
theorem TG.blank (h : TG M B gM gP gS v xs ps zs w L b wr) (b2 : Bool) : TG M B gM gP gS v xs ps zs w L b2 (wr.setCell ⟨gM, 3, none⟩ (.bool b2)) := by
  obtain ⟨v', h1, h2, h3⟩ := h.mst
  have h4 := h1.blank b2
  exact ⟨⟨v', h4.1, h2.trans h3 h4.2, h3⟩, Fr.blkOf h1 h4.2 h.prt (by decide) (by decide), Fr.blkOf h1 h4.2 h.sty (by decide) (by decide)⟩
theorem TG.rng (h : TG M B gM gP gS v xs ps zs w L b wr) : wr.rangeAt gS 0 (Go.Proofs.YtpamfhplklhnpaaDoor.sty zs).toList := fun j u hu => by
  rw [Nat.zero_add, h.sty.cell]
  simpa using hu
theorem TG.put (h : TG M B gM gP gS v xs ps zs w L b wr) (hw : w.heap.size ≤ wr.heap.size) (x : ItemV) (hn : (xs ++ L).length ≤ 4194304) :
    Calls Tryd.prog 59 #[.pointer (some ⟨gM, 0, none⟩), .agg (itemC x)] wr fun e w' => e = .returned (.tuple #[]) ∧ TG M B gM gP gS v xs ps zs w (L ++ [x]) b w' := by
  obtain ⟨v', h1, h2, h3⟩ := h.mst
  refine (put_calls M B gM b v' (xs ++ L) x wr h1 hn).mono ?_
  rintro e w' ⟨rfl, v2, h4, h5, h6⟩
  refine ⟨rfl, ⟨v2, by rw [← List.append_assoc]; exact h4, h2.trans h3 h5, h3.trans hw h6⟩, Fr.blkOf h1 h5 h.prt (by decide) (by decide), Fr.blkOf h1 h5 h.sty (by decide) (by decide)⟩
end
set_option maxRecDepth 1000000 in
set_option maxHeartbeats 8000000 in
theorem text_calls (M : MkV) (B gM at_ : Nat) (bl : Bool) (v : Value) (xs : List ItemV) (w : World) (h : MSt M B gM bl v xs w) (hk : at_ < M.nl) (hk2 : at_ < M.nb) (hl : M.lz.length = M.nl * 118) (hn : M.bs.length = M.nb) (htx : (bx M.bs at_).text.size ≤ 1048576) (hx : xs.length + (textP M at_ bl).length * 2 ≤ 4194304) :
    Calls Tryd.prog 57 #[.pointer (some ⟨gM, 0, none⟩), .int .i64 (at_ : Nat)] w (TextPost M B gM at_ bl v xs w) := by
  obtain ⟨bL, offL, eL, hbL, hrow⟩ := looks_row h.looks hl hk
  obtain ⟨bB, offB, eB, hbB, -, -, -, -, c4, -, -⟩ := h.boxes.at_ (i := at_) (by rw [hn]; exact hk2)
  have mixed : Tryd.prog.follows .mixedOrders = true := by kernel_rfl
  have g1 : w.cell? ⟨gM, 1, none⟩ = some (.slice (some ⟨bL, offL, none⟩) M.nl M.cl) := by have := h.blk.cell 1; rw [this, ← eL]; rfl
  have hz : (rowL M.lz at_).length = 118 := rowL_len _ _
  obtain ⟨zs, hzs⟩ : ∃ x, x = rowL M.lz at_ := ⟨_, rfl⟩
  rw [← hzs] at hrow hz
  have HLAID := Lib.hid (look_laid zs hz)
  have HSZL : Hid ((Tryd.prog.info? 28).map (·.size) = some (sty zs).toList.length) := by show _ = _; rw [Array.length_toList, sty_size, hz]; kernel_rfl
  have HROW := Lib.hid hrow
  have HZS := Lib.hid hzs
  obtain ⟨tx, htxe⟩ : ∃ x, x = (bx M.bs at_).text := ⟨_, rfl⟩
  rw [← htxe] at c4 htx
  have HTX : Hid (tx.size ≤ 140737488351232) := by show _ ≤ _; omega
  have HTXE := Lib.hid htxe
  have p0 : (sty zs)[88]? = some (.int .i64 (stK zs 44)) := sty_at zs 88 (by omega)
  have p1 : (sty zs)[89]? = some (.int .i64 (stN zs 44)) := sty_at zs 89 (by omega)
  have p2 : (sty zs)[83]? = some (.int .i64 (stN zs 41)) := sty_at zs 83 (by omega)
  obtain ⟨sk, hsk⟩ : ∃ x, x = stK zs 44 := ⟨_, rfl⟩
  obtain ⟨sn, hsn⟩ : ∃ x, x = stN zs 44 := ⟨_, rfl⟩
  obtain ⟨md, hmd⟩ : ∃ x, x = stN zs 41 := ⟨_, rfl⟩
  rw [← hsk] at p0
  rw [← hsn] at p1
  rw [← hmd] at p2
  obtain ⟨rt, hrt⟩ : ∃ x, x = (colR tx md bl).1 := ⟨_, rfl⟩
  obtain ⟨rb, hrb⟩ : ∃ x, x = (colR tx md bl).2 := ⟨_, rfl⟩
  have HCL : Hid (∀ w, Calls Tryd.prog 70 #[.string tx, .int .i64 md, .bool bl] w fun e w' => e = .returned (.tuple #[.string rt, .bool rb]) ∧ Below w.heap.size w w') := fun w => by
    rw [hrt, hrb]; exact collapse_any _ _ _ _ HTX.out
  obtain ⟨ps, hps⟩ : ∃ x, x = partsOf (keepM md) rt.data.toList := ⟨_, rfl⟩
  have HPS := Lib.hid hps
  have HRT := Lib.hid hrt
  have HRB := Lib.hid hrb
  have HGW := Lib.hid h.blk.lt
  clear hrt hrb hps
  have HP0 := Lib.hid p0
  have HP1 := Lib.hid p1
  have HP2 := Lib.hid p2
  have HSK := Lib.hid hsk
  have HSN := Lib.hid hsn
  have HMD := Lib.hid hmd
  have HM0 := Lib.hid h
  have HK := Lib.hid (show at_ < M.nl ∧ at_ < M.nb from ⟨hk, hk2⟩)
  have HS3 : Hid (∀ w', Below w.heap.size w w' → MSt M B gM bl v xs w' → w'.cell? ⟨gM, 0, none⟩ = some (.slice (some ⟨bB, offB, none⟩) M.nb M.cb) ∧ w'.cell? ⟨bB, offB + at_ * 5 + 4, none⟩ = some (.string tx) ∧ w'.cell? ⟨gM, 3, none⟩ = some (.bool bl)) := fun w' hb hM => ⟨by have := hM.blk.cell 0; rw [this, ← eB]; rfl, (hb.cell (p := ⟨bB, offB + at_ * 5 + 4, none⟩) (Nat.lt_of_lt_of_le hbB h.hB)).trans c4, hM.blk.cell 3⟩
  clear h hzs htxe p0 p1 p2 hsk hsn hmd hrow c4 eL eB hl hn hbL
  go_enter Tryd.func57, Tryd.ntmps57
  go_upto_region 1 with (first | (refine wpList_load_mid rfl 28 _ rfl bL (offL + at_ * 118) rfl (sty zs).toList _ HROW.out Tryd.underlying28 rfl HSZL.out ?_) | (refine wpList_store_mid rfl _ _ _ rfl w.heap.size 0 (sty zs) rfl rfl (HLAID.out w).2.1 (HLAID.out w).1 (sty_one _) ?_; obtain ⟨w2, hw2, bS, hb2, hsz2⟩ := (HLAID.out w).2.2; rw [hw2]; clear hw2; have HSB := Lib.hid bS; have HBW := Lib.hid hb2; have HM := Lib.hid (HM0.out.below hb2); have q2 : w2.cell? ⟨w.heap.size, 83, none⟩ = some (.int .i64 md) := bS.cell' 83 HP2.out; clear bS hb2 hsz2))
  clear g1 HM0
  go_upto_region 2 with fail
  have HM := Lib.hid HM.out.drew
  have HSB := Lib.hid HSB.out.drew
  have HBW := Lib.hid HBW.out.drew
  have hS0 : (fun w' : World => w'.cell? ⟨w.heap.size, 88, none⟩ = some (.int .i64 sk) ∧ w'.cell? ⟨w.heap.size, 89, none⟩ = some (.int .i64 sn) ∧ w'.cell? ⟨gM, 2, none⟩ = some (.int .i64 M.room)) w2.drew := ⟨HSB.out.cell' 88 HP0.out, HSB.out.cell' 89 HP1.out, HM.out.blk.cell 2⟩
  clear q2
  refine wp_region_noPanic ?_
  refine region_M (S := fun w' => w'.cell? ⟨w.heap.size, 88, none⟩ = some (.int .i64 sk) ∧ w'.cell? ⟨w.heap.size, 89, none⟩ = some (.int .i64 sn) ∧ w'.cell? ⟨gM, 2, none⟩ = some (.int .i64 M.room)) (T := []) (by kernel_rfl) ?_
  generalize World.drew w2 = wd at HM HSB HBW hS0 ⊢
  refine anyM_free (i := 0) (oi := { dst := some 24, op := _, type := _, pos := _, after := _, guard := _ }) (v := ?_) rfl (by kernel_rfl) (fun _ _ _ h => h) (Or.inl ⟨by kernel_rfl, ?_⟩) (fun _ => hS0) ?_
  rotate_left 1
  · (intro w hSw; (try dsimp only at hSw); go_simp; try with_reducible rfl)
  try simp only [Act.put, Array.toArray_toList, List.setIfInBounds_toArray, List.set_cons_zero, List.set_cons_succ]
  refine anyM_take (i := 1) (oi := { dst := some 25, op := _, type := _, pos := _, after := _, guard := _ }) (v := ?_) rfl (by kernel_rfl) (fun _ _ _ h => h) (Or.inl ⟨by kernel_rfl, ?_⟩) hS0 ?_
  rotate_left 1
  · (intro w hSw; (try dsimp only at hSw); go_simp; try with_reducible rfl)
  try simp only [Act.put, Array.toArray_toList, List.setIfInBounds_toArray, List.set_cons_zero, List.set_cons_succ]
  refine anyM_free (i := 2) (oi := { dst := some 26, op := _, type := _, pos := _, after := _, guard := _ }) (v := ?_) rfl (by kernel_rfl) (fun _ _ _ h => h) (Or.inl ⟨by kernel_rfl, ?_⟩) (fun _ => hS0) ?_
  rotate_left 1
  · (intro w hSw; (try dsimp only at hSw); go_simp; try with_reducible rfl)
  try simp only [Act.put, Array.toArray_toList, List.setIfInBounds_toArray, List.set_cons_zero, List.set_cons_succ]
  refine anyM_free (i := 3) (oi := { dst := some 27, op := _, type := _, pos := _, after := _, guard := _ }) (v := ?_) rfl (by kernel_rfl) (fun _ _ _ h => h) (Or.inl ⟨by kernel_rfl, ?_⟩) (fun _ => hS0) ?_
  rotate_left 1
  · (intro w hSw; (try dsimp only at hSw); go_simp; try with_reducible rfl)
  try simp only [Act.put, Array.toArray_toList, List.setIfInBounds_toArray, List.set_cons_zero, List.set_cons_succ]
  refine anyM_free (i := 4) (oi := { dst := some 28, op := _, type := _, pos := _, after := _, guard := _ }) (v := ?_) rfl (by kernel_rfl) (fun _ _ _ h => h) (Or.inl ⟨by kernel_rfl, ?_⟩) (fun _ => hS0) ?_
  rotate_left 1
  · (intro w hSw; (try dsimp only at hSw); go_simp; try with_reducible rfl)
  try simp only [Act.put, Array.toArray_toList, List.setIfInBounds_toArray, List.set_cons_zero, List.set_cons_succ]
  refine anyM_take (i := 5) (oi := { dst := some 29, op := _, type := _, pos := _, after := _, guard := _ }) (v := ?_) rfl (by kernel_rfl) (fun _ _ _ h => h) (Or.inl ⟨by kernel_rfl, ?_⟩) hS0 ?_
  rotate_left 1
  · (intro w hSw; (try dsimp only at hSw); go_simp; try with_reducible rfl)
  try simp only [Act.put, Array.toArray_toList, List.setIfInBounds_toArray, List.set_cons_zero, List.set_cons_succ]
  refine anyM_one (i := 6) (by kernel_rfl) rfl (fun K hK => ?_)
  go_simp
  refine (of_calls _ _ _ _).mono ?_
  rintro e w3 ⟨rfl, hw3⟩
  have hb3 : Below wd.heap.size wd w3 := by rw [← hw3]; exact below_alloc (Below.refl _ _) _
  have HM := Lib.hid (HM.out.below hb3)
  have HSB := Lib.hid (HSB.out.below hb3 HSB.out.lt)
  have HBW := Lib.hid (below_then HBW.out hb3)
  have hS0 : (fun w' : World => w'.cell? ⟨w.heap.size, 88, none⟩ = some (.int .i64 sk) ∧ w'.cell? ⟨w.heap.size, 89, none⟩ = some (.int .i64 sn) ∧ w'.cell? ⟨gM, 2, none⟩ = some (.int .i64 M.room)) w3 := ⟨HSB.out.cell' 88 HP0.out, HSB.out.cell' 89 HP1.out, HM.out.blk.cell 2⟩
  clear hw3 hb3
  refine hK.out _ _ (fun _ => hS0) ?_
  clear hK K
  try simp only [Act.put, Array.toArray_toList, List.setIfInBounds_toArray, List.set_cons_zero, List.set_cons_succ]
  refine anyM_free (i := 7) (oi := { dst := some 23, op := _, type := _, pos := _, after := _, guard := _ }) (v := ?_) rfl (by kernel_rfl) (fun _ _ _ h => h) (Or.inl ⟨by kernel_rfl, ?_⟩) (fun _ => hS0) ?_
  rotate_left 1
  · (intro w hSw; (try dsimp only at hSw); go_simp; try with_reducible rfl)
  try simp only [Act.put, Array.toArray_toList, List.setIfInBounds_toArray, List.set_cons_zero, List.set_cons_succ]
  refine anyM_free (i := 8) (oi := { dst := some 31, op := _, type := _, pos := _, after := _, guard := _ }) (v := ?_) rfl (by kernel_rfl) (fun _ _ _ h => h) (Or.inl ⟨by kernel_rfl, ?_⟩) (fun _ => hS0) ?_
  rotate_left 1
  · (intro w hSw; (try dsimp only at hSw); go_simp; try with_reducible rfl)
  try simp only [Act.put, Array.toArray_toList, List.setIfInBounds_toArray, List.set_cons_zero, List.set_cons_succ]
  refine anyM_free (i := 9) (oi := { dst := some 32, op := _, type := _, pos := _, after := _, guard := _ }) (v := ?_) rfl (by kernel_rfl) (fun _ _ _ h => h) (Or.inl ⟨by kernel_rfl, ?_⟩) (fun _ => hS0) ?_
  rotate_left 1
  · (intro w hSw; (try dsimp only at hSw); go_simp; try with_reducible rfl)
  try simp only [Act.put, Array.toArray_toList, List.setIfInBounds_toArray, List.set_cons_zero, List.set_cons_succ]
  refine anyM_free (i := 10) (oi := { dst := some 6, op := _, type := _, pos := _, after := _, guard := _ }) (v := ?_) rfl (by kernel_rfl) (fun _ _ _ h => h) (Or.inl ⟨by kernel_rfl, ?_⟩) (fun _ => hS0) ?_
  rotate_left 1
  · (intro w hSw; (try dsimp only at hSw); go_simp; try with_reducible rfl)
  try simp only [Act.put, Array.toArray_toList, List.setIfInBounds_toArray, List.set_cons_zero, List.set_cons_succ]
  refine anyM_free (i := 11) (oi := { dst := some 7, op := _, type := _, pos := _, after := _, guard := _ }) (v := ?_) rfl (by kernel_rfl) (fun _ _ _ h => h) (Or.inl ⟨by kernel_rfl, ?_⟩) (fun _ => hS0) ?_
  rotate_left 1
  · (intro w hSw; (try dsimp only at hSw); go_simp; try with_reducible rfl)
  try simp only [Act.put, Array.toArray_toList, List.setIfInBounds_toArray, List.set_cons_zero, List.set_cons_succ]
  refine anyM_done (by kernel_rfl) ?_ _
  refine NoPanic.normal ?_
  clear hS0
  go_upto_region 3 with fail
  have HM := Lib.hid HM.out.drew
  have HSB := Lib.hid HSB.out.drew
  have HBW := Lib.hid HBW.out.drew
  have hS0 : (fun w' : World => w'.cell? ⟨gM, 0, none⟩ = some (.slice (some ⟨bB, offB, none⟩) M.nb M.cb) ∧ w'.cell? ⟨bB, offB + at_ * 5 + 4, none⟩ = some (.string tx) ∧ w'.cell? ⟨gM, 3, none⟩ = some (.bool bl)) w3.drew := HS3.out _ HBW.out HM.out
  refine wp_region_noPanic ?_
  refine region_M (S := fun w' => w'.cell? ⟨gM, 0, none⟩ = some (.slice (some ⟨bB, offB, none⟩) M.nb M.cb) ∧ w'.cell? ⟨bB, offB + at_ * 5 + 4, none⟩ = some (.string tx) ∧ w'.cell? ⟨gM, 3, none⟩ = some (.bool bl)) (T := []) (by kernel_rfl) ?_
  generalize World.drew w3 = we at HM HSB HBW hS0 ⊢
  refine anyM_free (i := 0) (oi := { dst := some 34, op := _, type := _, pos := _, after := _, guard := _ }) (v := ?_) rfl (by kernel_rfl) (fun _ _ _ h => h) (Or.inl ⟨by kernel_rfl, ?_⟩) (fun _ => hS0) ?_
  rotate_left 1
  · (intro w hSw; (try dsimp only at hSw); go_simp; try with_reducible rfl)
  try simp only [Act.put, Array.toArray_toList, List.setIfInBounds_toArray, List.set_cons_zero, List.set_cons_succ]
  refine anyM_free (i := 1) (oi := { dst := some 35, op := _, type := _, pos := _, after := _, guard := _ }) (v := ?_) rfl (by kernel_rfl) (fun _ _ _ h => h) (Or.inl ⟨by kernel_rfl, ?_⟩) (fun _ => hS0) ?_
  rotate_left 1
  · (intro w hSw; (try dsimp only at hSw); go_simp; try with_reducible rfl)
  try simp only [Act.put, Array.toArray_toList, List.setIfInBounds_toArray, List.set_cons_zero, List.set_cons_succ]
  refine anyM_free (i := 2) (oi := { dst := some 36, op := _, type := _, pos := _, after := _, guard := _ }) (v := ?_) rfl (by kernel_rfl) (fun _ _ _ h => h) (Or.inl ⟨by kernel_rfl, ?_⟩) (fun _ => hS0) ?_
  rotate_left 1
  · (intro w hSw; (try dsimp only at hSw); go_simp; try with_reducible rfl)
  try simp only [Act.put, Array.toArray_toList, List.setIfInBounds_toArray, List.set_cons_zero, List.set_cons_succ]
  refine anyM_take (i := 3) (oi := { dst := some 37, op := _, type := _, pos := _, after := _, guard := _ }) (v := ?_) rfl (by kernel_rfl) (fun _ _ _ h => h) (Or.inl ⟨by kernel_rfl, ?_⟩) hS0 ?_
  rotate_left 1
  · (intro w hSw; (try dsimp only at hSw); go_simp; try with_reducible rfl)
  try simp only [Act.put, Array.toArray_toList, List.setIfInBounds_toArray, List.set_cons_zero, List.set_cons_succ]
  refine anyM_free (i := 4) (oi := { dst := some 38, op := _, type := _, pos := _, after := _, guard := _ }) (v := ?_) rfl (by kernel_rfl) (fun _ _ _ h => h) (Or.inl ⟨by kernel_rfl, ?_⟩) (fun _ => hS0) ?_
  rotate_left 1
  · (intro w hSw; (try dsimp only at hSw); go_simp; try with_reducible rfl)
  try simp only [Act.put, Array.toArray_toList, List.setIfInBounds_toArray, List.set_cons_zero, List.set_cons_succ]
  refine anyM_free (i := 5) (oi := { dst := some 39, op := _, type := _, pos := _, after := _, guard := _ }) (v := ?_) rfl (by kernel_rfl) (fun _ _ _ h => h) (Or.inl ⟨by kernel_rfl, ?_⟩) (fun _ => hS0) ?_
  rotate_left 1
  · (intro w hSw; (try dsimp only at hSw); go_simp; try with_reducible rfl)
  try simp only [Act.put, Array.toArray_toList, List.setIfInBounds_toArray, List.set_cons_zero, List.set_cons_succ]
  refine anyM_free (i := 6) (oi := { dst := some 40, op := _, type := _, pos := _, after := _, guard := _ }) (v := ?_) rfl (by kernel_rfl) (fun _ _ _ h => h) (Or.inl ⟨by kernel_rfl, ?_⟩) (fun _ => hS0) ?_
  rotate_left 1
  · (intro w hSw; (try dsimp only at hSw); go_simp; try with_reducible rfl)
  try simp only [Act.put, Array.toArray_toList, List.setIfInBounds_toArray, List.set_cons_zero, List.set_cons_succ]
  refine anyM_take (i := 7) (oi := { dst := some 41, op := _, type := _, pos := _, after := _, guard := _ }) (v := ?_) rfl (by kernel_rfl) (fun _ _ _ h => h) (Or.inl ⟨by kernel_rfl, ?_⟩) hS0 ?_
  rotate_left 1
  · (intro w hSw; (try dsimp only at hSw); go_simp; try with_reducible rfl)
  try simp only [Act.put, Array.toArray_toList, List.setIfInBounds_toArray, List.set_cons_zero, List.set_cons_succ]
  refine anyM_free (i := 8) (oi := { dst := some 42, op := _, type := _, pos := _, after := _, guard := _ }) (v := ?_) rfl (by kernel_rfl) (fun _ _ _ h => h) (Or.inl ⟨by kernel_rfl, ?_⟩) (fun _ => hS0) ?_
  rotate_left 1
  · (intro w hSw; (try dsimp only at hSw); go_simp; try with_reducible rfl)
  try simp only [Act.put, Array.toArray_toList, List.setIfInBounds_toArray, List.set_cons_zero, List.set_cons_succ]
  refine anyM_free (i := 9) (oi := { dst := some 43, op := _, type := _, pos := _, after := _, guard := _ }) (v := ?_) rfl (by kernel_rfl) (fun _ _ _ h => h) (Or.inl ⟨by kernel_rfl, ?_⟩) (fun _ => hS0) ?_
  rotate_left 1
  · (intro w hSw; (try dsimp only at hSw); go_simp; try with_reducible rfl)
  try simp only [Act.put, Array.toArray_toList, List.setIfInBounds_toArray, List.set_cons_zero, List.set_cons_succ]
  refine anyM_free (i := 10) (oi := { dst := some 44, op := _, type := _, pos := _, after := _, guard := _ }) (v := ?_) rfl (by kernel_rfl) (fun _ _ _ h => h) (Or.inl ⟨by kernel_rfl, ?_⟩) (fun _ => hS0) ?_
  rotate_left 1
  · (intro w hSw; (try dsimp only at hSw); go_simp; try with_reducible rfl)
  try simp only [Act.put, Array.toArray_toList, List.setIfInBounds_toArray, List.set_cons_zero, List.set_cons_succ]
  refine anyM_free (i := 11) (oi := { dst := some 45, op := _, type := _, pos := _, after := _, guard := _ }) (v := ?_) rfl (by kernel_rfl) (fun _ _ _ h => h) (Or.inl ⟨by kernel_rfl, ?_⟩) (fun _ => hS0) ?_
  rotate_left 1
  · (intro w hSw; (try dsimp only at hSw); go_simp; try with_reducible rfl)
  try simp only [Act.put, Array.toArray_toList, List.setIfInBounds_toArray, List.set_cons_zero, List.set_cons_succ]
  refine anyM_take (i := 12) (oi := { dst := some 46, op := _, type := _, pos := _, after := _, guard := _ }) (v := ?_) rfl (by kernel_rfl) (fun _ _ _ h => h) (Or.inl ⟨by kernel_rfl, ?_⟩) hS0 ?_
  rotate_left 1
  · (intro w hSw; (try dsimp only at hSw); go_simp; try with_reducible rfl)
  try simp only [Act.put, Array.toArray_toList, List.setIfInBounds_toArray, List.set_cons_zero, List.set_cons_succ]
  refine anyM_one (i := 13) (by kernel_rfl) rfl (fun K hK => ?_)
  go_simp
  refine (HCL.out _).mono ?_
  rintro e w5 ⟨rfl, hb5⟩
  have HM := Lib.hid (HM.out.below hb5)
  have HSB := Lib.hid (HSB.out.below hb5 HSB.out.lt)
  have HBW := Lib.hid (below_then HBW.out hb5)
  have hS0 : (fun w' : World => w'.cell? ⟨gM, 0, none⟩ = some (.slice (some ⟨bB, offB, none⟩) M.nb M.cb) ∧ w'.cell? ⟨bB, offB + at_ * 5 + 4, none⟩ = some (.string tx) ∧ w'.cell? ⟨gM, 3, none⟩ = some (.bool bl)) w5 := HS3.out _ HBW.out HM.out
  clear hb5
  refine hK.out _ _ (fun _ => hS0) ?_
  clear hK K
  try simp only [Act.put, Array.toArray_toList, List.setIfInBounds_toArray, List.set_cons_zero, List.set_cons_succ]
  refine anyM_free (i := 14) (oi := { dst := some 33, op := _, type := _, pos := _, after := _, guard := _ }) (v := ?_) rfl (by kernel_rfl) (fun _ _ _ h => h) (Or.inl ⟨by kernel_rfl, ?_⟩) (fun _ => hS0) ?_
  rotate_left 1
  · (intro w hSw; (try dsimp only at hSw); go_simp; try with_reducible rfl)
  try simp only [Act.put, Array.toArray_toList, List.setIfInBounds_toArray, List.set_cons_zero, List.set_cons_succ]
  refine anyM_free (i := 15) (oi := { dst := some 48, op := _, type := _, pos := _, after := _, guard := _ }) (v := ?_) rfl (by kernel_rfl) (fun _ _ _ h => h) (Or.inl ⟨by kernel_rfl, ?_⟩) (fun _ => hS0) ?_
  rotate_left 1
  · (intro w hSw; (try dsimp only at hSw); go_simp; try with_reducible rfl)
  try simp only [Act.put, Array.toArray_toList, List.setIfInBounds_toArray, List.set_cons_zero, List.set_cons_succ]
  refine anyM_free (i := 16) (oi := { dst := some 49, op := _, type := _, pos := _, after := _, guard := _ }) (v := ?_) rfl (by kernel_rfl) (fun _ _ _ h => h) (Or.inl ⟨by kernel_rfl, ?_⟩) (fun _ => hS0) ?_
  rotate_left 1
  · (intro w hSw; (try dsimp only at hSw); go_simp; try with_reducible rfl)
  try simp only [Act.put, Array.toArray_toList, List.setIfInBounds_toArray, List.set_cons_zero, List.set_cons_succ]
  refine anyM_free (i := 17) (oi := { dst := some 8, op := _, type := _, pos := _, after := _, guard := _ }) (v := ?_) rfl (by kernel_rfl) (fun _ _ _ h => h) (Or.inl ⟨by kernel_rfl, ?_⟩) (fun _ => hS0) ?_
  rotate_left 1
  · (intro w hSw; (try dsimp only at hSw); go_simp; try with_reducible rfl)
  try simp only [Act.put, Array.toArray_toList, List.setIfInBounds_toArray, List.set_cons_zero, List.set_cons_succ]
  refine anyM_free (i := 18) (oi := { dst := some 9, op := _, type := _, pos := _, after := _, guard := _ }) (v := ?_) rfl (by kernel_rfl) (fun _ _ _ h => h) (Or.inl ⟨by kernel_rfl, ?_⟩) (fun _ => hS0) ?_
  rotate_left 1
  · (intro w hSw; (try dsimp only at hSw); go_simp; try with_reducible rfl)
  try simp only [Act.put, Array.toArray_toList, List.setIfInBounds_toArray, List.set_cons_zero, List.set_cons_succ]
  refine anyM_done (by kernel_rfl) ?_ _
  refine NoPanic.normal ?_
  clear hS0
  have z3 := HM.out.blk.free 3
  have s3 : w5.cell? ⟨gM, 3, none⟩ = some (.bool bl) := HM.out.blk.cell 3
  go_upto_region 5 with fail
  have HMB := Lib.hid (HM.out.blank rb)
  have HSB := Lib.hid (HSB.out.far (b := gM) (i := 3) (fun e => by have := HGW.out; omega) (.bool rb))
  have HFR := Lib.hid ((Fr.below HBW.out).trans (v := v) (.inl rfl) HMB.out.2)
  clear HM HBW z3 s3
  generalize World.setCell w5 _ _ = wb at HMB HSB HFR ⊢
  obtain ⟨km, hkm⟩ : ∃ x, x = keepM md := ⟨_, rfl⟩
  have HKP : Hid (∀ w, Calls Tryd.prog 71 #[.int .i64 md] w fun e w' => e = .returned (.bool km) ∧ w = w') := fun w => by rw [hkm]; exact keeps_calls md w
  have HPK : Hid (ps = if km then partsL rt.data.toList else [rt.data.toList]) := by show _ = _; rw [HPS.out, ← hkm]; rfl
  have HRS : Hid (rt.size ≤ 1048576) := by show _ ≤ _; have := colR_size tx md bl; rw [← HRT.out] at this; omega
  clear hkm
  go_upto_if 57 with (go_at_call 71; refine (HKP.out _).mono ?_; rintro e w' ⟨rfl, rfl⟩)
  go_cut [10] from 58 to 59 (fun v wx => ∃ gP, v = .slice (some ⟨gP, 0, none⟩) ps.length ps.length ∧ Blk wx gP 9 (ps.map fun l => Value.string ⟨l.toArray⟩).toArray ∧ Below wb.heap.size wb wx)
  case first =>
    cases km
    · have HPC : Hid ((ps.map fun l => Value.string ⟨l.toArray⟩).toArray = #[.string rt] ∧ ps.length = 1) := by rw [HPK.out]; exact ⟨by simp, rfl⟩
      go_wp2_with fail
      go_meet
      case rel => exact ⟨_, by rw [HPC.out.2], by rw [HPC.out.1]; exact Blk.new _ _ _, below_alloc (Below.refl _ _) _⟩
    · have HSP : Hid (∀ w, Calls Tryd.prog 72 #[.string rt, .string ⟨#[10]⟩] w fun e w' => e = .returned (.slice (some ⟨w.heap.size, 0, none⟩) ps.length ps.length) ∧ w' = w.alloc (.cells (ps.map fun l => Value.string ⟨l.toArray⟩).toArray 9)) := fun w => by
        rw [HPK.out]; exact split_calls rt w (by have := HRS.out; omega)
      go_wp2_with (go_at_call 72; refine (HSP.out _).mono ?_; rintro e w7 ⟨rfl, rfl⟩)
      go_meet
      case rel => exact ⟨_, rfl, by have h1 := Blk.new (wb.alloc (.cells #[.string rt] 9)) 9 (ps.map fun l => Value.string ⟨l.toArray⟩).toArray; rwa [alloc_size] at h1, below_alloc (below_alloc (Below.refl _ _) _) _⟩
  case rest =>
    obtain ⟨gP, rfl, hP, hbw⟩ := hcut
    have hpl : ps.length ≤ 2097152 := by
      have e1 : ps = textP M at_ bl := by rw [HPS.out, HRT.out, HTXE.out, HMD.out, HZS.out]; rfl
      rw [← e1] at hx; omega
    have HXL : Hid (xs.length + ps.length * 2 ≤ 4194304) := by
      have e1 : ps = textP M at_ bl := by rw [HPS.out, HRT.out, HTXE.out, HMD.out, HZS.out]; rfl
      show _ ≤ _; rw [e1]; exact hx
    have hM1 := HMB.out.1.below hbw
    have hF1 := HFR.out.then hbw
    have HTL0 : Hid (TG M B gM gP w.heap.size v xs ps zs w (emit (itemX M at_) (mustX at_) true (ps.take 0)) (blankB rb true rb (ps.take 0)) wc) := ⟨⟨v, by simpa [emit, blankB] using hM1, hF1, OwnRel.refl⟩, hP, HSB.out.below hbw HSB.out.lt⟩
    clear hM1 hF1 hP hbw HMB HFR HSB
    go_wp2_with fail
    go_loopw [62] (fun i wr => ∃ k : Nat, k ≤ ps.length ∧ i = .int .i64 k ∧ TG M B gM gP w.heap.size v xs ps zs w (emit (itemX M at_) (mustX at_) true (ps.take k)) (blankB rb true rb (ps.take k)) wr) (fun i _ => ps.length - (intOf i).toNat)
    case atStart => exact ⟨0, Nat.zero_le _, rfl, HTL0.out⟩
    case round =>
      clear HTL0
      obtain ⟨k, hkp, rfl, htl⟩ := hrel
      by_cases hlt : k < ps.length
      · have HT := Lib.hid htl
        have KK := Lib.hid (show k ≤ ps.length ∧ k < ps.length from ⟨hkp, hlt⟩)
        obtain ⟨t, ht⟩ : ∃ x, x = ps[k]'hlt := ⟨_, rfl⟩
        have hpc : wr.cell? ⟨gP, k, none⟩ = some (.string ⟨t.toArray⟩) := by
          rw [htl.prt.cell, ht]; simp [hlt]
        have HTK : Hid (ps.take (k + 1) = ps.take k ++ [t]) := by show _ = _; rw [ht]; exact (List.take_append_getElem hlt).symm
        have qi : decide (k < ps.length) = true := decide_eq_true hlt
        have HSI : Hid (∀ w, Calls Tryd.prog 21 #[.agg (sty zs)] w fun e w' => e = .returned (.int .i64 (szN zs)) ∧ Below w.heap.size w w') := fun w => isize_calls zs w hz
        have HHI : Hid (∀ w, Calls Tryd.prog 6 #[.agg (sty zs)] w fun e w' => e = .returned (.int .i64 (highN zs)) ∧ Below w.heap.size w w') := fun w => high_calls zs w hz
        have HSH : Hid (∀ w, Calls Tryd.prog 60 #[.agg (sty zs)] w fun e w' => e = .returned (.int .i64 (shiftN zs)) ∧ Below w.heap.size w w') := fun w => shift_calls zs w hz
        obtain ⟨tb, htb⟩ : ∃ x, x = (⟨t.toArray⟩ : ByteArray) := ⟨_, rfl⟩
        rw [← htb] at hpc
        clear htl hkp ht
        have HPUT : Hid (∀ L b X, TG M B gM gP w.heap.size v xs ps zs w L b X → (xs ++ L).length ≤ 4194304 → Calls Tryd.prog 59 #[.pointer (some ⟨gM, 0, none⟩), .agg #[.int .i64 1, .int .i64 (at_ : Nat), .string tb, .int .i64 (szN zs), .int .i64 (ofN sk sn M.room), .int .i64 (highN zs), .int .i64 md, .int .i64 (shiftN zs), .int .i64 0, .int .i64 0, .int .i64 0]] X fun e w' => e = .returned (.tuple #[]) ∧ TG M B gM gP w.heap.size v xs ps zs w (L ++ [{ itemX M at_ with text := tb }]) b w') := fun L b X hX hL => by
          rw [HSK.out, HSN.out, HMD.out, HZS.out] at *
          obtain ⟨_, _, h2, _⟩ := hX.mst
          exact hX.put h2.size { itemX M at_ with text := tb } hL
        have HLL : Hid ((xs ++ emit (itemX M at_) (mustX at_) true (ps.take k)).length ≤ 4194304) := by
          show _ ≤ _
          have h1 := emit_len (itemX M at_) (mustX at_) (ps.take k) true
          rw [List.length_take] at h1
          rw [List.length_append]
          have h2 := HXL.out
          omega
        by_cases hk0 : k = 0
        · have q0 : decide ((0 : Int) < (k : Int)) = false := decide_eq_false (by omega)
          have q0' : decide (0 < k) = false := decide_eq_false (by omega)
          have HK0 := Lib.hid hk0
          have HTB := Lib.hid htb
          clear hk0 htb
          by_cases hte : t = []
          · have qe : tb.toList.isEmpty = true := by rw [HTB.out, byteArray_toList, hte]; rfl
            have HTE := Lib.hid hte
            clear hte
            go_wp2_with fail
            go_roundw
            case rel => exact ⟨k + 1, by have := KK.out; omega, by go_num, by
              rw [emit_take KK.out.2 HTK.out, blank_take KK.out.2 HTK.out, if_pos HK0.out, if_pos HTE.out, if_pos HTE.out, if_pos HK0.out]
              have h1 := HT.out
              rw [HK0.out] at h1 ⊢
              simpa [emit, blankB] using h1⟩
            case measure => have := KK.out; simp [intOf]; omega
          · have qe : tb.toList.isEmpty = false := by rw [HTB.out, byteArray_toList]; simpa using hte
            have HTE := Lib.hid hte
            clear hte
            go_upto_region 15 with fail
            have HT := Lib.hid HT.out.drew
            have hS0 : (fun w' : World => w'.rangeAt w.heap.size 0 (sty zs).toList) wr.drew := HT.out.rng
            clear hpc
            refine wp_region_noPanic ?_
            refine region_M (S := fun w' => w'.rangeAt w.heap.size 0 (sty zs).toList) (T := []) (by kernel_rfl) ?_
            generalize World.drew wr = wd at HT hS0 ⊢
            refine anyM_free (i := 0) (oi := { dst := some 78, op := _, type := _, pos := _, after := _, guard := _ }) (v := ?_) rfl (by kernel_rfl) (fun _ _ _ h => h) (Or.inl ⟨by kernel_rfl, ?_⟩) (fun _ => hS0) ?_
            rotate_left 1
            · (intro w hSw; (try dsimp only at hSw); go_simp; try with_reducible rfl)
            try simp only [Act.put, Array.toArray_toList, List.setIfInBounds_toArray, List.set_cons_zero, List.set_cons_succ]
            refine anyM_free (i := 1) (oi := { dst := some 79, op := _, type := _, pos := _, after := _, guard := _ }) (v := ?_) rfl (by kernel_rfl) (fun _ _ _ h => h) (Or.inl ⟨by kernel_rfl, ?_⟩) (fun _ => hS0) ?_
            rotate_left 1
            · (intro w hSw; (try dsimp only at hSw); go_simp; try with_reducible rfl)
            try simp only [Act.put, Array.toArray_toList, List.setIfInBounds_toArray, List.set_cons_zero, List.set_cons_succ]
            refine anyM_free (i := 2) (oi := { dst := some 80, op := _, type := _, pos := _, after := _, guard := _ }) (v := ?_) rfl (by kernel_rfl) (fun _ _ _ h => h) (Or.inl ⟨by kernel_rfl, ?_⟩) (fun _ => hS0) ?_
            rotate_left 1
            · (intro w hSw; (try dsimp only at hSw); go_simp; try with_reducible rfl)
            try simp only [Act.put, Array.toArray_toList, List.setIfInBounds_toArray, List.set_cons_zero, List.set_cons_succ]
            refine anyM_take (i := 3) (oi := { dst := some 81, op := _, type := _, pos := _, after := _, guard := _ }) (v := _) rfl (by kernel_rfl) (fun _ _ _ h => h) (yieldsIf_load_mid (by kernel_rfl) _ _ rfl _ _ rfl (sty zs).toList _ (fun w' h => by simpa using h) Tryd.underlying28 rfl HSZL.out) hS0 ?_
            try simp only [Act.put, Array.toArray_toList, List.setIfInBounds_toArray, List.set_cons_zero, List.set_cons_succ]
            refine anyM_free (i := 5) (oi := { dst := some 83, op := _, type := _, pos := _, after := _, guard := _ }) (v := ?_) rfl (by kernel_rfl) (fun _ _ _ h => h) (Or.inl ⟨by kernel_rfl, ?_⟩) (fun _ => hS0) ?_
            rotate_left 1
            · (intro w hSw; (try dsimp only at hSw); go_simp; try with_reducible rfl)
            try simp only [Act.put, Array.toArray_toList, List.setIfInBounds_toArray, List.set_cons_zero, List.set_cons_succ]
            refine anyM_take (i := 6) (oi := { dst := some 84, op := _, type := _, pos := _, after := _, guard := _ }) (v := _) rfl (by kernel_rfl) (fun _ _ _ h => h) (yieldsIf_load_mid (by kernel_rfl) _ _ rfl _ _ rfl (sty zs).toList _ (fun w' h => by simpa using h) Tryd.underlying28 rfl HSZL.out) hS0 ?_
            try simp only [Act.put, Array.toArray_toList, List.setIfInBounds_toArray, List.set_cons_zero, List.set_cons_succ]
            refine anyM_free (i := 8) (oi := { dst := some 86, op := _, type := _, pos := _, after := _, guard := _ }) (v := ?_) rfl (by kernel_rfl) (fun _ _ _ h => h) (Or.inl ⟨by kernel_rfl, ?_⟩) (fun _ => hS0) ?_
            rotate_left 1
            · (intro w hSw; (try dsimp only at hSw); go_simp; try with_reducible rfl)
            try simp only [Act.put, Array.toArray_toList, List.setIfInBounds_toArray, List.set_cons_zero, List.set_cons_succ]
            refine anyM_take (i := 9) (oi := { dst := some 87, op := _, type := _, pos := _, after := _, guard := _ }) (v := _) rfl (by kernel_rfl) (fun _ _ _ h => h) (yieldsIf_load_mid (by kernel_rfl) _ _ rfl _ _ rfl (sty zs).toList _ (fun w' h => by simpa using h) Tryd.underlying28 rfl HSZL.out) hS0 ?_
            try simp only [Act.put, Array.toArray_toList, List.setIfInBounds_toArray, List.set_cons_zero, List.set_cons_succ]
            refine anyM_one (i := 4) (by kernel_rfl) rfl (fun K hK => ?_)
            go_simp
            refine (HSI.out _).mono ?_
            rintro e wa ⟨rfl, hba⟩
            have HT := Lib.hid (HT.out.below hba)
            have hS0 : (fun w' : World => w'.rangeAt w.heap.size 0 (sty zs).toList) wa := HT.out.rng
            clear hba
            refine hK.out _ _ (fun _ => hS0) ?_
            clear hK K
            try simp only [Act.put, Array.toArray_toList, List.setIfInBounds_toArray, List.set_cons_zero, List.set_cons_succ]
            refine anyM_one (i := 7) (by kernel_rfl) rfl (fun K hK => ?_)
            go_simp
            refine (HHI.out _).mono ?_
            rintro e wa ⟨rfl, hba⟩
            have HT := Lib.hid (HT.out.below hba)
            have hS0 : (fun w' : World => w'.rangeAt w.heap.size 0 (sty zs).toList) wa := HT.out.rng
            clear hba
            refine hK.out _ _ (fun _ => hS0) ?_
            clear hK K
            try simp only [Act.put, Array.toArray_toList, List.setIfInBounds_toArray, List.set_cons_zero, List.set_cons_succ]
            refine anyM_one (i := 10) (by kernel_rfl) rfl (fun K hK => ?_)
            go_simp
            refine (HSH.out _).mono ?_
            rintro e wa ⟨rfl, hba⟩
            have HT := Lib.hid (HT.out.below hba)
            have hS0 : (fun w' : World => w'.rangeAt w.heap.size 0 (sty zs).toList) wa := HT.out.rng
            clear hba
            refine hK.out _ _ (fun _ => hS0) ?_
            clear hK K
            try simp only [Act.put, Array.toArray_toList, List.setIfInBounds_toArray, List.set_cons_zero, List.set_cons_succ]
            refine anyM_free (i := 11) (oi := { dst := some 89, op := _, type := _, pos := _, after := _, guard := _ }) (v := ?_) rfl (by kernel_rfl) (fun _ _ _ h => h) (Or.inl ⟨by kernel_rfl, ?_⟩) (fun _ => hS0) ?_
            rotate_left 1
            · (intro w hSw; (try dsimp only at hSw); go_simp; try with_reducible rfl)
            try simp only [Act.put, Array.toArray_toList, List.setIfInBounds_toArray, List.set_cons_zero, List.set_cons_succ]
            refine anyM_one (i := 12) (by kernel_rfl) rfl (fun K hK => ?_)
            go_simp
            refine (HPUT.out _ _ _ HT.out HLL.out).mono ?_
            rintro e wb' ⟨rfl, htg⟩
            have HT := Lib.hid htg
            have hS0 : (fun w' : World => w'.rangeAt w.heap.size 0 (sty zs).toList) wb' := HT.out.rng
            clear htg
            refine hK.out _ _ (fun _ => hS0) ?_
            clear hK K
            try simp only [Act.put, Array.toArray_toList, List.setIfInBounds_toArray, List.set_cons_zero, List.set_cons_succ]
            refine anyM_done (by kernel_rfl) ?_ _
            refine NoPanic.normal ?_
            clear hS0
            obtain ⟨vq, hq1, hq2, hq3⟩ := HT.out.mst
            have z3 := hq1.blk.free 3
            have s3 := hq1.blk.cell 3
            clear hq1 hq2 hq3
            go_wp2_with fail
            go_roundw
            case rel => exact ⟨k + 1, by have := KK.out; omega, by go_num, by
              rw [emit_take KK.out.2 HTK.out, blank_take KK.out.2 HTK.out, if_pos HK0.out, if_neg HTE.out, if_neg HTE.out]
              have h1 := HT.out.blank rb
              rw [HTB.out] at h1
              exact h1⟩
            case measure => have := KK.out; simp [intOf]; omega
        · have q0 : decide ((0 : Int) < (k : Int)) = true := decide_eq_true (by omega)
          have q0' : decide (0 < k) = true := decide_eq_true (by omega)
          have HK0 := Lib.hid hk0
          have HTB := Lib.hid htb
          have HMUST : Hid (∀ L b X, TG M B gM gP w.heap.size v xs ps zs w L b X → (xs ++ L).length ≤ 4194304 → Calls Tryd.prog 59 #[.pointer (some ⟨gM, 0, none⟩), .agg #[.int .i64 6, .int .i64 (at_ : Nat), .string ⟨#[]⟩, .int .i64 0, .int .i64 0, .int .i64 0, .int .i64 0, .int .i64 0, .int .i64 0, .int .i64 0, .int .i64 0]] X fun e w' => e = .returned (.tuple #[]) ∧ TG M B gM gP w.heap.size v xs ps zs w (L ++ [mustX at_]) b w') := fun L b X hX hL => by
            obtain ⟨_, _, h2, _⟩ := hX.mst
            exact hX.put h2.size (mustX at_) hL
          have HLM : Hid ((xs ++ (emit (itemX M at_) (mustX at_) true (ps.take k) ++ [mustX at_])).length ≤ 4194304) := by
            show _ ≤ _
            have h1 := emit_len (itemX M at_) (mustX at_) (ps.take k) true
            rw [List.length_take] at h1
            rw [List.length_append, List.length_append, List.length_singleton]
            have h2 := HXL.out
            have h3 := KK.out
            omega
          clear hk0 htb
          go_upto_region 14 with (go_at_call 59; refine (HMUST.out _ _ _ HT.out HLL.out).mono ?_; rintro e wp ⟨rfl, htg⟩; have HT := Lib.hid htg; obtain ⟨vq, hq1, hq2, hq3⟩ := htg.mst; have z3 := hq1.blk.free 3; have s3 := hq1.blk.cell 3; clear hq1 hq2 hq3 htg)
          have HT := Lib.hid (HT.out.blank true)
          have HLL := Lib.hid HLM.out
          clear z3 s3 hpc
          generalize World.setCell wp _ _ = wm at HT ⊢
          by_cases hte : t = []
          · have qe : tb.toList.isEmpty = true := by rw [HTB.out, byteArray_toList, hte]; rfl
            have HTE := Lib.hid hte
            clear hte
            go_wp2_with fail
            go_roundw
            case rel => exact ⟨k + 1, by have := KK.out; omega, by go_num, by
              rw [emit_take KK.out.2 HTK.out, blank_take KK.out.2 HTK.out, if_neg HK0.out, if_pos HTE.out, if_pos HTE.out, if_neg HK0.out, List.append_nil]
              exact HT.out⟩
            case measure => have := KK.out; simp [intOf]; omega
          · have qe : tb.toList.isEmpty = false := by rw [HTB.out, byteArray_toList]; simpa using hte
            have HTE := Lib.hid hte
            clear hte
            go_upto_region 15 with fail
            have HT := Lib.hid HT.out.drew
            have hS0 : (fun w' : World => w'.rangeAt w.heap.size 0 (sty zs).toList) wm.drew := HT.out.rng
            refine wp_region_noPanic ?_
            refine region_M (S := fun w' => w'.rangeAt w.heap.size 0 (sty zs).toList) (T := []) (by kernel_rfl) ?_
            generalize World.drew wm = wd at HT hS0 ⊢
            refine anyM_free (i := 0) (oi := { dst := some 78, op := _, type := _, pos := _, after := _, guard := _ }) (v := ?_) rfl (by kernel_rfl) (fun _ _ _ h => h) (Or.inl ⟨by kernel_rfl, ?_⟩) (fun _ => hS0) ?_
            rotate_left 1
            · (intro w hSw; (try dsimp only at hSw); go_simp; try with_reducible rfl)
            try simp only [Act.put, Array.toArray_toList, List.setIfInBounds_toArray, List.set_cons_zero, List.set_cons_succ]
            refine anyM_free (i := 1) (oi := { dst := some 79, op := _, type := _, pos := _, after := _, guard := _ }) (v := ?_) rfl (by kernel_rfl) (fun _ _ _ h => h) (Or.inl ⟨by kernel_rfl, ?_⟩) (fun _ => hS0) ?_
            rotate_left 1
            · (intro w hSw; (try dsimp only at hSw); go_simp; try with_reducible rfl)
            try simp only [Act.put, Array.toArray_toList, List.setIfInBounds_toArray, List.set_cons_zero, List.set_cons_succ]
            refine anyM_free (i := 2) (oi := { dst := some 80, op := _, type := _, pos := _, after := _, guard := _ }) (v := ?_) rfl (by kernel_rfl) (fun _ _ _ h => h) (Or.inl ⟨by kernel_rfl, ?_⟩) (fun _ => hS0) ?_
            rotate_left 1
            · (intro w hSw; (try dsimp only at hSw); go_simp; try with_reducible rfl)
            try simp only [Act.put, Array.toArray_toList, List.setIfInBounds_toArray, List.set_cons_zero, List.set_cons_succ]
            refine anyM_take (i := 3) (oi := { dst := some 81, op := _, type := _, pos := _, after := _, guard := _ }) (v := _) rfl (by kernel_rfl) (fun _ _ _ h => h) (yieldsIf_load_mid (by kernel_rfl) _ _ rfl _ _ rfl (sty zs).toList _ (fun w' h => by simpa using h) Tryd.underlying28 rfl HSZL.out) hS0 ?_
            try simp only [Act.put, Array.toArray_toList, List.setIfInBounds_toArray, List.set_cons_zero, List.set_cons_succ]
            refine anyM_free (i := 5) (oi := { dst := some 83, op := _, type := _, pos := _, after := _, guard := _ }) (v := ?_) rfl (by kernel_rfl) (fun _ _ _ h => h) (Or.inl ⟨by kernel_rfl, ?_⟩) (fun _ => hS0) ?_
            rotate_left 1
            · (intro w hSw; (try dsimp only at hSw); go_simp; try with_reducible rfl)
            try simp only [Act.put, Array.toArray_toList, List.setIfInBounds_toArray, List.set_cons_zero, List.set_cons_succ]
            refine anyM_take (i := 6) (oi := { dst := some 84, op := _, type := _, pos := _, after := _, guard := _ }) (v := _) rfl (by kernel_rfl) (fun _ _ _ h => h) (yieldsIf_load_mid (by kernel_rfl) _ _ rfl _ _ rfl (sty zs).toList _ (fun w' h => by simpa using h) Tryd.underlying28 rfl HSZL.out) hS0 ?_
            try simp only [Act.put, Array.toArray_toList, List.setIfInBounds_toArray, List.set_cons_zero, List.set_cons_succ]
            refine anyM_free (i := 8) (oi := { dst := some 86, op := _, type := _, pos := _, after := _, guard := _ }) (v := ?_) rfl (by kernel_rfl) (fun _ _ _ h => h) (Or.inl ⟨by kernel_rfl, ?_⟩) (fun _ => hS0) ?_
            rotate_left 1
            · (intro w hSw; (try dsimp only at hSw); go_simp; try with_reducible rfl)
            try simp only [Act.put, Array.toArray_toList, List.setIfInBounds_toArray, List.set_cons_zero, List.set_cons_succ]
            refine anyM_take (i := 9) (oi := { dst := some 87, op := _, type := _, pos := _, after := _, guard := _ }) (v := _) rfl (by kernel_rfl) (fun _ _ _ h => h) (yieldsIf_load_mid (by kernel_rfl) _ _ rfl _ _ rfl (sty zs).toList _ (fun w' h => by simpa using h) Tryd.underlying28 rfl HSZL.out) hS0 ?_
            try simp only [Act.put, Array.toArray_toList, List.setIfInBounds_toArray, List.set_cons_zero, List.set_cons_succ]
            refine anyM_one (i := 4) (by kernel_rfl) rfl (fun K hK => ?_)
            go_simp
            refine (HSI.out _).mono ?_
            rintro e wa ⟨rfl, hba⟩
            have HT := Lib.hid (HT.out.below hba)
            have hS0 : (fun w' : World => w'.rangeAt w.heap.size 0 (sty zs).toList) wa := HT.out.rng
            clear hba
            refine hK.out _ _ (fun _ => hS0) ?_
            clear hK K
            try simp only [Act.put, Array.toArray_toList, List.setIfInBounds_toArray, List.set_cons_zero, List.set_cons_succ]
            refine anyM_one (i := 7) (by kernel_rfl) rfl (fun K hK => ?_)
            go_simp
            refine (HHI.out _).mono ?_
            rintro e wa ⟨rfl, hba⟩
            have HT := Lib.hid (HT.out.below hba)
            have hS0 : (fun w' : World => w'.rangeAt w.heap.size 0 (sty zs).toList) wa := HT.out.rng
            clear hba
            refine hK.out _ _ (fun _ => hS0) ?_
            clear hK K
            try simp only [Act.put, Array.toArray_toList, List.setIfInBounds_toArray, List.set_cons_zero, List.set_cons_succ]
            refine anyM_one (i := 10) (by kernel_rfl) rfl (fun K hK => ?_)
            go_simp
            refine (HSH.out _).mono ?_
            rintro e wa ⟨rfl, hba⟩
            have HT := Lib.hid (HT.out.below hba)
            have hS0 : (fun w' : World => w'.rangeAt w.heap.size 0 (sty zs).toList) wa := HT.out.rng
            clear hba
            refine hK.out _ _ (fun _ => hS0) ?_
            clear hK K
            try simp only [Act.put, Array.toArray_toList, List.setIfInBounds_toArray, List.set_cons_zero, List.set_cons_succ]
            refine anyM_free (i := 11) (oi := { dst := some 89, op := _, type := _, pos := _, after := _, guard := _ }) (v := ?_) rfl (by kernel_rfl) (fun _ _ _ h => h) (Or.inl ⟨by kernel_rfl, ?_⟩) (fun _ => hS0) ?_
            rotate_left 1
            · (intro w hSw; (try dsimp only at hSw); go_simp; try with_reducible rfl)
            try simp only [Act.put, Array.toArray_toList, List.setIfInBounds_toArray, List.set_cons_zero, List.set_cons_succ]
            refine anyM_one (i := 12) (by kernel_rfl) rfl (fun K hK => ?_)
            go_simp
            refine (HPUT.out _ _ _ HT.out HLL.out).mono ?_
            rintro e wb' ⟨rfl, htg⟩
            have HT := Lib.hid htg
            have hS0 : (fun w' : World => w'.rangeAt w.heap.size 0 (sty zs).toList) wb' := HT.out.rng
            clear htg
            refine hK.out _ _ (fun _ => hS0) ?_
            clear hK K
            try simp only [Act.put, Array.toArray_toList, List.setIfInBounds_toArray, List.set_cons_zero, List.set_cons_succ]
            refine anyM_done (by kernel_rfl) ?_ _
            refine NoPanic.normal ?_
            clear hS0
            obtain ⟨vq, hq1, hq2, hq3⟩ := HT.out.mst
            have z3 := hq1.blk.free 3
            have s3 := hq1.blk.cell 3
            clear hq1 hq2 hq3
            go_wp2_with fail
            go_roundw
            case rel => exact ⟨k + 1, by have := KK.out; omega, by go_num, by
              rw [emit_take KK.out.2 HTK.out, blank_take KK.out.2 HTK.out, if_neg HK0.out, if_neg HTE.out, if_neg HTE.out, ← List.append_assoc]
              have h1 := HT.out.blank rb
              rw [HTB.out] at h1
              exact h1⟩
            case measure => have := KK.out; simp [intOf]; omega
      · obtain rfl : k = ps.length := by omega
        have HTL := Lib.hid htl
        clear htl hkp
        have qi : decide (ps.length < ps.length) = false := decide_eq_false (by omega)
        go_wp2_with fail
        (try simp only [Exit.inBlock, Exit.then]); refine bodyPost_ret (results_none rfl _ _ _) rfl ?_
        obtain ⟨v', h1, h2, h3⟩ := HTL.out.mst
        rw [List.take_length] at h1
        refine ⟨rfl, v', ?_, h2, h3⟩
        have e1 : ps = textP M at_ bl := by rw [HPS.out, HRT.out, HTXE.out, HMD.out, HZS.out]; rfl
        have e2 : rb = (textR M at_ bl).2 := by rw [HRB.out, HTXE.out, HMD.out, HZS.out]; rfl
        rw [e1, e2] at h1
        exact h1
end Go.Proofs.YtpamfhplklhnpaaDoor
