/- Several texts in one: Row, FitA, HitB, HitC. -/
import Derived.Test.YtkmmlcnoeeaekaaGreatDoorPaintListM7
import Derived.Deep.MidRow
import Derived.Deep.WholeRow
import Derived.Test.YtkmmlcnoeeaekaaGreatDoorPaintListM17
import Derived.Test.YtkmmlcnoeeaekaaGreatDoorPaintListM4
import Derived.Test.YtkmmlcnoeeaekaaGreatDoorPaintListM6
import Derived.Test.YtkmmlcnoeeaekaaGreatDoorPaintListM8
import Derived.Great.Walk
import Derived.Laws.CopyOwn
/- Storing a long array whole. -/
namespace Go.Proofs.YtkmmlcnoeeaekaaGreatDoor
open Go.RowKit
set_option linter.unusedVariables false

def setFrom (cs : Array Value) : Nat → List Value → Array Value
  | _, [] => cs
  | o, v :: r => setFrom (cs.setIfInBounds o v) (o + 1) r
theorem setFrom_size : ∀ (vs : List Value) (cs : Array Value) (o : Nat), (setFrom cs o vs).size = cs.size
  | [], _, _ => rfl
  | v :: r, cs, o => by rw [setFrom, setFrom_size r]; simp
theorem setFrom_at : ∀ (vs : List Value) (cs : Array Value) (o i : Nat), o + vs.length ≤ cs.size → (setFrom cs o vs)[i]? = if o ≤ i ∧ i < o + vs.length then vs[i - o]? else cs[i]?
  | [], cs, o, i, h => by rw [setFrom, if_neg (by simp)]
  | v :: r, cs, o, i, h => by
    simp only [List.length_cons] at h
    rw [setFrom, setFrom_at r _ _ _ (by simp; omega)]
    by_cases h1 : o + 1 ≤ i ∧ i < o + 1 + r.length
    · rw [if_pos h1, if_pos (by simp; omega), show i - o = (i - (o + 1)) + 1 from by omega, List.getElem?_cons_succ]
    · rw [if_neg h1, Array.getElem?_setIfInBounds]
      by_cases h2 : o = i
      · subst h2; rw [if_pos rfl, if_pos (by omega), if_pos (by simp)]; simp
      · rw [if_neg h2, if_neg (by simp; omega)]
theorem setFrom_all (vs cs : Array Value) (h : vs.size = cs.size) : setFrom cs 0 vs.toList = vs := by
  apply Array.ext_getElem?
  intro i
  rw [setFrom_at _ _ _ _ (by simp; omega)]
  by_cases hi : i < vs.size
  · rw [if_pos (by simp; omega)]; simp
  · rw [if_neg (by simp; omega), Array.getElem?_eq_none (by omega), Array.getElem?_eq_none (by omega)]
theorem Blk.setFrom {t : TypeId} {g : Nat} : ∀ (vs : List Value) (o : Nat) (w : World) (cs : Array Value), Blk w g t cs → Blk (w.setCells g o vs) g t (setFrom cs o vs)
  | [], _, _, _, h => h
  | v :: r, o, w, cs, h => by rw [World.setCells, Proofs.YtkmmlcnoeeaekaaGreatDoor.setFrom]; exact Blk.setFrom r _ _ _ (Blk.stored h o v)
theorem Blk.setAll {t : TypeId} {g : Nat} {w : World} {cs : Array Value} (h : Blk w g t cs) (vs : Array Value) (hs : vs.size = cs.size) : Blk (w.setCells g 0 vs.toList) g t vs := by
  have := Blk.setFrom vs.toList 0 w cs h
  rwa [setFrom_all vs cs hs] at this
theorem Blk.farCells {t : TypeId} {g b : Nat} (hb : g ≠ b) : ∀ (vs : List Value) (o : Nat) (w : World) (cs : Array Value), Blk w g t cs → Blk (w.setCells b o vs) g t cs
  | [], _, _, _, h => h
  | v :: r, o, w, cs, h => by rw [World.setCells]; exact Blk.farCells hb r _ _ _ (Blk.far h hb v)
theorem below_setCells {W : World} {b : Nat} (hb : W.heap.size ≤ b) : ∀ (vs : List Value) (o : Nat) (w : World), Below W.heap.size W w → Below W.heap.size W (w.setCells b o vs)
  | [], _, _, h => h
  | v :: r, o, w, h => by rw [World.setCells]; exact below_setCells hb r _ _ (below_set h hb v)
theorem Blk.there {t : TypeId} {g : Nat} {w : World} {cs : Array Value} (h : Blk w g t cs) (n : Nat) (hn : n ≤ cs.size) : w.there g 0 n := fun j hj => by
  rw [Nat.zero_add]; exact ⟨by rw [h.cell]; simp; omega, h.free j⟩
theorem zs_range (zs : List Int) (n : Nat) (h : zs.length = n) : zs = (List.range n).map (fun i => zs.getD i 0) := by
  apply List.ext_getElem
  · simp [h]
  · intro i h1 h2; simp [List.getD, h1]
theorem sty_one (zs : List Int) : (sty zs).all (·.oneCell') = true := by
  unfold sty; simp [Value.oneCell']
end Go.Proofs.YtkmmlcnoeeaekaaGreatDoor
/- A style's values, one by one. -/
namespace Go.Proofs.YtkmmlcnoeeaekaaGreatDoor
open Go.RowKit
set_option linter.unusedVariables false
set_option linter.unusedSimpArgs false

/-- The k-th row of a list of styles. -/
def srow (lz : List Int) (k : Nat) : List Int := (List.range 118).map (fun j => lz.getD (k * 118 + j) 0)
theorem srow_len (lz : List Int) (k : Nat) : (srow lz k).length = 118 := by simp [srow]
theorem styles_row {w : World} {B : Nat} {A : Option Addr} {lz : List Int} {nl k : Nat} (h : Holds w B A (ints lz)) (hl : lz.length = nl * 118) (hk : k < nl) :
    ∃ b off, A = some ⟨b, off, none⟩ ∧ b < B ∧ w.rangeAt b (off + k * 118) (sty (srow lz k)).toList := by
  have hlen : (ints lz).length = nl * 118 := by simp [ints, hl]
  have hb : k * 118 + 118 ≤ nl * 118 := by omega
  obtain ⟨b, off, e, hlt, hc⟩ := h (by omega)
  refine ⟨b, off, e, hlt, fun j v hv => ?_⟩
  have hj : j < 118 := by
    have h1 := (List.getElem?_eq_some_iff.1 hv).1
    rw [Array.length_toList, sty_size, srow_len] at h1
    exact h1
  have h1 := hc (k * 118 + j) (by omega)
  rw [Nat.add_assoc, h1]
  rw [show (sty (srow lz k)).toList[j]? = (sty (srow lz k))[j]? by simp, sty_at _ _ (by rw [srow_len]; exact hj)] at hv
  rw [← hv]
  have hk' : k * 118 + j < lz.length := by omega
  simp [ints, List.getD, srow, hj, hk']
theorem sty_cut (zs : List Int) (hz : zs.length = 118) (p : Nat) (hp : p < 59) : (sty zs).extract (p * 2) (p * 2 + 2) = #[.int .i64 (zs.getD (p * 2) 0), .int .i64 (zs.getD (p * 2 + 1) 0)] := by
  apply Array.ext
  · simp [sty_size, hz]; omega
  · intro i h1 h2
    simp only [List.size_toArray, List.length_cons, List.length_nil] at h2
    have hi : i = 0 ∨ i = 1 := by omega
    rcases hi with rfl | rfl
    · simp [sty, List.getD, show p * 2 < zs.length by omega]
    · simp [sty, List.getD, show p * 2 + 1 < zs.length by omega]
theorem idx_val (zs : List Int) (hz : zs.length = 118) (p : Nat) (hp : p < 59) (w : World) : (Instr.index 35 (.agg (sty zs)) (.int .i64 p)).run Tryz.prog w = .ok (.agg #[.int .i64 (zs.getD (p * 2) 0), .int .i64 (zs.getD (p * 2 + 1) 0)]) w := by
  have h1 : (p : Int) < 59 := by omega
  have hc := sty_cut zs hz p hp
  have ha : ∀ w, (isAgg 33).run Tryz.prog w = .ok true w := fun _ => by kernel_rfl
  have hs : ∀ w, (sizeOf 33).run Tryz.prog w = .ok 2 w := fun _ => by kernel_rfl
  rw [← hc]
  unfold Instr.index
  simp [asIntOf, run_underlying Tryz.underlying35, h1]
  rw [if_pos hp]
  unfold Go.part
  simp [ha, hs]
theorem zsc_size : (Tryz.zeroCells35).size = 118 := by kernel_rfl
/-- A look laid in a variable of its own. -/
theorem sty_laid (zs : List Int) (hz : zs.length = 118) (w : World) : (Tryz.prog.info? 35).map (·.size) = some (sty zs).size ∧ (w.alloc (.cells Tryz.zeroCells35 35)).there w.heap.size 0 (sty zs).size ∧
    ∃ w2, (w.alloc (.cells Tryz.zeroCells35 35)).setCells w.heap.size 0 (sty zs).toList = w2 ∧ Blk w2 w.heap.size 35 (sty zs) ∧ Below w.heap.size w w2 ∧ w2.heap.size = w.heap.size + 1 := by
  have hs : (sty zs).size = 118 := by rw [sty_size]; exact hz
  refine ⟨by rw [hs]; kernel_rfl, (Blk.new w _ Tryz.zeroCells35).there _ (by rw [hs, zsc_size]; omega), _, rfl, (Blk.new w _ Tryz.zeroCells35).setAll (sty zs) (by rw [hs, zsc_size]), below_setCells (Nat.le_refl _) _ _ _ (below_alloc (Below.refl _ _) _), ?_⟩
  have : ∀ (vs : List Value) (o : Nat) (w' : World), (w'.setCells w.heap.size o vs).heap.size = w'.heap.size := by
    intro vs
    induction vs with
    | nil => intro o w'; rfl
    | cons v r ih => intro o w'; rw [World.setCells, ih]; simp
  rw [this, alloc_size]
end Go.Proofs.YtkmmlcnoeeaekaaGreatDoor
/- Contracts: paint.Clips, paint.Inner, the reference's Inner. -/
namespace Go.Proofs.YtkmmlcnoeeaekaaGreatDoor
open Go.RowKit Go.Great
set_option linter.unusedVariables false
set_option linter.unusedSimpArgs false
attribute [local go_sem high] run_min2 run_max2

theorem clips_calls (zs : List Int) (kind : Int) (w : World) (hz : zs.length = 118) :
    Calls Tryz.prog 44 #[.int .i64 kind, .agg (sty zs)] w fun e w' => e = .returned (.bool (decide (stN zs 32 = 1) && decide (kind ≠ 3) && decide (kind ≠ 4))) ∧ Below w.heap.size w w' := by
  have HB := Lib.hid (below_alloc (Below.refl w.heap.size w) (.cells (sty zs) 35))
  have c65 : (w.alloc (.cells (sty zs) 35)).cell? ⟨w.heap.size, 65, none⟩ = some (.int .i64 (stN zs 32)) := ((Blk.new w 35 (sty zs)).cell 65).trans (sty_at zs 65 (by omega))
  generalize stN zs 32 = v at c65 ⊢
  by_cases h1 : v = 1
  · have q1 : (v == 1) = true := by simp [h1]
    by_cases h2 : kind = 3
    · have q2 : (kind != 3) = false := by simp [h2]
      have HE : Hid ((decide (v = 1) && decide (kind ≠ 3) && decide (kind ≠ 4)) = false) := by show _ = _; simp [h2]
      clear h1 h2
      go_enter Tryz.func44, Tryz.ntmps44
      go_wp2_with fail
      go_ret
      exact ⟨by rw [HE.out]; rfl, HB.out⟩
    · have q2 : (kind != 3) = true := by simp [h2]
      have HE : Hid ((decide (v = 1) && decide (kind ≠ 3) && decide (kind ≠ 4)) = (kind != 4)) := by show _ = _; rw [Bool.eq_iff_iff]; simp [h1, h2]
      clear h1 h2
      go_enter Tryz.func44, Tryz.ntmps44
      go_wp2_with fail
      go_ret
      exact ⟨by rw [HE.out]; rfl, HB.out⟩
  · have q1 : (v == 1) = false := by simp [h1]
    have HE : Hid ((decide (v = 1) && decide (kind ≠ 3) && decide (kind ≠ 4)) = false) := by show _ = _; simp [h1]
    clear h1
    go_enter Tryz.func44, Tryz.ntmps44
    go_wp2_with fail
    go_ret
    exact ⟨by rw [HE.out]; rfl, HB.out⟩
def edge (zs : List Int) (p : Int) : Int := max 0 (len4 zs p 0)
theorem edge_bd (zs : List Int) (p : Int) : 0 ≤ edge zs p ∧ edge zs p ≤ 16777216 := by
  have h : -16777216 ≤ len4 zs p 0 ∧ len4 zs p 0 ≤ 16777216 := by
    unfold len4
    split
    · exact ofN_bd _ _ _
    · omega
  unfold edge; omega
def FragB (f : FragV) : Prop := -16777216 ≤ f.x ∧ f.x ≤ 16777216 ∧ -16777216 ≤ f.y ∧ f.y ≤ 16777216 ∧ -16777216 ≤ f.w ∧ f.w ≤ 16777216 ∧ -16777216 ≤ f.h ∧ f.h ≤ 16777216
/-- The padding box. -/
def innerR (f : FragV) (zs : List Int) : RectV := ⟨f.x + edge zs 22, f.y + edge zs 19, max 0 (f.w - edge zs 22 - edge zs 20), max 0 (f.h - edge zs 19 - edge zs 21)⟩
theorem inner_ok {f : FragV} {zs : List Int} (h : FragB f) : RectOk (innerR f zs) := by
  obtain ⟨a0, a1, b0, b1, c0, c1, d0, d1⟩ := h
  have e1 := edge_bd zs 22
  have e2 := edge_bd zs 19
  have e3 := edge_bd zs 20
  have e4 := edge_bd zs 21
  unfold innerR
  constructor <;> simp only <;> omega
theorem range_blkA {w : World} {g : Nat} {T : TypeId} {zs : List Int} (h : Blk w g T (sty zs)) : w.rangeAt g 0 (sty zs).toList := fun j u hu => by
  rw [Nat.zero_add, h.cell j]
  simpa using hu
theorem frameL_calls (zs : List Int) (w : World) (hz : zs.length = 118) : ∃ a0 a1 a2 a3 c0 c1 c2 c3 : Int,
    Calls Tryz.prog 79 #[.agg (sty zs), .int .i64 0] w fun e w' => e = .returned (.tuple #[.agg #[.int .i64 a0, .int .i64 a1, .int .i64 a2, .int .i64 a3], .agg #[.int .i64 (edge zs 19), .int .i64 (edge zs 20), .int .i64 (edge zs 21), .int .i64 (edge zs 22)], .agg #[.int .i64 c0, .int .i64 c1, .int .i64 c2, .int .i64 c3]]) ∧ Below w.heap.size w w' :=
  ⟨_, _, _, _, _, _, _, _, frame_calls zs 0 w hz⟩
set_option maxRecDepth 100000 in
set_option maxHeartbeats 4000000 in
theorem inner_calls (zs : List Int) (f : FragV) (w : World) (hz : zs.length = 118) (hf : FragB f) :
    Calls Tryz.prog 45 #[.agg (fragC f), .agg (sty zs)] w fun e w' => e = .returned (.agg (rectC (innerR f zs))) ∧ Below w.heap.size w w' := by
  have HSZL : Hid ((Tryz.prog.info? 35).map (·.size) = some (sty zs).toList.length) := by show _ = _; rw [Array.length_toList, sty_size, hz]; kernel_rfl
  have hs1 : (w.alloc (.cells (fragC f) 88)).heap.size = w.heap.size + 1 := by simp
  have hs2 : ((w.alloc (.cells (fragC f) 88)).alloc (.cells (sty zs) 35)).heap.size = w.heap.size + 2 := by simp
  have h1 := (((Blk.new w 88 (fragC f)).alloc (.cells (sty zs) 35)).alloc (.cells #[.int .i64 0, .int .i64 0, .int .i64 0, .int .i64 0] 96))
  have h2 := (Blk.new (w.alloc (.cells (fragC f) 88)) 35 (sty zs)).alloc (.cells #[.int .i64 0, .int .i64 0, .int .i64 0, .int .i64 0] 96)
  have h3 := Blk.new ((w.alloc (.cells (fragC f) 88)).alloc (.cells (sty zs) 35)) 96 #[.int .i64 0, .int .i64 0, .int .i64 0, .int .i64 0]
  have hb := below_alloc (below_alloc (below_alloc (Below.refl w.heap.size w) (.cells (fragC f) 88)) (.cells (sty zs) 35)) (.cells #[.int .i64 0, .int .i64 0, .int .i64 0, .int .i64 0] 96)
  rw [hs1] at h2
  rw [hs2] at h3
  have H1 := Lib.hid h1
  have H2 := Lib.hid h2
  have H3 := Lib.hid h3
  have HB := Lib.hid hb
  clear h1 h2 h3 hb hs1 hs2
  unfold fragC at H1 H2 H3 HB ⊢
  go_enter Tryz.func45, Tryz.ntmps45
  go_upto_region 1 with fail
  generalize World.alloc (World.alloc (World.alloc w _) _) _ = wx at H1 H2 H3 HB ⊢
  obtain ⟨a0, a1, a2, a3, c0, c1, c2, c3, hfr⟩ := frameL_calls zs wx hz
  have HFR := Lib.hid hfr
  have HRG := Lib.hid (range_blkA H2.out)
  clear hfr
  go_upto_region 2 with (first | (refine wpList_load_mid rfl 35 _ rfl (w.heap.size + 1) 0 rfl (sty zs).toList _ HRG.out Tryz.underlying35 rfl HSZL.out ?_) | (go_at_call 79; refine HFR.out.mono ?_; rintro e w1 ⟨rfl, hb1⟩; have HF1 := Lib.hid (H1.out.below hb1 H1.out.lt); have HR1 := Lib.hid (H3.out.below hb1 H3.out.lt); have HB1 := Lib.hid (below_then HB.out hb1); clear hb1))
  have hl0 := H1.out.lt
  have hbs := HB1.out.size
  have X1 := Lib.hid (((HF1.out.alloc (.cells #[.int .i64 a0, .int .i64 a1, .int .i64 a2, .int .i64 a3] 141)).alloc (.cells #[.int .i64 (edge zs 19), .int .i64 (edge zs 20), .int .i64 (edge zs 21), .int .i64 (edge zs 22)] 141)).alloc (.cells #[.int .i64 c0, .int .i64 c1, .int .i64 c2, .int .i64 c3] 141))
  have X2 := Lib.hid (((HR1.out.alloc (.cells #[.int .i64 a0, .int .i64 a1, .int .i64 a2, .int .i64 a3] 141)).alloc (.cells #[.int .i64 (edge zs 19), .int .i64 (edge zs 20), .int .i64 (edge zs 21), .int .i64 (edge zs 22)] 141)).alloc (.cells #[.int .i64 c0, .int .i64 c1, .int .i64 c2, .int .i64 c3] 141))
  have x3 := (Blk.new (w1.alloc (.cells #[.int .i64 a0, .int .i64 a1, .int .i64 a2, .int .i64 a3] 141)) 141 #[.int .i64 (edge zs 19), .int .i64 (edge zs 20), .int .i64 (edge zs 21), .int .i64 (edge zs 22)]).alloc (.cells #[.int .i64 c0, .int .i64 c1, .int .i64 c2, .int .i64 c3] 141)
  have hsz : (w1.alloc (.cells #[.int .i64 a0, .int .i64 a1, .int .i64 a2, .int .i64 a3] 141)).heap.size = w1.heap.size + 1 := by simp
  rw [hsz] at x3
  have X3 := Lib.hid x3
  have X4 := Lib.hid (below_alloc (below_alloc (below_alloc HB1.out (.cells #[.int .i64 a0, .int .i64 a1, .int .i64 a2, .int .i64 a3] 141)) (.cells #[.int .i64 (edge zs 19), .int .i64 (edge zs 20), .int .i64 (edge zs 21), .int .i64 (edge zs 22)] 141)) (.cells #[.int .i64 c0, .int .i64 c1, .int .i64 c2, .int .i64 c3] 141))
  clear x3 hsz HF1 HR1 HB1 HFR HRG H1 H2 H3 HB hl0 hbs
  generalize World.alloc (World.alloc (World.alloc w1 _) _) _ = w2 at X1 X2 X3 X4 ⊢
  generalize w1.heap.size + 1 = gE at X3 ⊢
  have v3 : w2.cell? ⟨w.heap.size, 3, none⟩ = some (.int .i64 f.x) := X1.out.cell 3
  have v4 : w2.cell? ⟨w.heap.size, 4, none⟩ = some (.int .i64 f.y) := X1.out.cell 4
  have v5 : w2.cell? ⟨w.heap.size, 5, none⟩ = some (.int .i64 f.w) := X1.out.cell 5
  have v6 : w2.cell? ⟨w.heap.size, 6, none⟩ = some (.int .i64 f.h) := X1.out.cell 6
  have u0 : w2.cell? ⟨gE, 0, none⟩ = some (.int .i64 (edge zs 19)) := X3.out.cell 0
  have u1 : w2.cell? ⟨gE, 1, none⟩ = some (.int .i64 (edge zs 20)) := X3.out.cell 1
  have u2 : w2.cell? ⟨gE, 2, none⟩ = some (.int .i64 (edge zs 21)) := X3.out.cell 2
  have u3 : w2.cell? ⟨gE, 3, none⟩ = some (.int .i64 (edge zs 22)) := X3.out.cell 3
  have e1 := edge_bd zs 22
  have e2 := edge_bd zs 19
  have e3 := edge_bd zs 20
  have e4 := edge_bd zs 21
  obtain ⟨b0, b1, b2, b3, b4, b5, b6, b7⟩ := hf
  have HRES : Hid (rectC (innerR f zs) = #[.int .i64 (f.x + edge zs 22), .int .i64 (f.y + edge zs 19), .int .i64 (max 0 (f.w - edge zs 22 - edge zs 20)), .int .i64 (max 0 (f.h - edge zs 19 - edge zs 21))]) := rfl
  generalize edge zs 22 = eL at u3 e1 HRES
  generalize edge zs 19 = eT at u0 e2 HRES
  generalize edge zs 20 = eR at u1 e3 HRES
  generalize edge zs 21 = eB at u2 e4 HRES
  have p1 : wrap64 (f.x + eL) = f.x + eL := by unfold wrap64; omega
  have p2 : wrap64 (f.y + eT) = f.y + eT := by unfold wrap64; omega
  have p3 : wrap64 (f.w - eL) = f.w - eL := by unfold wrap64; omega
  have p4 : wrap64 (f.w - eL - eR) = f.w - eL - eR := by unfold wrap64; omega
  have p5 : wrap64 (f.h - eT) = f.h - eT := by unfold wrap64; omega
  have p6 : wrap64 (f.h - eT - eB) = f.h - eT - eB := by unfold wrap64; omega
  clear b0 b1 b2 b3 b4 b5 b6 b7 e1 e2 e3 e4
  rw [show w.heap.size + 1 + 1 = w.heap.size + 2 from rfl]
  go_wp2_with (refine wpList_store_rowTo rfl 96 _ _ rfl rfl (w.heap.size + 2) #[.int .i64 (f.x + eL), .int .i64 (f.y + eT), .int .i64 (max 0 (f.w - eL - eR)), .int .i64 (max 0 (f.h - eT - eB))] rfl rfl _ _ X2.out (by kernel_rfl) (by kernel_rfl) (by kernel_rfl) ?_)
  have hR := setRow_heap w2 (w.heap.size + 2) _ #[.int .i64 (f.x + eL), .int .i64 (f.y + eT), .int .i64 (max 0 (f.w - eL - eR)), .int .i64 (max 0 (f.h - eT - eB))] _ _ X2.out
  exact bodyPost_ret (v := .agg #[.int .i64 (f.x + eL), .int .i64 (f.y + eT), .int .i64 (max 0 (f.w - eL - eR)), .int .i64 (max 0 (f.h - eT - eB))]) (results_cell_row Tryz.results45 _ _ (w.heap.size + 2) 96 _ (0, 0) _ rfl hR Tryz.underlying96 rfl (by kernel_rfl)) rfl ⟨by rw [HRES.out], below_setRow X4.out (by omega) _⟩
end Go.Proofs.YtkmmlcnoeeaekaaGreatDoor
/- Contract: the reference's Inner. -/
namespace Go.Proofs.YtkmmlcnoeeaekaaGreatDoor
open Go.RowKit Go.Great
set_option linter.unusedVariables false
set_option linter.unusedSimpArgs false
attribute [local go_sem high] run_min2 run_max2

theorem redgesL_calls (zs : List Int) (w : World) (hz : zs.length = 118) :
    Calls Tryz.prog 80 #[.agg (sty zs), .int .i64 19, .int .i64 0, .bool true] w fun e w' => e = .returned (.agg #[.int .i64 (edge zs 19), .int .i64 (edge zs 20), .int .i64 (edge zs 21), .int .i64 (edge zs 22)]) ∧ Below w.heap.size w w' :=
  redges_calls zs 19 0 true w hz (by decide) (by decide)
set_option maxRecDepth 100000 in
set_option maxHeartbeats 4000000 in
theorem rinner_calls (zs : List Int) (f : FragV) (w : World) (hz : zs.length = 118) (hf : FragB f) :
    Calls Tryz.prog 50 #[.agg (fragC f), .agg (sty zs)] w fun e w' => e = .returned (.agg (rectC (innerR f zs))) ∧ Below w.heap.size w w' := by
  have HSZL : Hid ((Tryz.prog.info? 35).map (·.size) = some (sty zs).toList.length) := by show _ = _; rw [Array.length_toList, sty_size, hz]; kernel_rfl
  have hs1 : (w.alloc (.cells (fragC f) 88)).heap.size = w.heap.size + 1 := by simp
  have hs2 : ((w.alloc (.cells (fragC f) 88)).alloc (.cells (sty zs) 35)).heap.size = w.heap.size + 2 := by simp
  have h1 := (((Blk.new w 88 (fragC f)).alloc (.cells (sty zs) 35)).alloc (.cells #[.int .i64 0, .int .i64 0, .int .i64 0, .int .i64 0] 96))
  have h2 := (Blk.new (w.alloc (.cells (fragC f) 88)) 35 (sty zs)).alloc (.cells #[.int .i64 0, .int .i64 0, .int .i64 0, .int .i64 0] 96)
  have h3 := Blk.new ((w.alloc (.cells (fragC f) 88)).alloc (.cells (sty zs) 35)) 96 #[.int .i64 0, .int .i64 0, .int .i64 0, .int .i64 0]
  have hb := below_alloc (below_alloc (below_alloc (Below.refl w.heap.size w) (.cells (fragC f) 88)) (.cells (sty zs) 35)) (.cells #[.int .i64 0, .int .i64 0, .int .i64 0, .int .i64 0] 96)
  rw [hs1] at h2
  rw [hs2] at h3
  have H1 := Lib.hid h1
  have H2 := Lib.hid h2
  have H3 := Lib.hid h3
  have HB := Lib.hid hb
  clear h1 h2 h3 hb hs1 hs2
  unfold fragC at H1 H2 H3 HB ⊢
  go_enter Tryz.func50, Tryz.ntmps50
  go_upto_region 1 with fail
  generalize World.alloc (World.alloc (World.alloc w _) _) _ = wx at H1 H2 H3 HB ⊢
  have HFR := Lib.hid (redgesL_calls zs wx hz)
  have HRG := Lib.hid (range_blkA H2.out)
  go_upto_region 2 with (first | (refine wpList_load_mid rfl 35 _ rfl (w.heap.size + 1) 0 rfl (sty zs).toList _ HRG.out Tryz.underlying35 rfl HSZL.out ?_) | (go_at_call 80; refine HFR.out.mono ?_; rintro e w1 ⟨rfl, hb1⟩; have HF1 := Lib.hid (H1.out.below hb1 H1.out.lt); have HR1 := Lib.hid (H3.out.below hb1 H3.out.lt); have HB1 := Lib.hid (below_then HB.out hb1); clear hb1))
  have hl0 := H1.out.lt
  have hbs := HB1.out.size
  have X1 := Lib.hid (HF1.out.alloc (.cells #[.int .i64 (edge zs 19), .int .i64 (edge zs 20), .int .i64 (edge zs 21), .int .i64 (edge zs 22)] 141))
  have X2 := Lib.hid (HR1.out.alloc (.cells #[.int .i64 (edge zs 19), .int .i64 (edge zs 20), .int .i64 (edge zs 21), .int .i64 (edge zs 22)] 141))
  have X3 := Lib.hid (Blk.new w1 141 #[.int .i64 (edge zs 19), .int .i64 (edge zs 20), .int .i64 (edge zs 21), .int .i64 (edge zs 22)])
  have X4 := Lib.hid (below_alloc HB1.out (.cells #[.int .i64 (edge zs 19), .int .i64 (edge zs 20), .int .i64 (edge zs 21), .int .i64 (edge zs 22)] 141))
  clear HF1 HR1 HB1 HFR HRG H1 H2 H3 HB hl0 hbs
  generalize World.alloc w1 _ = w2 at X1 X2 X3 X4 ⊢
  generalize w1.heap.size = gE at X3 ⊢
  have v3 : w2.cell? ⟨w.heap.size, 3, none⟩ = some (.int .i64 f.x) := X1.out.cell 3
  have v4 : w2.cell? ⟨w.heap.size, 4, none⟩ = some (.int .i64 f.y) := X1.out.cell 4
  have v5 : w2.cell? ⟨w.heap.size, 5, none⟩ = some (.int .i64 f.w) := X1.out.cell 5
  have v6 : w2.cell? ⟨w.heap.size, 6, none⟩ = some (.int .i64 f.h) := X1.out.cell 6
  have u0 : w2.cell? ⟨gE, 0, none⟩ = some (.int .i64 (edge zs 19)) := X3.out.cell 0
  have u1 : w2.cell? ⟨gE, 1, none⟩ = some (.int .i64 (edge zs 20)) := X3.out.cell 1
  have u2 : w2.cell? ⟨gE, 2, none⟩ = some (.int .i64 (edge zs 21)) := X3.out.cell 2
  have u3 : w2.cell? ⟨gE, 3, none⟩ = some (.int .i64 (edge zs 22)) := X3.out.cell 3
  have e1 := edge_bd zs 22
  have e2 := edge_bd zs 19
  have e3 := edge_bd zs 20
  have e4 := edge_bd zs 21
  obtain ⟨b0, b1, b2, b3, b4, b5, b6, b7⟩ := hf
  have HRES : Hid (rectC (innerR f zs) = #[.int .i64 (f.x + edge zs 22), .int .i64 (f.y + edge zs 19), .int .i64 (max 0 (f.w - edge zs 22 - edge zs 20)), .int .i64 (max 0 (f.h - edge zs 19 - edge zs 21))]) := rfl
  generalize edge zs 22 = eL at u3 e1 HRES
  generalize edge zs 19 = eT at u0 e2 HRES
  generalize edge zs 20 = eR at u1 e3 HRES
  generalize edge zs 21 = eB at u2 e4 HRES
  have p1 : wrap64 (f.x + eL) = f.x + eL := by unfold wrap64; omega
  have p2 : wrap64 (f.y + eT) = f.y + eT := by unfold wrap64; omega
  have p3 : wrap64 (f.w - eL) = f.w - eL := by unfold wrap64; omega
  have p4 : wrap64 (f.w - eL - eR) = f.w - eL - eR := by unfold wrap64; omega
  have p5 : wrap64 (f.h - eT) = f.h - eT := by unfold wrap64; omega
  have p6 : wrap64 (f.h - eT - eB) = f.h - eT - eB := by unfold wrap64; omega
  clear b0 b1 b2 b3 b4 b5 b6 b7 e1 e2 e3 e4
  rw [show w.heap.size + 1 + 1 = w.heap.size + 2 from rfl]
  go_wp2_with (refine wpList_store_rowTo rfl 96 _ _ rfl rfl (w.heap.size + 2) #[.int .i64 (f.x + eL), .int .i64 (f.y + eT), .int .i64 (max 0 (f.w - eL - eR)), .int .i64 (max 0 (f.h - eT - eB))] rfl rfl _ _ X2.out (by kernel_rfl) (by kernel_rfl) (by kernel_rfl) ?_)
  have hR := setRow_heap w2 (w.heap.size + 2) _ #[.int .i64 (f.x + eL), .int .i64 (f.y + eT), .int .i64 (max 0 (f.w - eL - eR)), .int .i64 (max 0 (f.h - eT - eB))] _ _ X2.out
  exact bodyPost_ret (v := .agg #[.int .i64 (f.x + eL), .int .i64 (f.y + eT), .int .i64 (max 0 (f.w - eL - eR)), .int .i64 (max 0 (f.h - eT - eB))]) (results_cell_row Tryz.results50 _ _ (w.heap.size + 2) 96 _ (0, 0) _ rfl hR Tryz.underlying96 rfl (by kernel_rfl)) rfl ⟨by rw [HRES.out], below_setRow X4.out (by omega) _⟩
end Go.Proofs.YtkmmlcnoeeaekaaGreatDoor
