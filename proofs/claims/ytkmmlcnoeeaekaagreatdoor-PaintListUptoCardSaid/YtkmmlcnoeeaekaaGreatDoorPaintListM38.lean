/- Several texts in one: PaintA, PaintB. -/
import Derived.Test.YtkmmlcnoeeaekaaGreatDoorPaintListM8
import Derived.Test.YtkmmlcnoeeaekaaGreatDoorPaintListM37
import Derived.Deep.QuietTactic
import Derived.BigQuiet
import Derived.Laws.BitsLemmas
import Derived.Test.YtkmmlcnoeeaekaaGreatDoorPaintListM18
import Derived.Test.YtkmmlcnoeeaekaaGreatDoorPaintListM4
import Derived.Deep.RegionHeld3
/- Commands of fragments: plain words; contracts of items.Size, font.Ascent, the reference's, paint's fill and fills. -/
namespace Go.Proofs.YtkmmlcnoeeaekaaGreatDoor
open Go.RowKit
set_option linter.unusedVariables false
set_option linter.unusedSimpArgs false
attribute [local go_sem high] run_min2 run_max2

/-- A command: Do, Node, X, Y, W, H, Color, N, Text. -/
structure CmdV where
  d : Int
  node : Int
  x : Int
  y : Int
  w : Int
  h : Int
  color : Int
  n : Int
  text : ByteArray
def CmdV.zero : CmdV := ⟨0, 0, 0, 0, 0, 0, 0, 0, ⟨#[]⟩⟩
def cmdF (c : CmdV) : List Value := [.int .i64 c.d, .int .i64 c.node, .int .i64 c.x, .int .i64 c.y, .int .i64 c.w, .int .i64 c.h, .int .i64 c.color, .int .i64 c.n, .string c.text]
def cmds (l : List CmdV) : List Value := l.flatMap cmdF
theorem cmds_snoc (l : List CmdV) (c : CmdV) : cmds (l ++ [c]) = cmds l ++ cmdF c := by simp [cmds]
theorem info_cmd : (Tryz.prog.info? 64).map (fun i => (i.zero, i.size, i.bytes)) = some (some (.agg #[.int .i64 0, .int .i64 0, .int .i64 0, .int .i64 0, .int .i64 0, .int .i64 0, .int .i64 0, .int .i64 0, .string ⟨#[]⟩]), 9, 80) := by kernel_rfl
def sz (n : Int) : Int := max 0 (cut n)
theorem sz_bd (n : Int) : 0 ≤ sz n ∧ sz n ≤ 16777216 := by have := cut_hi n; unfold sz; omega
theorem fcut_calls (n : Int) (w : World) :
    Calls Tryz.prog 138 #[.int .i64 n] w fun e w' => e = .returned (.int .i64 (sz n)) ∧ w = w' := by
  go_enter Tryz.func138, Tryz.ntmps138
  go_wp2_with (go_at_call 40; refine (cut_calls _ _).mono ?_; rintro e w' ⟨rfl, rfl⟩)
  go_ret
  exact ⟨rfl, rfl⟩
theorem rsize_calls (n : Int) (w : World) :
    Calls Tryz.prog 144 #[.int .i64 n] w fun e w' => e = .returned (.int .i64 (sz n)) ∧ w = w' := by
  go_enter Tryz.func144, Tryz.ntmps144
  go_wp2_with (go_at_call 38; refine (rcut_calls _ _).mono ?_; rintro e w' ⟨rfl, rfl⟩)
  go_ret
  exact ⟨rfl, rfl⟩
theorem ascent_calls (n : Int) (w : World) :
    Calls Tryz.prog 83 #[.int .i64 n] w fun e w' => e = .returned (.int .i64 (part (sz n) 3 4)) ∧ w = w' := by
  go_enter Tryz.func83, Tryz.ntmps83
  go_wp2_with (first | (go_at_call 138; refine (fcut_calls _ _).mono ?_; rintro e w' ⟨rfl, rfl⟩) | (go_at_call 137; refine (part_calls _ _ _ _).mono ?_; rintro e w' ⟨rfl, rfl⟩))
  go_ret
  exact ⟨rfl, rfl⟩
theorem rascent_calls (n : Int) (w : World) :
    Calls Tryz.prog 93 #[.int .i64 n] w fun e w' => e = .returned (.int .i64 (part (sz n) 3 4)) ∧ w = w' := by
  go_enter Tryz.func93, Tryz.ntmps93
  go_wp2_with (first | (go_at_call 144; refine (rsize_calls _ _).mono ?_; rintro e w' ⟨rfl, rfl⟩) | (go_at_call 143; refine (rpart_calls _ _ _ _).mono ?_; rintro e w' ⟨rfl, rfl⟩))
  go_ret
  exact ⟨rfl, rfl⟩
set_option maxRecDepth 100000 in
set_option maxHeartbeats 1000000 in
theorem size_calls (zs : List Int) (w : World) (hz : zs.length = 118) :
    Calls Tryz.prog 82 #[.agg (sty zs)] w fun e w' => e = .returned (.int .i64 (sz (stN zs 37))) ∧ Below w.heap.size w w' := by
  have b0 := Blk.new w 35 (sty zs)
  have c0 : (w.alloc (.cells (sty zs) 35)).cell? ⟨w.heap.size, 75, none⟩ = some (.int .i64 (stN zs 37)) := (b0.cell _).trans (sty_at zs _ (by omega))
  have hbel := below_alloc (Below.refl _ w) (.cells (sty zs) 35)
  go_enter Tryz.func82, Tryz.ntmps82
  go_wp2_with (go_at_call 40; refine (cut_calls _ _).mono ?_; rintro e w' ⟨rfl, rfl⟩)
  go_ret
  exact ⟨rfl, hbel⟩
set_option maxRecDepth 100000 in
set_option maxHeartbeats 1000000 in
theorem rsizeS_calls (zs : List Int) (w : World) (hz : zs.length = 118) :
    Calls Tryz.prog 94 #[.agg (sty zs)] w fun e w' => e = .returned (.int .i64 (sz (stN zs 37))) ∧ Below w.heap.size w w' := by
  have b0 := Blk.new w 35 (sty zs)
  have c0 : (w.alloc (.cells (sty zs) 35)).cell? ⟨w.heap.size, 75, none⟩ = some (.int .i64 (stN zs 37)) := (b0.cell _).trans (sty_at zs _ (by omega))
  have hbel := below_alloc (Below.refl _ w) (.cells (sty zs) 35)
  go_enter Tryz.func94, Tryz.ntmps94
  go_wp2_with (go_at_call 144; refine (rsize_calls _ _).mono ?_; rintro e w' ⟨rfl, rfl⟩)
  go_ret
  exact ⟨rfl, hbel⟩
theorem and255 (c : Int) : bits .and .i64 c 255 = c % 256 := by
  have h : ((BitVec.ofInt 64 c) &&& (BitVec.ofInt 64 255)).toNat = (c % 256).toNat := by
    rw [BitVec.toNat_and, BitVec.toNat_ofInt, BitVec.toNat_ofInt]
    have e : ((255 : Int) % (2 ^ 64 : Nat)).toNat = 2 ^ 8 - 1 := by decide
    rw [e, Nat.and_two_pow_sub_one_eq_mod]
    omega
  show IntKind.i64.wrap (((BitVec.ofInt 64 c) &&& (BitVec.ofInt 64 255)).toNat : Int) = _
  rw [h, IntKind.wrap_i64]; omega
/-- Is a fill seen? -/
def seen (c : CmdV) : Bool := decide (0 < c.w) && decide (0 < c.h) && (bits .and .i64 c.color 255 != 0)
theorem cells_at (w : World) (cs : List Value) (t : TypeId) (g : Nat) (hg : w.heap.size = g) : ∀ j u, cs[j]? = some u → (w.alloc (.cells cs.toArray t)).cell? ((⟨g, 0, none⟩ : Addr).add j) = some u := by
  subst hg
  intro j u hj
  have e : (⟨w.heap.size, 0, none⟩ : Addr).add j = ⟨w.heap.size, j, none⟩ := by unfold Addr.add; split <;> simp_all
  rw [e, new_cell]; simpa using hj
theorem cmdF_one (c : CmdV) : ∀ u ∈ cmdF c, u.oneCell' = true := by
  intro u hu
  simp [cmdF] at hu
  rcases hu with rfl | rfl | rfl | rfl | rfl | rfl | rfl | rfl | rfl <;> rfl
set_option maxRecDepth 100000 in
set_option maxHeartbeats 1000000 in
theorem fills_calls (A : Option Addr) (n c B : Nat) (l : List CmdV) (w : World) (hn : l.length = n) (h : Holds w B A (cmds l)) (hm : n ≤ 100) (hB : B ≤ w.heap.size) :
    Calls Tryz.prog 85 #[.slice A n c] w fun e w' => ∃ v, e = .returned v ∧ w'.ownsRow w.heap.size 64 9 v (l.filter seen).length (cmds (l.filter seen)) ∧ Below w.heap.size w w' := by
  obtain ⟨i0, hi, hz0, hz1, hz2⟩ := info_parts info_cmd
  have H := Lib.hid h
  have HN := Lib.hid hn
  clear h hn
  go_enter Tryz.func85, Tryz.ntmps85
  go_wp2_with fail
  go_loopw [3, 8] (fun v i wr => ∃ k : Nat, k ≤ n ∧ i = .int .i64 k ∧ wr.ownsRow w.heap.size 64 9 v ((l.take k).filter seen).length (cmds ((l.take k).filter seen)) ∧ Below w.heap.size w wr) (fun _ i _ => n - (intOf i).toNat)
  case atStart => exact ⟨0, Nat.zero_le _, rfl, World.ownsRow_nil _ _ _ _, Below.refl _ _⟩
  case round =>
    obtain ⟨k, hk, rfl, hown, hbel⟩ := hrel
    have hw := hbel.size
    by_cases hlt : k < n
    · obtain ⟨b, off, rfl, hb, hc⟩ := (H.out.below hbel hB).flat (f := cmdF) 9 (fun _ => rfl) (by omega) CmdV.zero (by rw [HN.out]; exact hlt)
      obtain ⟨⟨d, node, x, y, cw, ch, color, cn, text⟩, hx⟩ : ∃ x, x = l.getD k CmdV.zero := ⟨_, rfl⟩
      have hsn := take_snoc l CmdV.zero k (by rw [HN.out]; exact hlt)
      rw [← hx] at hc hsn
      have c0 := hc 0 _ rfl
      have c1 := hc 1 _ rfl
      have c2 := hc 2 _ rfl
      have c3 := hc 3 _ rfl
      have c4 := hc 4 _ rfl
      have c5 := hc 5 _ rfl
      have c6 := hc 6 _ rfl
      have c7 := hc 7 _ rfl
      have c8 := hc 8 _ rfl
      simp only [Nat.add_zero] at c0
      have HSN := Lib.hid hsn
      have KK := Lib.hid (show k ≤ n ∧ k < n from ⟨hk, hlt⟩)
      clear hc hx hsn
      have hfl : ((l.take k).filter seen).length ≤ k := Nat.le_trans (List.length_filter_le _ _) (by rw [List.length_take]; omega)
      by_cases h1 : 0 < cw
      · by_cases h2 : 0 < ch
        · cases h3 : (bits BinOp.and IntKind.i64 color 255 != 0)
          · skip
            have HF : Hid ((l.take (k + 1)).filter seen = (l.take k).filter seen) := by show _ = _; rw [HSN.out, List.filter_append]; simp [seen, h1, h2, h3]
            go_wp2_with fail
            go_roundw
            case rel => exact ⟨k + 1, by have := KK.out; omega, by go_num, by rw [HF.out]; exact hown.alloc _, below_alloc hbel _⟩
            case measure => have := KK.out; simp [intOf]; omega
          · have HF : Hid ((l.take (k + 1)).filter seen = (l.take k).filter seen ++ [⟨d, node, x, y, cw, ch, color, cn, text⟩]) := by show _ = _; rw [HSN.out, List.filter_append]; simp [seen, h1, h2, h3]
            go_wp2_with ((at_builtin; refine wpList_append_own _ rfl _ _ 57 rfl w.heap.size 64 i0 _ 9 80 Tryz.underlying57 hi hz0 hz1 hz2 rfl (by decide) _ _ _ rfl ((hown.alloc _).alloc _) ⟨wr.heap.size + 1, 0, none⟩ 1 1 (cmdF ⟨d, node, x, y, cw, ch, color, cn, text⟩) rfl rfl (cells_at _ _ _ _ (by simp)) (cmdF_one _) (by unfold maxLen; omega) (by omega) (by simp; omega) ?_; intro v' w1 hown1 hg _))
            have hb1 := below_grown' hown (below_alloc (below_alloc hbel _) _) hg
            go_roundw
            case rel => exact ⟨k + 1, by have := KK.out; omega, by go_num, by rw [HF.out, cmds_snoc, List.length_append]; exact hown1, hb1⟩
            case measure => have := KK.out; simp [intOf]; omega
        · skip
          have HF : Hid ((l.take (k + 1)).filter seen = (l.take k).filter seen) := by show _ = _; rw [HSN.out, List.filter_append]; simp [seen, h2]
          go_wp2_with fail
          go_roundw
          case rel => exact ⟨k + 1, by have := KK.out; omega, by go_num, by rw [HF.out]; exact hown.alloc _, below_alloc hbel _⟩
          case measure => have := KK.out; simp [intOf]; omega
      · skip
        have HF : Hid ((l.take (k + 1)).filter seen = (l.take k).filter seen) := by show _ = _; rw [HSN.out, List.filter_append]; simp [seen, h1]
        go_wp2_with fail
        go_roundw
        case rel => exact ⟨k + 1, by have := KK.out; omega, by go_num, by rw [HF.out]; exact hown.alloc _, below_alloc hbel _⟩
        case measure => have := KK.out; simp [intOf]; omega
    · obtain rfl : k = n := by omega
      rw [List.take_of_length_le (by rw [HN.out]; omega)] at hown
      have HO := Lib.hid hown
      clear hown
      go_wp2_with fail
      go_ret
      exact ⟨_, rfl, HO.out, hbel⟩
end Go.Proofs.YtkmmlcnoeeaekaaGreatDoor
/- Contract of paint's fill. -/
namespace Go.Proofs.YtkmmlcnoeeaekaaGreatDoor
open Go.RowKit
set_option linter.unusedVariables false
set_option linter.unusedSimpArgs false
attribute [local go_sem high] run_min2 run_max2

def fillC (node x y w h color : Int) : CmdV := ⟨1, node, x, y, w, h, color, 0, ⟨#[]⟩⟩
set_option maxRecDepth 100000 in
set_option maxHeartbeats 1000000 in
theorem fill_calls (zs : List Int) (p : Nat) (x y cw ch : Int) (f : FragV) (gf gs : Nat) (w : World) (hz : zs.length = 118) (hp : p < 59) (hF : Blk w gf 88 (fragC f)) (hS : Blk w gs 35 (sty zs)) :
    Calls Tryz.prog 84 #[.int .i64 x, .int .i64 y, .int .i64 cw, .int .i64 ch, .int .i64 p, .pointer (some ⟨gf, 0, none⟩), .pointer (some ⟨gs, 0, none⟩)] w fun e w' => e = .returned (.agg (cmdF (fillC f.node x y cw ch (stN zs p))).toArray) ∧ Below w.heap.size w w' := by
  obtain ⟨node, hn⟩ : ∃ n, n = f.node := ⟨_, rfl⟩
  have hpi : (p : Int) < 59 := by omega
  have hp0 : (0 : Int) ≤ (p : Int) := by omega
  have KEEP : ∀ w', Blk w' gf 88 (fragC f) → Blk w' gs 35 (sty zs) → w'.cell? ⟨gf, 1, none⟩ = some (.int .i64 node) ∧ w'.cell? ⟨gs, p * 2 + 1, none⟩ = some (.int .i64 (stN zs p)) := fun w' h1 h2 => ⟨by rw [hn]; exact h1.cell 1, (h2.cell _).trans (sty_at zs _ (by omega))⟩
  rw [← hn]
  have KEEP' := Lib.hid KEEP
  have HS := Lib.hid hS
  have HF := Lib.hid hF
  have be := (Blk.new w 64 #[.int .i64 0, .int .i64 0, .int .i64 0, .int .i64 0, .int .i64 0, .int .i64 0, .int .i64 0, .int .i64 0, .string ⟨#[]⟩]).drew
  have hF := (hF.alloc (.cells #[.int .i64 0, .int .i64 0, .int .i64 0, .int .i64 0, .int .i64 0, .int .i64 0, .int .i64 0, .int .i64 0, .string ⟨#[]⟩] 64)).drew
  have hS := (hS.alloc (.cells #[.int .i64 0, .int .i64 0, .int .i64 0, .int .i64 0, .int .i64 0, .int .i64 0, .int .i64 0, .int .i64 0, .string ⟨#[]⟩] 64)).drew
  have hbel := (below_alloc (Below.refl _ w) (.cells #[.int .i64 0, .int .i64 0, .int .i64 0, .int .i64 0, .int .i64 0, .int .i64 0, .int .i64 0, .int .i64 0, .string ⟨#[]⟩] 64)).drew
  clear KEEP hn
  go_enter Tryz.func84, Tryz.ntmps84
  go_wp2_with fail
  refine wp_region_noPanic ?_
  refine wp_region_held_drew (S := fun w' => w'.cell? ⟨gf, 1, none⟩ = some (.int .i64 node) ∧ w'.cell? ⟨gs, p * 2 + 1, none⟩ = some (.int .i64 (stN zs p))) (by kernel_rfl) (KEEP'.out _ hF hS) (fun hHeld => ?_)
  refine wpAnyH_take (i := 0) (oi := { dst := some 13, op := _, type := _, pos := _, after := _, guard := _ }) (v := ?_) rfl (by kernel_rfl) (by kernel_rfl) (by kernel_rfl) (fun _ _ _ h => h) (Or.inl ⟨by kernel_rfl, ?_⟩) (by assumption) ?_
  rotate_left 1
  · (intro w hSw; (try dsimp only at hSw); go_simp; try with_reducible rfl)
  try simp only [Act.put, Array.toArray_toList, List.setIfInBounds_toArray, List.set_cons_zero, List.set_cons_succ]
  refine wpAnyH_take (i := 1) (oi := { dst := some 14, op := _, type := _, pos := _, after := _, guard := _ }) (v := ?_) rfl (by kernel_rfl) (by kernel_rfl) (by kernel_rfl) (fun _ _ _ h => h) (Or.inl ⟨by kernel_rfl, ?_⟩) (by assumption) ?_
  rotate_left 1
  · (intro w hSw; (try dsimp only at hSw); go_simp; try with_reducible rfl)
  try simp only [Act.put, Array.toArray_toList, List.setIfInBounds_toArray, List.set_cons_zero, List.set_cons_succ]
  refine wpAnyH_take (i := 2) (oi := { dst := some 15, op := _, type := _, pos := _, after := _, guard := _ }) (v := ?_) rfl (by kernel_rfl) (by kernel_rfl) (by kernel_rfl) (fun _ _ _ h => h) (Or.inl ⟨by kernel_rfl, ?_⟩) (by assumption) ?_
  rotate_left 1
  · (intro w hSw; (try dsimp only at hSw); go_simp; try with_reducible rfl)
  try simp only [Act.put, Array.toArray_toList, List.setIfInBounds_toArray, List.set_cons_zero, List.set_cons_succ]
  refine wpAnyH_take (i := 3) (oi := { dst := some 16, op := _, type := _, pos := _, after := _, guard := _ }) (v := ?_) rfl (by kernel_rfl) (by kernel_rfl) (by kernel_rfl) (fun _ _ _ h => h) (Or.inl ⟨by kernel_rfl, ?_⟩) (by assumption) ?_
  rotate_left 1
  · (intro w hSw; (try dsimp only at hSw); go_simp; try with_reducible rfl)
  try simp only [Act.put, Array.toArray_toList, List.setIfInBounds_toArray, List.set_cons_zero, List.set_cons_succ]
  refine wpAnyH_take (i := 4) (oi := { dst := some 17, op := _, type := _, pos := _, after := _, guard := _ }) (v := ?_) rfl (by kernel_rfl) (by kernel_rfl) (by kernel_rfl) (fun _ _ _ h => h) (Or.inl ⟨by kernel_rfl, ?_⟩) (by assumption) ?_
  rotate_left 1
  · (intro w hSw; (try dsimp only at hSw); go_simp; try with_reducible rfl)
  try simp only [Act.put, Array.toArray_toList, List.setIfInBounds_toArray, List.set_cons_zero, List.set_cons_succ]
  refine wpAnyH_take (i := 5) (oi := { dst := some 18, op := _, type := _, pos := _, after := _, guard := _ }) (v := ?_) rfl (by kernel_rfl) (by kernel_rfl) (by kernel_rfl) (fun _ _ _ h => h) (Or.inl ⟨by kernel_rfl, ?_⟩) (by assumption) ?_
  rotate_left 1
  · (intro w hSw; (try dsimp only at hSw); go_simp; try with_reducible rfl)
  try simp only [Act.put, Array.toArray_toList, List.setIfInBounds_toArray, List.set_cons_zero, List.set_cons_succ]
  refine wpAnyH_take (i := 6) (oi := { dst := some 19, op := _, type := _, pos := _, after := _, guard := _ }) (v := ?_) rfl (by kernel_rfl) (by kernel_rfl) (by kernel_rfl) (fun _ _ _ h => h) (Or.inl ⟨by kernel_rfl, ?_⟩) (by assumption) ?_
  rotate_left 1
  · (intro w hSw; (try dsimp only at hSw); go_simp; try with_reducible rfl)
  try simp only [Act.put, Array.toArray_toList, List.setIfInBounds_toArray, List.set_cons_zero, List.set_cons_succ]
  refine wpAnyH_take (i := 7) (oi := { dst := some 20, op := _, type := _, pos := _, after := _, guard := _ }) (v := ?_) rfl (by kernel_rfl) (by kernel_rfl) (by kernel_rfl) (fun _ _ _ h => h) (Or.inl ⟨by kernel_rfl, ?_⟩) (by assumption) ?_
  rotate_left 1
  · (intro w hSw; (try dsimp only at hSw); go_simp; try with_reducible rfl)
  try simp only [Act.put, Array.toArray_toList, List.setIfInBounds_toArray, List.set_cons_zero, List.set_cons_succ]
  refine wpAnyH_take (i := 8) (oi := { dst := some 21, op := _, type := _, pos := _, after := _, guard := _ }) (v := ?_) rfl (by kernel_rfl) (by kernel_rfl) (by kernel_rfl) (fun _ _ _ h => h) (Or.inl ⟨by kernel_rfl, ?_⟩) (by assumption) ?_
  rotate_left 1
  · (intro w hSw; (try dsimp only at hSw); go_simp; try with_reducible rfl)
  try simp only [Act.put, Array.toArray_toList, List.setIfInBounds_toArray, List.set_cons_zero, List.set_cons_succ]
  refine wpAnyH_take (i := 9) (oi := { dst := some 22, op := _, type := _, pos := _, after := _, guard := _ }) (v := ?_) rfl (by kernel_rfl) (by kernel_rfl) (by kernel_rfl) (fun _ _ _ h => h) (Or.inl ⟨by kernel_rfl, ?_⟩) (by assumption) ?_
  rotate_left 1
  · (intro w hSw; (try dsimp only at hSw); go_simp; try with_reducible rfl)
  try simp only [Act.put, Array.toArray_toList, List.setIfInBounds_toArray, List.set_cons_zero, List.set_cons_succ]
  refine wpAnyH_take (i := 10) (oi := { dst := some 23, op := _, type := _, pos := _, after := _, guard := _ }) (v := ?_) rfl (by kernel_rfl) (by kernel_rfl) (by kernel_rfl) (fun _ _ _ h => h) (Or.inl ⟨by kernel_rfl, ?_⟩) (by assumption) ?_
  rotate_left 1
  · (intro w hSw; (try dsimp only at hSw); go_simp; try with_reducible rfl)
  try simp only [Act.put, Array.toArray_toList, List.setIfInBounds_toArray, List.set_cons_zero, List.set_cons_succ]
  refine wpAnyH_ready (rs := [11]) (by kernel_rfl) (by simp) ?_
  refine AllReadyH.cons rfl (fun K hK => ?_) AllReadyH.nil
  rw [if_pos (by kernel_rfl)]
  refine wp_store_mid _ _ _ rfl w.heap.size 0 (cmdF (fillC node x y cw ch (stN zs p))).toArray rfl rfl (be.there _ (by simp [cmdF])) (by kernel_rfl) (by simp [cmdF, Value.oneCell']) ?_
  have hS := Blk.farCells (b := w.heap.size) (by have := HS.out.lt; omega) ((cmdF (fillC node x y cw ch (stN zs p))).toArray).toList 0 _ _ hS
  have hF := Blk.farCells (b := w.heap.size) (by have := HF.out.lt; omega) ((cmdF (fillC node x y cw ch (stN zs p))).toArray).toList 0 _ _ hF
  have hbel := below_setCells (b := w.heap.size) (Nat.le_refl _) ((cmdF (fillC node x y cw ch (stN zs p))).toArray).toList 0 _ hbel
  have be := be.setAll (cmdF (fillC node x y cw ch (stN zs p))).toArray rfl
  refine hK.out _ _ (KEEP'.out _ hF hS) (fun hHeld => ?_)
  clear hK K
  try simp only [Act.put, Array.toArray_toList, List.setIfInBounds_toArray, List.set_cons_zero, List.set_cons_succ]
  refine wpAnyH_done (by kernel_rfl) ?_ _
  refine NoPanic.normal ?_
  go_wp2_with fail
  exact bodyPost_ret (v := .agg (cmdF (fillC node x y cw ch (stN zs p))).toArray) (results_cell_row Tryz.results84 _ _ w.heap.size 64 _ (0, 0) _ rfl be Tryz.underlying64 rfl (by kernel_rfl)) rfl ⟨rfl, hbel⟩
end Go.Proofs.YtkmmlcnoeeaekaaGreatDoor
