/- Several texts in one: TgL, TgM. -/
import Derived.Test.YtcghahfboccceaaGreatDoorTopEscapeM45
/- Contract of serial's text. Printed by genTgL.py. -/
namespace Go.Proofs.YtcghahfboccceaaGreatDoor
open Go.RowKit Go.Shelf
set_option linter.unusedVariables false
set_option linter.unusedSimpArgs false

def textS (nm tx : ByteArray) : List UInt8 := if rawI nm = 1 then tx.data.toList else escG false tx.data.toList
set_option maxRecDepth 100000 in
set_option maxHeartbeats 8000000 in
theorem wtext_calls (B b n c p na ca nk ck : Nat) (A Aa Ak : Option Addr) (q : Bool) (ns : List NodeV) (kind m : Int) (name tx : ByteArray) (out : List UInt8) (w : World) (h : Wr B b (.slice A n c) (.bool q) out w) (hN : Nodes w B A ns) (hn : ns.length = n) (hp : p < n) (hm : w.cell? ⟨0, 0, none⟩ = some (.int .i64 m)) (hB0 : 0 < B)
    (htx : tx.size ≤ 1000000) (hlen : out.length + (textS (nd ns p).name tx).length ≤ 100000000) :
    Calls Tryz.prog 48 #[.pointer (some ⟨b, 0, none⟩), .agg #[.int .i64 kind, .string name, .slice Aa na ca, .string tx, .int .i64 (p : Int), .slice Ak nk ck]] w fun e w' => e = .returned (.tuple #[]) ∧ Wr B b (.slice A n c) (.bool q) (out ++ textS (nd ns p).name tx) w' ∧ Wd B b w w' := by
  obtain ⟨g, hg⟩ : ∃ g, g = w.heap.size := ⟨_, rfl⟩
  obtain ⟨wa, hwa⟩ : ∃ wa, wa = w.alloc (.cells #[.int .i64 kind, .string name, .slice Aa na ca, .string tx, .int .i64 (p : Int), .slice Ak nk ck] 35) := ⟨_, rfl⟩
  have TB : Hid (Blk wa g 35 #[.int .i64 kind, .string name, .slice Aa na ca, .string tx, .int .i64 (p : Int), .slice Ak nk ck]) := by show Blk _ _ _ _; rw [hwa, hg]; exact Blk.new w _ _
  have hb0 : Below w.heap.size w wa := by rw [hwa]; exact (Below.refl _ w).alloc (Nat.le_refl _) _
  have WW := Lib.hid (h.below hb0)
  have LL := Lib.hid (Wd.of_below (b := b) hb0 h.bw)
  have NN := Lib.hid (hN.below LL.out.below (Nat.le_refl _))
  have hBw := h.bw
  have MM : Hid (wa.cell? ⟨0, 0, none⟩ = some (.int .i64 m)) := by show _ = _; rw [← hm]; exact hb0.cell (p := ⟨0, 0, none⟩) (by show 0 < _; omega)
  obtain ⟨bn, off, rfl, hbn, hnc, _⟩ := NN.out p (by omega)
  have c2 : wa.cell? ⟨b, 2, none⟩ = some (.slice (some ⟨bn, off, none⟩) n c) := WW.out.cells.1
  obtain ⟨pn, hpn⟩ : ∃ pn, pn = (nd ns p).name := ⟨_, rfl⟩
  have x1 : wa.cell? ⟨bn, off + p * 6 + 1, none⟩ = some (.string pn) := by rw [hpn]; exact (hnc 1 (by decide)).trans rfl
  have k3 : wa.cell? ⟨g, 3, none⟩ = some (.string tx) := TB.out.cell 3
  have k4 : wa.cell? ⟨g, 4, none⟩ = some (.int .i64 (p : Int)) := TB.out.cell 4
  have hp0 : (0 : Int) ≤ (p : Int) := by omega
  have hRW := Lib.hid (raw_calls pn)
  rw [← hpn] at hlen ⊢
  have HWA := Lib.hid hwa
  have HG := Lib.hid hg
  have HWR := Lib.hid (fun (s : ByteArray) (W : World) (hW : Wr B b (.slice (some ⟨bn, off, none⟩) n c) (.bool q) out W) (hl : out.length + s.size ≤ 140737488355328) => wr_write B b (.slice (some ⟨bn, off, none⟩) n c) (.bool q) out s W hW hl)
  have HES := Lib.hid (fun (W : World) (hW : W.cell? ⟨0, 0, none⟩ = some (.int .i64 m)) => escape_calls tx false m htx W hW)
  unfold textS at hlen ⊢
  obtain ⟨rw9, hrw⟩ : ∃ r, r = rawI pn := ⟨_, rfl⟩
  rw [← hrw] at hRW hlen ⊢
  clear h hN hm hwa hg hb0 hnc hpn hrw
  cases er : (rw9 == 1)
  · have e9 : ¬ rw9 = 1 := by simpa using er
    rw [if_neg e9] at hlen ⊢
    have HLEN := Lib.hid hlen
    clear hlen e9
    go_enter Tryz.func48, Tryz.ntmps48
    go_upto_region 1 with fail
    rw [← HWA.out, ← HG.out]
    go_quiet (first | (go_at_call 60; refine Calls.quiet_of_same (hRW.out _)))
    have TB : Hid (Blk (wa.drewN nq) g 35 #[.int .i64 kind, .string name, .slice Aa na ca, .string tx, .int .i64 (p : Int), .slice Ak nk ck]) := TB.out
    have WW := Lib.hid (WW.out.below (below_drewN (Below.refl _ _) nq))
    have LL := Lib.hid (LL.out.trans (Wd.of_below (below_drewN (Below.refl _ _) nq) (Nat.le_trans hBw LL.out.below.size)))
    have MM : Hid ((wa.drewN nq).cell? ⟨0, 0, none⟩ = some (.int .i64 m)) := MM.out
    generalize wa.drewN nq = wb at TB WW LL MM ⊢
    clear nq c2 x1 k3 k4 hRW
    go_upto_region 3 with fail
    have hS0 : (fun w' : World => w'.cell? ⟨g, 3, none⟩ = some (.string tx)) (World.drew wb) := TB.out.cell 3
    have TB : Hid (Blk (World.drew wb) g 35 #[.int .i64 kind, .string name, .slice Aa na ca, .string tx, .int .i64 (p : Int), .slice Ak nk ck]) := TB.out
    have WW : Hid (Wr B b (.slice (some ⟨bn, off, none⟩) n c) (.bool q) out (World.drew wb)) := WW.out.below (below_drewN (Below.refl _ _) 1)
    have LL : Hid (Wd B b w (World.drew wb)) := LL.out.trans (Wd.of_below (below_drewN (Below.refl _ _) 1) (Nat.le_trans hBw LL.out.below.size))
    have MM : Hid ((World.drew wb).cell? ⟨0, 0, none⟩ = some (.int .i64 m)) := MM.out
    refine wp_region_noPanic ?_
    refine region_M (S := fun w' => w'.cell? ⟨g, 3, none⟩ = some (.string tx)) (T := []) (by kernel_rfl) ?_
    generalize World.drew wb = wd at TB WW LL MM hS0 ⊢
    refine anyM_free (i := 0) (oi := { dst := some 27, op := _, type := _, pos := _, after := _, guard := _ }) (v := ?_) rfl (by kernel_rfl) (fun _ _ _ h => h) (Or.inl ⟨by kernel_rfl, ?_⟩) (fun _ => hS0) ?_
    rotate_left 1
    · (intro w hSw; (try dsimp only at hSw); go_simp; try with_reducible rfl)
    try simp only [Act.put, Array.toArray_toList, List.setIfInBounds_toArray, List.set_cons_zero, List.set_cons_succ]
    refine anyM_free (i := 1) (oi := { dst := some 28, op := _, type := _, pos := _, after := _, guard := _ }) (v := ?_) rfl (by kernel_rfl) (fun _ _ _ h => h) (Or.inl ⟨by kernel_rfl, ?_⟩) (fun _ => hS0) ?_
    rotate_left 1
    · (intro w hSw; (try dsimp only at hSw); go_simp; try with_reducible rfl)
    try simp only [Act.put, Array.toArray_toList, List.setIfInBounds_toArray, List.set_cons_zero, List.set_cons_succ]
    refine anyM_free (i := 2) (oi := { dst := some 29, op := _, type := _, pos := _, after := _, guard := _ }) (v := ?_) rfl (by kernel_rfl) (fun _ _ _ h => h) (Or.inl ⟨by kernel_rfl, ?_⟩) (fun _ => hS0) ?_
    rotate_left 1
    · (intro w hSw; (try dsimp only at hSw); go_simp; try with_reducible rfl)
    try simp only [Act.put, Array.toArray_toList, List.setIfInBounds_toArray, List.set_cons_zero, List.set_cons_succ]
    refine anyM_free (i := 3) (oi := { dst := some 30, op := _, type := _, pos := _, after := _, guard := _ }) (v := ?_) rfl (by kernel_rfl) (fun _ _ _ h => h) (Or.inl ⟨by kernel_rfl, ?_⟩) (fun _ => hS0) ?_
    rotate_left 1
    · (intro w hSw; (try dsimp only at hSw); go_simp; try with_reducible rfl)
    try simp only [Act.put, Array.toArray_toList, List.setIfInBounds_toArray, List.set_cons_zero, List.set_cons_succ]
    refine anyM_take (i := 4) (oi := { dst := some 31, op := _, type := _, pos := _, after := _, guard := _ }) (v := ?_) rfl (by kernel_rfl) (fun _ _ _ h => h) (Or.inl ⟨by kernel_rfl, ?_⟩) hS0 ?_
    rotate_left 1
    · (intro w hSw; (try dsimp only at hSw); go_simp; try with_reducible rfl)
    try simp only [Act.put, Array.toArray_toList, List.setIfInBounds_toArray, List.set_cons_zero, List.set_cons_succ]
    refine anyM_one (i := 5) (by kernel_rfl) rfl (fun K hK => ?_)
    go_simp
    refine (HES.out _ MM.out).mono ?_
    rintro e w6 ⟨rfl, hb⟩
    have TB := Lib.hid (TB.out.below hb TB.out.lt)
    have LL := Lib.hid (LL.out.trans (Wd.of_below hb (Nat.le_trans hBw LL.out.below.size)))
    have WW := Lib.hid (WW.out.below hb)
    have hS0 : (fun w' : World => w'.cell? ⟨g, 3, none⟩ = some (.string tx)) w6 := TB.out.cell 3
    clear hb
    refine hK.out _ _ (fun _ => hS0) ?_
    clear hK K
    try simp only [Act.put, Array.toArray_toList, List.setIfInBounds_toArray, List.set_cons_zero, List.set_cons_succ]
    refine anyM_one (i := 6) (by kernel_rfl) rfl (fun K hK => ?_)
    go_simp
    refine (HWR.out _ _ WW.out (by have := HLEN.out; show out.length + (escG false tx.data.toList).length ≤ _; omega)).mono ?_
    rintro e w7 ⟨⟨v7, rfl⟩, hw7, hd7⟩
    have LL := Lib.hid (LL.out.trans hd7)
    have W7 := Lib.hid hw7
    have hS0 : (fun w' : World => w'.cell? ⟨g, 3, none⟩ = some (.string tx)) w7 := (hd7.blk TB.out (WW.out.ne TB.out (by decide)) (by decide)).cell 3
    clear hw7 hd7
    refine hK.out _ _ (fun _ => hS0) ?_
    clear hK K
    try simp only [Act.put, Array.toArray_toList, List.setIfInBounds_toArray, List.set_cons_zero, List.set_cons_succ]
    refine anyM_done (by kernel_rfl) ?_ _
    refine NoPanic.normal ?_
    clear hS0
    go_wp2_with fail
    go_end0
    exact ⟨rfl, W7.out, LL.out⟩
  · have e9 : rw9 = 1 := by simpa using er
    subst e9
    rw [if_pos rfl] at hlen ⊢
    have HLEN := Lib.hid hlen
    clear hlen
    go_enter Tryz.func48, Tryz.ntmps48
    go_upto_region 1 with fail
    rw [← HWA.out, ← HG.out]
    go_quiet (first | (go_at_call 60; refine Calls.quiet_of_same (hRW.out _)))
    have TB : Hid (Blk (wa.drewN nq) g 35 #[.int .i64 kind, .string name, .slice Aa na ca, .string tx, .int .i64 (p : Int), .slice Ak nk ck]) := TB.out
    have WW := Lib.hid (WW.out.below (below_drewN (Below.refl _ _) nq))
    have LL := Lib.hid (LL.out.trans (Wd.of_below (below_drewN (Below.refl _ _) nq) (Nat.le_trans hBw LL.out.below.size)))
    generalize wa.drewN nq = wb at TB WW LL ⊢
    clear nq c2 x1 k3 k4 hRW MM
    go_upto_region 2 with fail
    have hS0 : (fun w' : World => w'.cell? ⟨g, 3, none⟩ = some (.string tx)) (World.drew wb) := TB.out.cell 3
    have TB : Hid (Blk (World.drew wb) g 35 #[.int .i64 kind, .string name, .slice Aa na ca, .string tx, .int .i64 (p : Int), .slice Ak nk ck]) := TB.out
    have WW : Hid (Wr B b (.slice (some ⟨bn, off, none⟩) n c) (.bool q) out (World.drew wb)) := WW.out.below (below_drewN (Below.refl _ _) 1)
    have LL : Hid (Wd B b w (World.drew wb)) := LL.out.trans (Wd.of_below (below_drewN (Below.refl _ _) 1) (Nat.le_trans hBw LL.out.below.size))
    refine wp_region_noPanic ?_
    refine region_M (S := fun w' => w'.cell? ⟨g, 3, none⟩ = some (.string tx)) (T := []) (by kernel_rfl) ?_
    generalize World.drew wb = wd at TB WW LL hS0 ⊢
    refine anyM_free (i := 0) (oi := { dst := some 21, op := _, type := _, pos := _, after := _, guard := _ }) (v := ?_) rfl (by kernel_rfl) (fun _ _ _ h => h) (Or.inl ⟨by kernel_rfl, ?_⟩) (fun _ => hS0) ?_
    rotate_left 1
    · (intro w hSw; (try dsimp only at hSw); go_simp; try with_reducible rfl)
    try simp only [Act.put, Array.toArray_toList, List.setIfInBounds_toArray, List.set_cons_zero, List.set_cons_succ]
    refine anyM_free (i := 1) (oi := { dst := some 22, op := _, type := _, pos := _, after := _, guard := _ }) (v := ?_) rfl (by kernel_rfl) (fun _ _ _ h => h) (Or.inl ⟨by kernel_rfl, ?_⟩) (fun _ => hS0) ?_
    rotate_left 1
    · (intro w hSw; (try dsimp only at hSw); go_simp; try with_reducible rfl)
    try simp only [Act.put, Array.toArray_toList, List.setIfInBounds_toArray, List.set_cons_zero, List.set_cons_succ]
    refine anyM_free (i := 2) (oi := { dst := some 23, op := _, type := _, pos := _, after := _, guard := _ }) (v := ?_) rfl (by kernel_rfl) (fun _ _ _ h => h) (Or.inl ⟨by kernel_rfl, ?_⟩) (fun _ => hS0) ?_
    rotate_left 1
    · (intro w hSw; (try dsimp only at hSw); go_simp; try with_reducible rfl)
    try simp only [Act.put, Array.toArray_toList, List.setIfInBounds_toArray, List.set_cons_zero, List.set_cons_succ]
    refine anyM_free (i := 3) (oi := { dst := some 24, op := _, type := _, pos := _, after := _, guard := _ }) (v := ?_) rfl (by kernel_rfl) (fun _ _ _ h => h) (Or.inl ⟨by kernel_rfl, ?_⟩) (fun _ => hS0) ?_
    rotate_left 1
    · (intro w hSw; (try dsimp only at hSw); go_simp; try with_reducible rfl)
    try simp only [Act.put, Array.toArray_toList, List.setIfInBounds_toArray, List.set_cons_zero, List.set_cons_succ]
    refine anyM_take (i := 4) (oi := { dst := some 25, op := _, type := _, pos := _, after := _, guard := _ }) (v := ?_) rfl (by kernel_rfl) (fun _ _ _ h => h) (Or.inl ⟨by kernel_rfl, ?_⟩) hS0 ?_
    rotate_left 1
    · (intro w hSw; (try dsimp only at hSw); go_simp; try with_reducible rfl)
    try simp only [Act.put, Array.toArray_toList, List.setIfInBounds_toArray, List.set_cons_zero, List.set_cons_succ]
    refine anyM_one (i := 5) (by kernel_rfl) rfl (fun K hK => ?_)
    go_simp
    refine (HWR.out _ _ WW.out (by have := HLEN.out; show _ + tx.size ≤ _; simp at this; omega)).mono ?_
    rintro e w7 ⟨⟨v7, rfl⟩, hw7, hd7⟩
    have LL := Lib.hid (LL.out.trans hd7)
    have W7 := Lib.hid hw7
    have hS0 : (fun w' : World => w'.cell? ⟨g, 3, none⟩ = some (.string tx)) w7 := (hd7.blk TB.out (WW.out.ne TB.out (by decide)) (by decide)).cell 3
    clear hw7 hd7
    refine hK.out _ _ (fun _ => hS0) ?_
    clear hK K
    try simp only [Act.put, Array.toArray_toList, List.setIfInBounds_toArray, List.set_cons_zero, List.set_cons_succ]
    refine anyM_done (by kernel_rfl) ?_ _
    refine NoPanic.normal ?_
    clear hS0
    go_wp2_with fail
    exact bodyPost_ret (results_none rfl _ _ _) rfl ⟨rfl, W7.out, LL.out⟩
end Go.Proofs.YtcghahfboccceaaGreatDoor
/- What serial writes; contract of its kids. -/
namespace Go.Proofs.YtcghahfboccceaaGreatDoor
open Go.RowKit Go.Shelf
set_option linter.unusedVariables false
set_option linter.unusedSimpArgs false

def attrS (a : ByteArray × ByteArray) : List UInt8 := 32 :: a.1.data.toList ++ [61, 34] ++ escG true a.2.data.toList ++ [34]
def tagS (x : NodeV) : List UInt8 := 60 :: x.name.data.toList ++ x.attrs.flatMap attrS ++ [62]
def endS (x : NodeV) : List UInt8 := 60 :: 47 :: x.name.data.toList ++ [62]
def dtS (x : NodeV) : List UInt8 := [60, 33, 68, 79, 67, 84, 89, 80, 69, 32] ++ x.name.data.toList ++ [62]
def voidL : ByteArray := ⟨#[32, 97, 114, 101, 97, 32, 98, 97, 115, 101, 32, 98, 114, 32, 99, 111, 108, 32, 101, 109, 98, 101, 100, 32, 104, 114, 32, 105, 109, 103, 32, 105, 110, 112, 117, 116, 32, 108, 105, 110, 107, 32, 109, 101, 116, 97, 32, 115, 111, 117, 114, 99, 101, 32, 116, 114, 97, 99, 107, 32, 119, 98, 114, 32]⟩
/-- What a node is written as, to a depth. -/
def serF (ns : List NodeV) : Nat → Nat → List UInt8
  | 0, _ => []
  | u + 1, i =>
    if (nd ns i).kind = 1 then (nd ns i).kids.flatMap fun k => serF ns u k.toNat
    else if (nd ns i).kind = 5 then dtS (nd ns i)
    else if (nd ns i).kind = 3 then textS (nd ns (nd ns i).parent.toNat).name (nd ns i).text
    else tagS (nd ns i) ++ ((nd ns i).kids.flatMap fun k => serF ns u k.toNat) ++ endS (nd ns i)
/-- An element that is written as a rule. -/
structure ElOk (x : NodeV) : Prop where
  name : x.name.size ≤ 100000
  attrs : ∀ a ∈ x.attrs, a.1.size ≤ 1000000 ∧ a.2.size ≤ 1000000
  nv : oneP x.name voidL = false
  pre : (x.name.toList == [112, 114, 101]) = false
  ta : (x.name.toList == [116, 101, 120, 116, 97, 114, 101, 97]) = false
def SerOk (ns : List NodeV) : Nat → Nat → Prop
  | 0, _ => False
  | u + 1, i => i < ns.length ∧ (∀ k ∈ (nd ns i).kids, 0 ≤ k ∧ SerOk ns u k.toNat) ∧
      ((nd ns i).kind = 1 ∨ (nd ns i).kind = 5 ∧ (nd ns i).name.size ≤ 100000 ∨ (nd ns i).kind = 3 ∧ 0 ≤ (nd ns i).parent ∧ (nd ns i).parent.toNat < ns.length ∧ (nd ns i).text.size ≤ 1000000 ∨ (nd ns i).kind = 2 ∧ ElOk (nd ns i))
section
variable (B b n c : Nat) (A : Option Addr) (q : Bool) (ns : List NodeV) (m : Int)
/-- A node's contract. -/
def NodeC (u : Nat) : Prop := ∀ (i : Nat) (out : List UInt8) (w : World), SerOk ns u i → Wr B b (.slice A n c) (.bool q) out w → Nodes w B A ns → w.cell? ⟨0, 0, none⟩ = some (.int .i64 m) → out.length + (serF ns u i).length ≤ 100000000 →
  Calls Tryz.prog 25 #[.pointer (some ⟨b, 0, none⟩), .int .i64 (i : Int)] w fun e w' => e = .returned (.tuple #[]) ∧ Wr B b (.slice A n c) (.bool q) (out ++ serF ns u i) w' ∧ Wd B b w w'
set_option maxRecDepth 100000 in
set_option maxHeartbeats 8000000 in
theorem wkids_calls (hn : ns.length = n) (hB0 : 0 < B) (u : Nat) (hIH : NodeC B b n c A q ns m u) (i : Nat) (out : List UInt8) (w : World) (hi : i < n) (hks : ∀ k ∈ (nd ns i).kids, 0 ≤ k ∧ SerOk ns u k.toNat) (h : Wr B b (.slice A n c) (.bool q) out w) (hN : Nodes w B A ns) (hm : w.cell? ⟨0, 0, none⟩ = some (.int .i64 m))
    (hlen : out.length + ((nd ns i).kids.flatMap fun k => serF ns u k.toNat).length ≤ 100000000) :
    Calls Tryz.prog 46 #[.pointer (some ⟨b, 0, none⟩), .int .i64 (i : Int)] w fun e w' => e = .returned (.tuple #[]) ∧ Wr B b (.slice A n c) (.bool q) (out ++ (nd ns i).kids.flatMap fun k => serF ns u k.toNat) w' ∧ Wd B b w w' := by
  obtain ⟨TOT, hT⟩ : ∃ TOT, TOT = out ++ (nd ns i).kids.flatMap fun k => serF ns u k.toNat := ⟨_, rfl⟩
  have HLEN : Hid (TOT.length ≤ 100000000) := by show _ ≤ _; rw [hT, List.length_append]; exact hlen
  rw [← hT]
  have HIH := Lib.hid hIH
  have HN := Lib.hid hN
  have HM := Lib.hid hm
  have hBw := h.bw
  have WW := Lib.hid h
  obtain ⟨bn, off, rfl, hbn, hnc, hNI⟩ := hN i (by omega)
  obtain ⟨X, hX⟩ : ∃ X, X = nd ns i := ⟨_, rfl⟩
  rw [← hX] at hks hnc hNI hT
  obtain ⟨kids, hkk⟩ : ∃ kids, kids = X.kids := ⟨_, rfl⟩
  rw [← hkk] at hks hT
  have HK := Lib.hid hks
  have HKD : Hid (Holds w B X.kidsA (ints kids)) := by show Holds _ _ _ _; rw [hkk]; exact hNI.kids
  have d2 : w.cell? ⟨b, 2, none⟩ = some (.slice (some ⟨bn, off, none⟩) n c) := h.cells.1
  have d5 : w.cell? ⟨bn, off + i * 6 + 5, none⟩ = some (.slice X.kidsA kids.length X.kcap) := by rw [hnc 5 (by decide), hkk]; rfl
  have hkN := hNI.kn
  rw [← hkk] at hkN
  obtain ⟨kA, hkA⟩ : ∃ kA, kA = X.kidsA := ⟨_, rfl⟩
  obtain ⟨kc, hkc⟩ : ∃ kc, kc = X.kcap := ⟨_, rfl⟩
  rw [← hkA] at d5 HKD
  rw [← hkc] at d5
  obtain ⟨kn, hkn⟩ : ∃ kn, kn = kids.length := ⟨_, rfl⟩
  rw [← hkn] at d5 hkN
  have HKN := Lib.hid hkn
  have HT := Lib.hid hT
  have HB0 := Lib.hid hB0
  clear hnc hNI hkA hkc hkn hX hkk hks hT hIH hN hm h hlen hn hB0
  go_enter Tryz.func46, Tryz.ntmps46
  go_wp2
  go_loopw [16] (fun vi wr => ∃ (j : Nat) (acc : List UInt8), j ≤ kn ∧ vi = .int .i64 (j : Int) ∧ Hid (acc ++ (kids.drop j).flatMap (fun k => serF ns u k.toNat) = TOT) ∧ Hid (Wr B b (.slice (some ⟨bn, off, none⟩) n c) (.bool q) acc wr) ∧ Hid (Wd B b w wr)) (fun vi _ => kn - (intOf vi).toNat)
  case atStart => exact ⟨0, out, Nat.zero_le _, rfl, by show _ = _; rw [HT.out]; simp, WW.out, Wd.refl _ _ _⟩
  case round =>
    obtain ⟨j, acc, hj, rfl, HTT, HWR, HWD⟩ := hrel
    by_cases hlt : j < kn
    · have hjk : j < kids.length := by have := HKN.out; omega
      obtain ⟨bk, offk, rfl, hbk, hkc⟩ := holds_cellI HKD.out (by omega)
      have hbw := HWD.out.below
      have k1 : wr.cell? ⟨bk, offk + j, none⟩ = some (.int .i64 kids[j]) := (hbw.cell (p := ⟨bk, offk + j, none⟩) hbk).trans (hkc j hjk)
      obtain ⟨hk0, hkd⟩ := HK.out kids[j] (List.getElem_mem hjk)
      obtain ⟨k, hkk⟩ : ∃ k : Nat, kids[j] = (k : Int) := ⟨kids[j].toNat, by omega⟩
      have hkt : kids[j].toNat = k := by rw [hkk]; rfl
      rw [hkk] at k1
      rw [hkt] at hkd
      have hdr : (kids.drop j).flatMap (fun k => serF ns u k.toNat) = serF ns u k ++ (kids.drop (j + 1)).flatMap (fun k => serF ns u k.toNat) := by rw [List.drop_eq_getElem_cons hjk, List.flatMap_cons, hkt]
      have HTT2 : Hid ((acc ++ serF ns u k) ++ (kids.drop (j + 1)).flatMap (fun k => serF ns u k.toNat) = TOT) := by show _ = _; rw [← HTT.out, hdr, List.append_assoc]
      have HI := Lib.hid (HIH.out k acc wr hkd HWR.out (HN.out.below hbw (Nat.le_refl _)) ((hbw.cell (p := ⟨0, 0, none⟩) HB0.out).trans HM.out) (by
        have h1 := congrArg List.length HTT2.out
        rw [List.length_append, List.length_append] at h1
        have := HLEN.out
        omega))
      clear hkc hk0 hkd hkk hkt hdr hbw
      go_wp2_with (go_at_call 25; refine HI.out.mono ?_; rintro e w2 ⟨rfl, hw2, hd2⟩)
      go_roundw
      case rel => exact ⟨j + 1, acc ++ serF ns u k, by omega, by go_num, HTT2, hw2, HWD.out.trans hd2⟩
      case measure => simp [intOf]; omega
    · obtain rfl : j = kn := by omega
      have hTT : acc = TOT := by have := HTT.out; rw [List.drop_eq_nil_of_le (by have := HKN.out; omega)] at this; simpa using this
      have HTE := Lib.hid hTT
      clear hTT
      go_wp2
      go_end0
      exact ⟨rfl, by rw [← HTE.out]; exact HWR.out, HWD.out⟩
end
end Go.Proofs.YtcghahfboccceaaGreatDoor
