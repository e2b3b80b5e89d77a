/- Several texts in one: StkJ, StkK. -/
import Derived.Test.YtkmmlcnoeeaekaaGreatDoorPaintListM30
/- Contracts of the reference's Tell and Stack. -/
namespace Go.Proofs.YtkmmlcnoeeaekaaGreatDoor
open Go.RowKit
set_option linter.unusedVariables false
set_option linter.unusedSimpArgs false

theorem rtell_calls (L : LayV) (B gS : Nat) : ∀ u, TellSays L B gS u
  | 0 => fun f v xs w hT hf _ hn _ => absurd hn (by omega)
  | u + 1 => rtell_step L B gS u (rtell_calls L B gS u)
theorem below_then' {B : Nat} {w w1 w2 : World} (h : Below B w w1) (h' : Below B w1 w2) : Below B w w2 := h.trans h'
theorem LayV.ok.more {L : LayV} {w : World} {B B' : Nat} (h : L.ok w B) (hB : B ≤ B') : L.ok w B' :=
  { h with
    boxes := fun i hi => by
      obtain ⟨b, off, e, hlt, c0, c1, c2, c3, c4, hk, hl⟩ := h.boxes i hi
      exact ⟨b, off, e, by omega, c0, c1, c2, c3, c4, hk.more hB, hl⟩
    frags := Holds.more h.frags hB
    gl := Nat.lt_of_lt_of_le h.gl hB }
/-- The steps of a layout. -/
def LayV.steps (L : LayV) : List (Nat × Nat) := tellN L.ownF L.nf 0 0
theorem steps_le {L : LayV} {w : World} {B : Nat} (h : L.ok w B) (h0 : 0 < L.nf) : L.steps.length ≤ L.nf := by
  have hp : ∀ k, 0 < k → k < L.nf → L.par k < k := fun k a b => (par_lt h a b).1
  exact tell_count hp (by unfold LayV.flatF LayV.pocketF; simp) (own_phase L) h0 0
set_option maxRecDepth 100000 in
set_option maxHeartbeats 1000000 in
theorem rstack_calls (L : LayV) (B : Nat) (w : World) (h : L.ok w B) (hB : B ≤ w.heap.size) (h0 : 0 < L.nf) :
    Calls Tryz.prog 23 #[.slice (some ⟨L.gL, 0, none⟩) L.nb L.cl, .agg #[.slice L.Ab L.nb L.cb, .slice L.Af L.nf L.cf, .int .i64 L.W1, .int .i64 L.H1]] w fun e w' => ∃ v, e = .returned v ∧ w'.ownsRow w.heap.size 94 2 v L.steps.length (steps L.steps) ∧ Below w.heap.size w w' := by
  have h1 := h.more hB
  have hsl := steps_le h h0
  have hnf := h.nf0
  have hb2 := below_alloc (below_alloc (Below.refl w.heap.size w) (.cells #[.slice L.Ab L.nb L.cb, .slice L.Af L.nf L.cf, .int .i64 L.W1, .int .i64 L.H1] 42)) (.cells (stC L (.slice none 0 0)) 112)
  have bl := Blk.new (w.alloc (.cells #[.slice L.Ab L.nb L.cb, .slice L.Af L.nf L.cf, .int .i64 L.W1, .int .i64 L.H1] 42)) 112 (stC L (.slice none 0 0))
  rw [alloc_size] at bl
  have hT : TSt L w.heap.size (w.heap.size + 1) (.slice none 0 0) [] ((w.alloc (.cells #[.slice L.Ab L.nb L.cb, .slice L.Af L.nf L.cf, .int .i64 L.W1, .int .i64 L.H1] 42)).alloc (.cells (stC L (.slice none 0 0)) 112)) :=
    ⟨⟨h1.below hb2 (Nat.le_refl _), bl, hb2.size⟩, World.ownsRow_nil _ _ _ _, by omega⟩
  have hc : Calls Tryz.prog 55 #[.pointer (some ⟨w.heap.size + 1, 0, none⟩), .int .i64 0] _ _ := rtell_calls L w.heap.size (w.heap.size + 1) L.nf 0 _ [] _ hT h0 (by unfold LayV.flatF LayV.pocketF; simp) (by omega) (by show 0 + L.steps.length ≤ _; omega)
  have HC := Lib.hid hc
  have HT := Lib.hid hT
  have HB2 := Lib.hid hb2
  clear hc hT bl hb2 h1 h
  unfold stC at HC HT HB2
  go_enter Tryz.func23, Tryz.ntmps23
  go_wp2_with (go_at_call 55; refine HC.out.mono ?_; rintro e w5 hpost; obtain ⟨rfl, v5, hT5, hF5, hO5⟩ := hpost; obtain ⟨A5, c5, rfl⟩ := own_open hT5.own; have s5 : w5.cell? ⟨w.heap.size + 1, 5, none⟩ = some (.slice A5 _ c5) := hT5.rst.blk.cell 5; have HT5 := Lib.hid hT5; have HF5 := Lib.hid hF5; clear hT5 hF5 hO5)
  go_ret
  exact ⟨_, rfl, by have := HT5.out.own; rw [List.nil_append] at this; exact this, below_then' HB2.out (HT.out.under HF5.out)⟩
end Go.Proofs.YtkmmlcnoeeaekaaGreatDoor
/- The program's order of painting in memory; what belongs to a fragment. -/
namespace Go.Proofs.YtkmmlcnoeeaekaaGreatDoor
open Go.RowKit
set_option linter.unusedVariables false
set_option linter.unusedSimpArgs false

namespace LayV
/-- What a fragment is: 0 flat, 1 a pocket, 2 a layer. -/
def isF (L : LayV) (k : Nat) : Int := if k = 0 then max (isK (L.kd k) (L.st k)) 1 else isK (L.kd k) (L.st k)
def kidsF (L : LayV) (f : Nat) : List Nat := kidsP L.nf L.par f
end LayV
theorem isK_cases (kind : Int) (zs : List Int) : 0 ≤ isK kind zs ∧ isK kind zs ≤ 2 ∧ (isK kind zs = 0 ↔ (!layerK kind zs && !(!layerK kind zs && !withinK kind && pocketK kind zs)) = true) := by
  unfold isK
  cases layerK kind zs <;> cases withinK kind <;> cases pocketK kind zs <;> simp
theorem is_flat (L : LayV) (k : Nat) : (L.isF k == 0) = L.flatF k := by
  have h := isK_cases (L.kd k) (L.st k)
  unfold LayV.isF LayV.flatF LayV.pocketF LayV.layerF LayV.withinF
  by_cases h0 : k = 0
  · subst h0
    simp
    omega
  · rw [if_neg h0]
    have e : (k == 0) = false := by simpa using h0
    rw [e, Bool.false_or]
    rw [Bool.eq_iff_iff, ← h.2.2, beq_iff_eq]
/-- The order while it is made. -/
def orC (L : LayV) (gM cM gK cK : Nat) (v : Value) : Array Value := #[.slice (some ⟨gM, 0, none⟩) L.nf cM, .slice (some ⟨gK, 0, none⟩) L.nf cK, v]
structure KSt (L : LayV) (B gO gM cM gK cK : Nat) (v : Value) (w : World) : Prop where
  blk : Blk w gO 136 (orC L gM cM gK cK v)
  marks : ∀ k, k < L.nf → w.cell? ⟨gM, k * 3, none⟩ = some (.int .i64 (L.isF k)) ∧ w.cell? ⟨gM, k * 3 + 1, none⟩ = some (.int .i64 (L.rankF k)) ∧ w.cell? ⟨gM, k * 3 + 2, none⟩ = some (.int .i64 (L.phaseF k))
  kids : ∀ k, k < L.nf → ∃ A c, w.cell? ⟨gK, k, none⟩ = some (.slice A (L.kidsF k).length c) ∧ ((A = none ∧ (L.kidsF k).length = 0) ∨ ∃ b o, A = some ⟨b, o, none⟩ ∧ b < B ∧ b ≠ gO ∧ ∀ j u, (nums (L.kidsF k))[j]? = some u → w.cell? ⟨b, o + j, none⟩ = some u)
  gm : gM < B
  gk : gK < B
  go : gO < B
  mo : gM ≠ gO
  ko : gK ≠ gO
  hB : B ≤ w.heap.size
  hp : ∀ k, 0 < k → k < L.nf → L.par k < k
  nf0 : L.nf ≤ 1048576
theorem KSt.carry {L : LayV} {B gO gM cM gK cK : Nat} {v v' : Value} {w w' : World} (h : KSt L B gO gM cM gK cK v w) (hf : ∀ k, k < B → k ≠ gO → w'.heap[k]? = w.heap[k]?) (hb : Blk w' gO 136 (orC L gM cM gK cK v')) (hs : B ≤ w'.heap.size) : KSt L B gO gM cM gK cK v' w' := by
  have hc : ∀ b o, b < B → b ≠ gO → w'.cell? ⟨b, o, none⟩ = w.cell? ⟨b, o, none⟩ := fun b o h1 h2 => World.cell?_of_block (hf b h1 h2)
  refine ⟨hb, fun k hk => ?_, fun k hk => ?_, h.gm, h.gk, h.go, h.mo, h.ko, hs, h.hp, h.nf0⟩
  · rw [hc _ _ h.gm h.mo, hc _ _ h.gm h.mo, hc _ _ h.gm h.mo]; exact h.marks k hk
  · obtain ⟨A, c, h1, h2⟩ := h.kids k hk
    refine ⟨A, c, by rw [hc _ _ h.gk h.ko]; exact h1, ?_⟩
    rcases h2 with h2 | ⟨b, o, e, h3, h4, h5⟩
    · exact .inl h2
    · exact .inr ⟨b, o, e, h3, h4, fun j u hj => by rw [hc _ _ h3 h4]; exact h5 j u hj⟩
theorem KSt.below {L : LayV} {B gO gM cM gK cK : Nat} {v : Value} {w w' : World} (h : KSt L B gO gM cM gK cK v w) (hb : Below w.heap.size w w') : KSt L B gO gM cM gK cK v w' :=
  h.carry (fun k hk _ => hb.block k (Nat.lt_of_lt_of_le hk h.hB)) (h.blk.below hb h.blk.lt) (Nat.le_trans h.hB hb.size)
/-- What is gathered of some kids. -/
def bel (L : LayV) (u : Nat) (ks : List Nat) : List Nat := ks.flatMap (fun k => k :: if L.flatF k then belongP L.nf L.par L.flatF u k else [])
theorem bel_snoc (L : LayV) (u : Nat) (ks : List Nat) (k : Nat) : bel L u (ks ++ [k]) = bel L u ks ++ k :: (if L.flatF k then belongP L.nf L.par L.flatF u k else []) := by simp [bel]
theorem bel_all (L : LayV) (u f : Nat) : belongP L.nf L.par L.flatF (u + 1) f = bel L u (L.kidsF f) := rfl
theorem bel_le {L : LayV} (hp : ∀ k, 0 < k → k < L.nf → L.par k < k) (u f i : Nat) (hn : L.nf ≤ f + (u + 1)) : (bel L u ((L.kidsF f).take i)).length ≤ L.nf := by
  have h1 : (bel L u (L.kidsF f)).length ≤ L.nf := by
    rw [← bel_all]
    exact len_nodup (belong_nodup L.nf L.par L.flatF hp (u + 1) f hn) (fun x hx => (belong_gt L.nf L.par L.flatF hp _ _ _ hx).2)
  have h2 : bel L u (L.kidsF f) = bel L u ((L.kidsF f).take i) ++ bel L u ((L.kidsF f).drop i) := by
    unfold bel; rw [← List.flatMap_append, List.take_append_drop]
  rw [h2, List.length_append] at h1
  omega
theorem own_le {w : World} {base n m N : Nat} {e : TypeId} {v : Value} {l : List Nat} (h : w.ownsRow base e 1 v n (nums l)) (hb : m + l.length ≤ N) : n ≤ N := by have := h.1; rw [nums_len] at this; omega
theorem own_le2 {w : World} {base n m N : Nat} {e : TypeId} {v : Value} {l : List Nat} (h : w.ownsRow base e 1 v n (nums l)) (hb : m + l.length ≤ N) : m + n ≤ N := by have := h.1; rw [nums_len] at this; omega
def BelSays (L : LayV) (B gO gM cM gK cK u : Nat) : Prop := ∀ (f : Nat) (v : Value) (w : World), KSt L B gO gM cM gK cK v w → f < L.nf → L.nf ≤ f + u →
  Calls Tryz.prog 128 #[.pointer (some ⟨gO, 0, none⟩), .int .i64 (f : Nat)] w fun e w' => ∃ A n c, e = .returned (.slice A n c) ∧ w'.ownsRow w.heap.size 3 1 (.slice A n c) n (nums (belongP L.nf L.par L.flatF u f)) ∧ Below w.heap.size w w'
set_option maxRecDepth 1000000 in
set_option maxHeartbeats 4000000 in
theorem bel_step (L : LayV) (B gO gM cM gK cK u : Nat) (ih : BelSays L B gO gM cM gK cK u) : BelSays L B gO gM cM gK cK (u + 1) := by
  intro f v w hK hf hn
  obtain ⟨i0, hia, hza0, hza1, hza2⟩ := info_parts info_nums
  obtain ⟨A, c, hkc, hka⟩ := hK.kids f hf
  have s1 : w.cell? ⟨gO, 1, none⟩ = some (.slice (some ⟨gK, 0, none⟩) L.nf cK) := hK.blk.cell 1
  have HK := Lib.hid hK
  have IH := Lib.hid ih
  obtain ⟨ks, hks⟩ : ∃ x, x = L.kidsF f := ⟨_, rfl⟩
  have HKS : Hid (∀ x, x ∈ ks → x < L.nf ∧ f < x) := fun x hx => by
    rw [hks] at hx
    exact ⟨((mem_kids _ _).1 hx).1, kid_gt L.nf L.par hK.hp hx⟩
  have HKL : Hid (∀ i, (bel L u (ks.take i)).length ≤ L.nf) := fun i => by rw [hks]; exact bel_le hK.hp u f i hn
  have HALL : Hid (belongP L.nf L.par L.flatF (u + 1) f = bel L u ks) := by show _ = _; rw [hks]; rfl
  rw [← hks] at hkc hka
  obtain ⟨m, hm⟩ : ∃ x, x = ks.length := ⟨_, rfl⟩
  rw [← hm] at hkc hka
  have hm20 : m ≤ 1048576 := by
    have h1 : m ≤ L.nf := by rw [hm, hks]; unfold LayV.kidsF kidsP; have := List.length_filter_le (fun k => decide (0 < k) && L.par k == f) (List.range L.nf); simpa using this
    have := hK.nf0; omega
  have HM := Lib.hid hm
  have HKA := Lib.hid hka
  have hnf := hK.nf0
  have HN := Lib.hid hn
  have HWW := Lib.hid (fun w' hb => (HK.out.below hb : KSt L B gO gM cM gK cK v w'))
  clear hka hks hm ih hK hn
  go_enter Tryz.func128, Tryz.ntmps128
  go_wp2_with fail
  go_loopw [5, 16] (fun s5 s16 wr => ∃ (i n2 : Nat) (A2 : Option Addr) (c2 : Nat) (l : List Nat), i ≤ m ∧ s16 = .int .i64 i ∧ s5 = .slice A2 n2 c2 ∧ wr.ownsRow w.heap.size 3 1 (.slice A2 n2 c2) n2 (nums l) ∧ Below w.heap.size w wr ∧ Hid (l = bel L u (ks.take i))) (fun _ s16 _ => m - (intOf s16).toNat)
  case atStart => exact ⟨0, 0, none, 0, [], Nat.zero_le _, rfl, rfl, World.ownsRow_nil _ _ _ _, Below.refl _ _, rfl⟩
  case round =>
    clear s1 hkc
    obtain ⟨i, n2, A2, c2, l, hi, rfl, rfl, hown, hbel, HL⟩ := hrel
    have hln : l.length = n2 := by have := hown.1; rw [nums_len] at this; omega
    have hn2 : n2 ≤ L.nf := by rw [← hln, HL.out]; exact HKL.out i
    have HLN := Lib.hid hln
    have HLO := Lib.hid hown
    have HBL := Lib.hid hbel
    clear hown hbel hln
    by_cases hlt : i < m
    · have hil : i < ks.length := by rw [← HM.out]; exact hlt
      have hKr := HWW.out wr HBL.out
      obtain ⟨b, o, rfl, hb, hbo, hcl⟩ : ∃ b o, A = some ⟨b, o, none⟩ ∧ b < B ∧ b ≠ gO ∧ ∀ j u, (nums ks)[j]? = some u → w.cell? ⟨b, o + j, none⟩ = some u := by
        rcases HKA.out with ⟨_, h0⟩ | h
        · omega
        · exact h
      have hbw : b < w.heap.size := Nat.lt_of_lt_of_le hb HK.out.hB
      have hck : wr.cell? ⟨b, o + i, none⟩ = some (.int .i64 (ks.getD i 0 : Nat)) := (HBL.out.cell (p := ⟨b, o + i, none⟩) hbw).trans (hcl i _ (nums_at ks hil))
      have hbr : b < wr.heap.size := Nat.lt_of_lt_of_le hbw HBL.out.size
      have hmk := HKS.out (ks.getD i 0) (by simp [List.getD, hil])
      have hsn := take_snoc ks 0 i hil
      have hbn := HKL.out (i + 1)
      obtain ⟨k, hk⟩ : ∃ x, x = ks.getD i 0 := ⟨_, rfl⟩
      rw [← hk] at hck hmk hsn
      rw [hsn, bel_snoc, ← HL.out] at hbn
      obtain ⟨hkn, hfk⟩ := hmk
      have hn21 : n2 + 1 ≤ L.nf := by rw [List.length_append, HLN.out] at hbn; simp at hbn; omega
      have HSN := Lib.hid hsn
      have HBN := Lib.hid hbn
      have II := Lib.hid (show i ≤ m ∧ i < m from ⟨hi, hlt⟩)
      have qi : decide (i < m) = true := decide_eq_true hlt
      have HREC := Lib.hid (fun w' h => IH.out k v w' h hkn (by have := HN.out; omega))
      have HMK : Hid (∀ w', Below w.heap.size w w' → w'.cell? ⟨gM, k * 3, none⟩ = some (.int .i64 (L.isF k)) ∧ w'.cell? ⟨gO, 0, none⟩ = some (.slice (some ⟨gM, 0, none⟩) L.nf cM)) := fun w' hb' => ⟨((HWW.out w' hb').marks k hkn).1, (HWW.out w' hb').blk.cell 0⟩
      have HFL := Lib.hid (is_flat L k)
      obtain ⟨iv, hiv⟩ : ∃ x, x = L.isF k := ⟨_, rfl⟩
      rw [← hiv] at HMK HFL
      have HBX := Lib.hid (Blk.new wr 3 #[.int .i64 (k : Nat)])
      clear hk hsn hbn hiv hcl hb hbo hi hKr hil
      by_cases hfl : L.flatF k = true
      · have qf : (iv == 0) = true := by rw [HFL.out]; exact hfl
        have HNX : Hid (l ++ [k] ++ belongP L.nf L.par L.flatF u k = bel L u (ks.take (i + 1))) := by show _ = _; rw [HSN.out, bel_snoc, ← HL.out, if_pos hfl]; simp
        have HBD : Hid (n2 + 1 + (belongP L.nf L.par L.flatF u k).length ≤ L.nf) := by have h1 := HBN.out; rw [if_pos hfl, List.length_append, HLN.out, List.length_cons] at h1; show _ ≤ _; omega
        clear hfl
        go_wp2_with (first | (at_builtin; refine wpList_append_any rfl _ _ 44 rfl w.heap.size 3 i0 (.int .i64 0) 1 8 Tryz.underlying44 hia hza0 hza1 hza2 rfl (by decide) (.slice A2 n2 c2) n2 (nums l) rfl (HLO.out.alloc _) (some ⟨wr.heap.size, 0, none⟩) 1 1 (nums [k]) rfl (by simp [nums]) (.inl ⟨_, 0, rfl, blk_one HBX.out⟩) (nums_one _) (by unfold maxLen; omega) (by omega) (by rw [alloc_size]; exact Nat.le_succ_of_le HBL.out.size) ?_; intro A1 c1 w1 o1 hg1 hat1; rw [nums_append] at o1; have HO1 := Lib.hid o1; have HB1 := Lib.hid (below_grownB (below_alloc HBL.out (.cells #[.int .i64 (k : Nat)] 3)) (HLO.out.alloc (.cells #[.int .i64 (k : Nat)] 3)) (Nat.le_refl _) hg1); have m0 := (HMK.out _ HB1.out).1; have m1 := (HMK.out _ HB1.out).2; clear o1 hg1 hat1) | (go_at_call 128; refine (HREC.out _ (HWW.out _ HB1.out)).mono ?_; rintro e w5 ⟨A5, n5, c5, rfl, ho5, hb5⟩; have hn5 : n5 ≤ L.nf := own_le ho5 HBD.out; have hn52 : n2 + 1 + n5 ≤ L.nf := own_le2 ho5 HBD.out; have HO5 := Lib.hid ho5; have HO1 := Lib.hid (own_below HO1.out hb5); have HB5 := Lib.hid (below_then HB1.out hb5); clear ho5 hb5) | (at_builtin; refine wpList_append_any rfl _ _ 44 rfl w.heap.size 3 i0 (.int .i64 0) 1 8 Tryz.underlying44 hia hza0 hza1 hza2 rfl (by decide) (.slice A1 (n2 + 1) c1) (n2 + 1) (nums (l ++ [k])) rfl HO1.out A5 n5 c5 (nums (belongP L.nf L.par L.flatF u k)) rfl HO5.out.1 (own_src HO5.out rfl) (nums_one _) (by unfold maxLen; omega) (by omega) HB5.out.size ?_; intro A9 c9 w9 o9 hg9 hat9; rw [nums_append] at o9; have HO9 := Lib.hid o9; have HB9 := Lib.hid (below_grownB HB5.out HO1.out (Nat.le_refl _) hg9); clear o9 hg9 hat9))
        go_roundw
        case rel => exact ⟨i + 1, n2 + 1 + n5, A9, c9, l ++ [k] ++ belongP L.nf L.par L.flatF u k, by have := II.out; omega, by go_num, rfl, HO9.out, HB9.out, HNX.out⟩
        case measure => have := II.out; simp [intOf]; omega
      · have qf : (iv == 0) = false := by rw [HFL.out]; simpa using hfl
        have HNX : Hid (l ++ [k] = bel L u (ks.take (i + 1))) := by show _ = _; rw [HSN.out, bel_snoc, ← HL.out, if_neg hfl]
        clear hfl
        go_wp2_with (at_builtin; refine wpList_append_any rfl _ _ 44 rfl w.heap.size 3 i0 (.int .i64 0) 1 8 Tryz.underlying44 hia hza0 hza1 hza2 rfl (by decide) (.slice A2 n2 c2) n2 (nums l) rfl (HLO.out.alloc _) (some ⟨wr.heap.size, 0, none⟩) 1 1 (nums [k]) rfl (by simp [nums]) (.inl ⟨_, 0, rfl, blk_one HBX.out⟩) (nums_one _) (by unfold maxLen; omega) (by omega) (by rw [alloc_size]; exact Nat.le_succ_of_le HBL.out.size) ?_; intro A1 c1 w1 o1 hg1 hat1; rw [nums_append] at o1; have HO1 := Lib.hid o1; have HB1 := Lib.hid (below_grownB (below_alloc HBL.out (.cells #[.int .i64 (k : Nat)] 3)) (HLO.out.alloc (.cells #[.int .i64 (k : Nat)] 3)) (Nat.le_refl _) hg1); have m0 := (HMK.out _ HB1.out).1; have m1 := (HMK.out _ HB1.out).2; clear o1 hg1 hat1)
        go_roundw
        case rel => exact ⟨i + 1, n2 + 1, A1, c1, l ++ [k], by have := II.out; omega, by go_num, rfl, HO1.out, HB1.out, HNX.out⟩
        case measure => have := II.out; simp [intOf]; omega
    · obtain rfl : i = m := by omega
      have HE : Hid (l = belongP L.nf L.par L.flatF (u + 1) f) := by show _ = _; rw [HL.out, HALL.out, HM.out, List.take_length]
      clear hlt hi
      go_wp2_with fail
      go_ret
      exact ⟨A2, n2, c2, rfl, by rw [← HE.out]; exact HLO.out, HBL.out⟩
theorem bel_calls (L : LayV) (B gO gM cM gK cK : Nat) : ∀ u, BelSays L B gO gM cM gK cK u
  | 0 => fun f v w hK hf hn => absurd hn (by omega)
  | u + 1 => bel_step L B gO gM cM gK cK u (bel_calls L B gO gM cM gK cK u)
end Go.Proofs.YtkmmlcnoeeaekaaGreatDoor
