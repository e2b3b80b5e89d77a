/- Several texts in one: TfQ, TeY, TfR. -/
import Derived.Test.YtcghahfboccceaaGreatDoorTopEscapeM28
import Derived.Test.YtcghahfboccceaaGreatDoorTopEscapeM40
import Derived.Test.YtcghahfboccceaaGreatDoorTopEscapeM26
/- What dom.Check says hangs on what the nodes are, not on where they lie. -/
namespace Go.Proofs.YtcghahfboccceaaGreatDoor
open Go.RowKit Go.Shelf
set_option linter.unusedVariables false
set_option linter.unusedSimpArgs false

def conc (x : Nd) : NodeV := ⟨x.kind, x.name, none, x.attrs, 0, x.text, x.parent, none, x.kids, 0⟩
def placeless (x : NodeV) : NodeV := conc x.abs
theorem nd_pl (ns : List NodeV) (i : Nat) : nd (ns.map placeless) i = placeless (nd ns i) := by
  unfold nd
  rw [List.getD_eq_getElem?_getD, List.getD_eq_getElem?_getD, List.getElem?_map]
  cases ns[i]? <;> rfl
theorem pairs_pl (ns : List NodeV) : ∀ u i, pairs (ns.map placeless) u i = pairs ns u i
  | 0, _ => rfl
  | u + 1, i => by rw [pairs, pairs, nd_pl, pairs_pl ns u]; rfl
theorem runK_pl (ns : List NodeV) : ∀ l seen, runK (ns.map placeless) l seen = runK ns l seen
  | [], _ => rfl
  | (i, k) :: r, seen => by
    rw [runK_cons, runK_cons, nd_pl, List.length_map, runK_pl ns r]
    rfl
theorem upF_pl (ns : List NodeV) : ∀ u i, upF (ns.map placeless) u i = upF ns u i
  | 0, _ => rfl
  | u + 1, i => by rw [upF, upF, nd_pl, upF_pl ns u]; rfl
theorem nodeE_pl (ns : List NodeV) (i : Nat) : nodeE (ns.map placeless) i = nodeE ns i := by rw [nodeE, nodeE, nd_pl]; rfl
theorem kidsE_pl (ns : List NodeV) : kidsE (ns.map placeless) = kidsE ns := by
  have h1 : kidsR (ns.map placeless) = kidsR ns := by rw [kidsR, kidsR, List.length_map, pairs_pl, runK_pl]
  have h2 : looseE (ns.map placeless) (kidsR ns).2 = looseE ns (kidsR ns).2 := by
    funext i
    rw [looseE, looseE, nd_pl]
    rfl
  rw [kidsE, kidsE, h1, h2, List.length_map, nd_pl]
  rfl
theorem checkE_pl (ns : List NodeV) : checkE (ns.map placeless) = checkE ns := by
  have h1 : nodeE (ns.map placeless) = nodeE ns := funext (nodeE_pl ns)
  have h2 : upE (ns.map placeless) = upE ns := by
    funext i
    rw [upE, upE, List.length_map, upF_pl]
  rw [checkE, checkE, List.length_map, h1, h2, kidsE_pl]
theorem checkE_abs {ns : List NodeV} {l : List Nd} (h : ns.map NodeV.abs = l) : checkE ns = checkE (l.map conc) := by
  rw [← h, List.map_map]
  exact (checkE_pl ns).symm
/-- The document of a paragraph with a text, or without one. -/
def docA (c : ByteArray) : List Nd :=
  if c.size = 0 then [⟨1, ⟨#[]⟩, [], ⟨#[]⟩, -1, [1]⟩, ⟨2, ⟨#[104, 116, 109, 108]⟩, [], ⟨#[]⟩, 0, [2, 3]⟩, ⟨2, ⟨#[104, 101, 97, 100]⟩, [], ⟨#[]⟩, 1, []⟩, ⟨2, ⟨#[98, 111, 100, 121]⟩, [], ⟨#[]⟩, 1, [4]⟩, ⟨2, ⟨#[112]⟩, [], ⟨#[]⟩, 3, []⟩]
  else [⟨1, ⟨#[]⟩, [], ⟨#[]⟩, -1, [1]⟩, ⟨2, ⟨#[104, 116, 109, 108]⟩, [], ⟨#[]⟩, 0, [2, 3]⟩, ⟨2, ⟨#[104, 101, 97, 100]⟩, [], ⟨#[]⟩, 1, []⟩, ⟨2, ⟨#[98, 111, 100, 121]⟩, [], ⟨#[]⟩, 1, [4]⟩, ⟨2, ⟨#[112]⟩, [], ⟨#[]⟩, 3, [5]⟩, ⟨3, ⟨#[]⟩, [], c, 4, []⟩]
theorem checkA (c : ByteArray) (hc : c.size ≤ 400) : checkE ((docA c).map conc) = 0 := by
  unfold docA
  split
  · decide +kernel
  · rename_i h0
    have e1 : (c.size == 0) = false := beq_eq_false_iff_ne.2 h0
    have e2 : ¬ 400 < c.size := by omega
    have hN : ∀ i, i < 6 → nodeE ([⟨1, ⟨#[]⟩, [], ⟨#[]⟩, -1, [1]⟩, ⟨2, ⟨#[104, 116, 109, 108]⟩, [], ⟨#[]⟩, 0, [2, 3]⟩, ⟨2, ⟨#[104, 101, 97, 100]⟩, [], ⟨#[]⟩, 1, []⟩, ⟨2, ⟨#[98, 111, 100, 121]⟩, [], ⟨#[]⟩, 1, [4]⟩, ⟨2, ⟨#[112]⟩, [], ⟨#[]⟩, 3, [5]⟩, ⟨3, ⟨#[]⟩, [], c, 4, []⟩].map conc) i = 0 := by
      intro i hi
      have : i = 0 ∨ i = 1 ∨ i = 2 ∨ i = 3 ∨ i = 4 ∨ i = 5 := by omega
      rcases this with rfl | rfl | rfl | rfl | rfl | rfl
      · show (if decide ((conc ⟨1, ⟨#[]⟩, [], ⟨#[]⟩, -1, [1]⟩).kind = 1) = decide (0 = 0) then oneE (conc ⟨1, ⟨#[]⟩, [], ⟨#[]⟩, -1, [1]⟩) else 3) = 0
        decide +kernel
      · show (if decide ((conc ⟨2, ⟨#[104, 116, 109, 108]⟩, [], ⟨#[]⟩, 0, [2, 3]⟩).kind = 1) = decide (1 = 0) then oneE (conc ⟨2, ⟨#[104, 116, 109, 108]⟩, [], ⟨#[]⟩, 0, [2, 3]⟩) else 3) = 0
        decide +kernel
      · show (if decide ((conc ⟨2, ⟨#[104, 101, 97, 100]⟩, [], ⟨#[]⟩, 1, []⟩).kind = 1) = decide (2 = 0) then oneE (conc ⟨2, ⟨#[104, 101, 97, 100]⟩, [], ⟨#[]⟩, 1, []⟩) else 3) = 0
        decide +kernel
      · show (if decide ((conc ⟨2, ⟨#[98, 111, 100, 121]⟩, [], ⟨#[]⟩, 1, [4]⟩).kind = 1) = decide (3 = 0) then oneE (conc ⟨2, ⟨#[98, 111, 100, 121]⟩, [], ⟨#[]⟩, 1, [4]⟩) else 3) = 0
        decide +kernel
      · show (if decide ((conc ⟨2, ⟨#[112]⟩, [], ⟨#[]⟩, 3, [5]⟩).kind = 1) = decide (4 = 0) then oneE (conc ⟨2, ⟨#[112]⟩, [], ⟨#[]⟩, 3, [5]⟩) else 3) = 0
        decide +kernel
      · show (if decide ((conc ⟨3, ⟨#[]⟩, [], c, 4, []⟩).kind = 1) = decide (5 = 0) then oneE (conc ⟨3, ⟨#[]⟩, [], c, 4, []⟩) else 3) = 0
        rw [if_pos (by rfl)]
        have z : (⟨#[]⟩ : ByteArray).size = 0 := rfl
        simp [conc, oneE, bareP, attrsE, firstE, z]
        omega
    have hK : kidsE ([⟨1, ⟨#[]⟩, [], ⟨#[]⟩, -1, [1]⟩, ⟨2, ⟨#[104, 116, 109, 108]⟩, [], ⟨#[]⟩, 0, [2, 3]⟩, ⟨2, ⟨#[104, 101, 97, 100]⟩, [], ⟨#[]⟩, 1, []⟩, ⟨2, ⟨#[98, 111, 100, 121]⟩, [], ⟨#[]⟩, 1, [4]⟩, ⟨2, ⟨#[112]⟩, [], ⟨#[]⟩, 3, [5]⟩, ⟨3, ⟨#[]⟩, [], c, 4, []⟩].map conc) = 0 := by rfl
    have hU : firstE (upE ([⟨1, ⟨#[]⟩, [], ⟨#[]⟩, -1, [1]⟩, ⟨2, ⟨#[104, 116, 109, 108]⟩, [], ⟨#[]⟩, 0, [2, 3]⟩, ⟨2, ⟨#[104, 101, 97, 100]⟩, [], ⟨#[]⟩, 1, []⟩, ⟨2, ⟨#[98, 111, 100, 121]⟩, [], ⟨#[]⟩, 1, [4]⟩, ⟨2, ⟨#[112]⟩, [], ⟨#[]⟩, 3, [5]⟩, ⟨3, ⟨#[]⟩, [], c, 4, []⟩].map conc)) 6 = 0 := by rfl
    rw [checkE]
    have hF : firstE (nodeE ([⟨1, ⟨#[]⟩, [], ⟨#[]⟩, -1, [1]⟩, ⟨2, ⟨#[104, 116, 109, 108]⟩, [], ⟨#[]⟩, 0, [2, 3]⟩, ⟨2, ⟨#[104, 101, 97, 100]⟩, [], ⟨#[]⟩, 1, []⟩, ⟨2, ⟨#[98, 111, 100, 121]⟩, [], ⟨#[]⟩, 1, [4]⟩, ⟨2, ⟨#[112]⟩, [], ⟨#[]⟩, 3, [5]⟩, ⟨3, ⟨#[]⟩, [], c, 4, []⟩].map conc)) 6 = 0 := firstE_none hN
    have hl : (([⟨1, ⟨#[]⟩, [], ⟨#[]⟩, -1, [1]⟩, ⟨2, ⟨#[104, 116, 109, 108]⟩, [], ⟨#[]⟩, 0, [2, 3]⟩, ⟨2, ⟨#[104, 101, 97, 100]⟩, [], ⟨#[]⟩, 1, []⟩, ⟨2, ⟨#[98, 111, 100, 121]⟩, [], ⟨#[]⟩, 1, [4]⟩, ⟨2, ⟨#[112]⟩, [], ⟨#[]⟩, 3, [5]⟩, ⟨3, ⟨#[]⟩, [], c, 4, []⟩] : List Nd).map conc).length = 6 := rfl
    rw [hl, hF, hK, hU]
    rfl
end Go.Proofs.YtcghahfboccceaaGreatDoor
/- The tokens of a paragraph's text. -/
namespace Go.Proofs.YtcghahfboccceaaGreatDoor
open Go.RowKit Go.Shelf
set_option linter.unusedVariables false
set_option linter.unusedSimpArgs false

theorem noNum_nil : NoNum [] := fun a h => by simp at h
theorem noNum_cons {b : UInt8} {x : List UInt8} (h : b ≠ 38 ∨ x.head? ≠ some 35) (hx : NoNum x) : NoNum (b :: x) := fun a => by
  cases a with
  | zero =>
    intro h1
    have h1 : b = 38 := by simpa using h1
    rcases h with h | h
    · exact absurd h1 h
    · simpa [List.head?_eq_getElem?] using h
  | succ a => simpa using hx a
theorem esc_noNum : ∀ (n : Nat) (l : List UInt8), l.length ≤ n → NoNum (esc l)
  | _, [], _ => by rw [show esc [] = [] from rfl]; exact noNum_nil
  | 0, _ :: _, h => by simp at h
  | n + 1, b :: l, h => by
    have hl : l.length ≤ n := by simpa using h
    have ih := esc_noNum n l hl
    by_cases h1 : b = 38
    · subst h1
      rw [esc_amp]
      exact noNum_cons (.inr (by show some (97 : UInt8) ≠ some 35; decide)) (noNum_cons (.inl (by decide)) (noNum_cons (.inl (by decide)) (noNum_cons (.inl (by decide)) (noNum_cons (.inl (by decide)) ih))))
    by_cases h2 : b = 60
    · subst h2
      rw [esc_lt]
      exact noNum_cons (.inr (by show some (108 : UInt8) ≠ some 35; decide)) (noNum_cons (.inl (by decide)) (noNum_cons (.inl (by decide)) (noNum_cons (.inl (by decide)) ih)))
    by_cases h3 : b = 62
    · subst h3
      rw [esc_gt]
      exact noNum_cons (.inr (by show some (103 : UInt8) ≠ some 35; decide)) (noNum_cons (.inl (by decide)) (noNum_cons (.inl (by decide)) (noNum_cons (.inl (by decide)) ih)))
    by_cases h4 : b = 194 ∧ l.head? = some 160
    · obtain ⟨rfl, h5⟩ := h4
      obtain ⟨l', rfl⟩ : ∃ l', l = 160 :: l' := by
        cases l with
        | nil => cases h5
        | cons c l' => injection h5 with h5; subst h5; exact ⟨l', rfl⟩
      rw [esc_nb]
      have ih2 := esc_noNum n l' (by simp at hl; omega)
      exact noNum_cons (.inr (by show some (110 : UInt8) ≠ some 35; decide)) (noNum_cons (.inl (by decide)) (noNum_cons (.inl (by decide)) (noNum_cons (.inl (by decide)) (noNum_cons (.inl (by decide)) (noNum_cons (.inl (by decide)) ih2)))))
    · rw [esc_else h1 h2 h3 h4]
      exact noNum_cons (.inl h1) ih
/-- The paragraph's text. -/
def paraS (l : List UInt8) : ByteArray := ⟨(60 :: 112 :: 62 :: esc l).toArray⟩
def paraT (l : List UInt8) : List TokD := [⟨1, ⟨#[112]⟩, [], ⟨#[]⟩, false, 0, 3⟩] ++ (if l = [] then [] else [⟨3, ⟨#[]⟩, [], ⟨l.toArray⟩, false, 3, (paraS l).size⟩])
theorem para_size (l : List UInt8) : (paraS l).size = 3 + (esc l).length := by show (60 :: 112 :: 62 :: esc l).toArray.size = _; simp; omega
theorem para_at (l : List UInt8) (k : Nat) (h : k < (paraS l).size) : (60 :: 112 :: 62 :: esc l)[k]? = some (paraS l)[k] := by
  have := u8_data (paraS l) k h
  exact this
theorem esc_empty {l : List UInt8} (h : esc l = []) : l = [] := by
  have h2 := readF_esc l.length l (Nat.le_refl _) 0 (by rw [h]; exact Nat.le_refl _)
  rw [h] at h2
  simpa [readF] using h2.symm
theorem para_stages (l : List UInt8) (hl : l.length ≤ 1000) : ∃ n A A' dd kd D, Stages (paraS l) n A A' dd kd D ∧ D n = paraT l := by
  have hsz := para_size l
  have h5n := esc_length l
  have hs : (paraS l).size ≤ 1099511627776 := by omega
  have p0 : (paraS l)[0]'(by omega) = 60 := by have := para_at l 0 (by omega); exact (Option.some.inj this).symm
  have p1 : (paraS l)[1]'(by omega) = 112 := by have := para_at l 1 (by omega); exact (Option.some.inj this).symm
  have hb : Begins (paraS l) 0 := ⟨by omega, by rw [p0]; rfl, .inl (by show ((paraS l)[1]'(by omega)).toNat = 112; rw [p1]; rfl)⟩
  have hex : (paraS l).extract 3 (paraS l).size = ⟨(esc l).toArray⟩ := by
    apply ByteArray.ext
    apply Array.ext'
    have : ((paraS l).extract 3 (paraS l).size).data.toList = ((60 :: 112 :: 62 :: esc l).drop 3) := by
      simp [paraS]
      rw [List.take_of_length_le]
      show _ ≤ (paraS l).size - 3
      omega
    rw [this]; rfl
  have htxt : TxtOk (paraS l) 3 (paraS l).size := ⟨by omega, Nat.le_refl _, fun k h h3 _ e => by
      have h4 := para_at l k h
      obtain ⟨j, rfl⟩ : ∃ j, k = j + 3 := ⟨k - 3, by omega⟩
      have h5 : (esc l)[j]? = some (paraS l)[j + 3] := h4
      have h6 := List.mem_of_getElem? h5
      exact esc_noLt l.length l (Nat.le_refl _) _ h6 (UInt8.toNat_inj.1 e), .inl rfl, by rw [hex]; exact esc_noNum l.length l (Nat.le_refl _)⟩
  refine ⟨1, fun i => if i = 0 then 0 else (paraS l).size, fun _ => 3, fun _ => ⟨1, ⟨#[112]⟩, [], ⟨#[]⟩, false, 0, 3⟩, fun _ => 97, fun i => if i = 0 then [] else paraT l, ⟨⟨Nat.le_refl _, Nat.zero_le _, fun k _ _ h => by simp at h, .inr hb, ?_⟩, by simp [textD], fun i hi => ?_, fun i hi => ?_, rfl, fun i hi => ?_⟩, rfl⟩
  · have : ((paraS l).extract 0 (if (0 : Nat) = 0 then 0 else (paraS l).size)).data.toList = [] := by simp
    rw [this]; exact noNum_nil
  · obtain rfl : i = 0 := by omega
    have hL : (paraS l).data.toList = 60 :: 112 :: 62 :: esc l := rfl
    have h62 : (paraS l)[2]'(by omega) = 62 := by have := para_at l 2 (by omega); exact (Option.some.inj this).symm
    have hn : (paraS l).extract 1 2 = ⟨#[112]⟩ := by
      apply ByteArray.ext
      apply Array.ext'
      simp [paraS]
    have hn0 : (paraS l).extract 2 2 = ⟨#[]⟩ := by
      apply ByteArray.ext
      apply Array.ext'
      simp
    have hk1 : skipTo nameEnd (paraS l).data.toList 1 = 2 := by
      rw [hL, skip_step (by simp) (by rfl), skip_at (by simp) (by rfl)]
    have hk2 : skipTo noSkip (paraS l).data.toList 2 = 2 := by
      rw [hL, skip_at (by simp) (by rfl)]
    refine ⟨by show 0 < 3; decide, by show 0 < (paraS l).size; omega, htxt, fun b c1 c2 c3 w hB => ?_, fun B b m c2 c3 w hB hw _ _ hb1 => ?_, by show (1 : Int) ≠ 0; decide, fun _ w => raw_p w, rfl, rfl⟩
    · exact markup_p b (paraS l) 0 c1 c2 c3 hs w (by omega) (by rw [p0]; rfl) (by show ((paraS l)[1]'(by omega)).toNat = 112; rw [p1]; rfl) hB
    · refine next_tag B b (paraS l) 0 3 c2 c3 _ hB hs (by omega) w hb1 (fun w1 _ hb2 => ?_)
      exact tagA_says B b (paraS l) ⟨#[112]⟩ 0 2 2 c2 c3 hs (by omega) hk1 hn (by decide) (fun k h => by have h1 : k < 1 := h; obtain rfl : k = 0 := (by omega); show 97 ≤ (112 : UInt8).toNat ∧ (112 : UInt8).toNat ≤ 122; decide) hk2 hn0 (by omega) (by rw [h62]; rfl) w1 hb2
  · obtain rfl : i = 0 := by omega
    show paraT l = [] ++ [_] ++ textD (paraS l) 3 (paraS l).size
    unfold paraT textD
    rw [hex]
    by_cases c : l = []
    · have : ¬ 3 < (paraS l).size := by rw [hsz, c]; simp [esc]
      rw [if_pos c, if_neg this]; rfl
    · have : 3 < (paraS l).size := by
        rw [hsz]
        have : (esc l).length ≠ 0 := fun e => c (esc_empty (List.eq_nil_of_length_eq_zero e))
        omega
      rw [if_neg c, if_pos this]
      have e := readF_esc l.length l (Nat.le_refl _) (esc l).length (Nat.le_refl _)
      have e2 : (⟨(esc l).toArray⟩ : ByteArray).data.toList = esc l := rfl
      have e3 : (⟨(esc l).toArray⟩ : ByteArray).size = (esc l).length := rfl
      rw [e2, e3, e]; rfl
  · show (if i = 0 then [] else paraT l).length < 999999
    split
    · simp
    · unfold paraT; split <;> simp
end Go.Proofs.YtcghahfboccceaaGreatDoor
/- The parser at a paragraph's start, at its text, at the end. -/
namespace Go.Proofs.YtcghahfboccceaaGreatDoor
open Go.RowKit Go.Shelf
set_option linter.unusedVariables false
set_option linter.unusedSimpArgs false

/-- The parser at the beginning. -/
def P0 : PS := ⟨[⟨1, ⟨#[]⟩, [], ⟨#[]⟩, -1, []⟩], [0], 0, 0, -1, -1, false, false⟩
def P1 : PS := { P0 with quirks := true, mode := 1 }
def P2 : PS := { (({ P1 with op := [] } : PS).element 0 htmlN []) with mode := 2 }
def P3 : PS := { (P2.element 1 headN []) with head := (P2.ns.length : Int), mode := 3 }
def P4 : PS := { P3 with op := P3.op.take (P3.op.length - 1), mode := 5 }
def P5 : PS := { (P4.element 1 bodyN []) with mode := 6 }
def P6 : PS := P5.element 3 ⟨#[112]⟩ []
def StA : Nat → PS
  | 0 => P0 | 1 => P1 | 2 => P2 | 3 => P3 | 4 => P4 | 5 => P5 | _ => P6
/-- A contract of a mode, taken. -/
theorem taken {B b : Nat} {m : Int} {S S' : PS} {W : World} {o : Obj} {q : Bool} {fn : Nat} {arg : Value} (h : RP B b m S W)
    (hF : ∀ W1, Below W.heap.size W W1 → RP B b m S W1 → Calls Tryz.prog fn #[.pointer (some ⟨b, 0, none⟩), arg] W1 fun e w' => e = .returned (.bool q) ∧ RP B b m S' w' ∧ Left B W1 w') :
    Calls Tryz.prog fn #[.pointer (some ⟨b, 0, none⟩), arg] (W.alloc o) fun e w' => e = .returned (.bool q) ∧ RP B b m S' w' ∧ Left B W w' := by
  have hb := (Below.refl W.heap.size W).alloc (Nat.le_refl _) o
  refine (hF _ hb (h.below hb)).mono ?_
  rintro e w' ⟨he, hr, hl⟩
  exact ⟨he, hr, (Left.of_below hb h.bw).trans hl⟩
theorem one_pA (B b : Nat) (m : Int) (f t : Int) (A : Option Addr) (c : Nat) (w : World) (h : RP B b m P0 w) (hat : AttrsAt B (.slice A 0 c) [] w) :
    Calls Tryz.prog 63 #[.pointer (some ⟨b, 0, none⟩), .agg #[.int .i64 1, .string ⟨#[112]⟩, .slice A 0 c, .string ⟨#[]⟩, .bool false, .int .i64 f, .int .i64 t]] w fun e w' => e = .returned (.tuple #[]) ∧ RP B b m P6 w' ∧ Left B w w' := by
  refine one_steps B b m 5 StA 1 f t ⟨#[112]⟩ ⟨#[]⟩ A 0 c false [] w h hat rfl ?_ (.inl (by decide)) (.inl (by decide)) ?_ ?_
  · intro i hi
    have : i = 0 ∨ i = 1 ∨ i = 2 ∨ i = 3 ∨ i = 4 ∨ i = 5 := by omega
    rcases this with rfl | rfl | rfl | rfl | rfl | rfl
    · exact .inl rfl
    · exact .inr (.inl rfl)
    · exact .inr (.inr (.inl rfl))
    · exact .inr (.inr (.inr (.inl rfl)))
    · exact .inr (.inr (.inr (.inr (.inl rfl))))
    · exact .inr (.inr (.inr (.inr (.inr rfl))))
  · intro i hi
    have : i = 0 ∨ i = 1 ∨ i = 2 ∨ i = 3 ∨ i = 4 := by omega
    rcases this with rfl | rfl | rfl | rfl | rfl <;> decide
  · intro i hi W hR hA
    have : i = 0 ∨ i = 1 ∨ i = 2 ∨ i = 3 ∨ i = 4 ∨ i = 5 := by omega
    rcases this with rfl | rfl | rfl | rfl | rfl | rfl
    · exact take_0 b 1 f t ⟨#[112]⟩ ⟨#[]⟩ A 0 c false true (fun w' => RP B b m P1 w' ∧ Left B W w') W (taken hR fun W1 hb hR1 => initial_p B b m P0 f t A 0 c [] W1 hR1 (own_below hA hb))
    · exact take_1 b 1 f t ⟨#[112]⟩ ⟨#[]⟩ A 0 c false true (fun w' => RP B b m P2 w' ∧ Left B W w') W (taken hR fun W1 hb hR1 => beforeHTML_p B b m P1 ⟨1, ⟨#[]⟩, [], ⟨#[]⟩, -1, []⟩ f t A 0 c [] W1 hR1 (own_below hA hb) rfl (by decide) (by decide))
    · exact take_2 b 1 f t ⟨#[112]⟩ ⟨#[]⟩ A 0 c false true (fun w' => RP B b m P3 w' ∧ Left B W w') W (taken hR fun W1 hb hR1 => beforeHead_p B b m P2 1 ⟨2, htmlN, [], ⟨#[]⟩, 0, []⟩ f t A 0 c [] W1 hR1 (own_below hA hb) rfl rfl (by decide) (by decide) (by decide))
    · exact take_3 b 1 f t ⟨#[112]⟩ ⟨#[]⟩ A 0 c false true (fun w' => RP B b m P4 w' ∧ Left B W w') W (taken hR fun W1 hb hR1 => inHead_p B b m P3 f t A 0 c [] W1 hR1 (own_below hA hb) (by decide) (by decide))
    · exact take_5 b 1 f t ⟨#[112]⟩ ⟨#[]⟩ A 0 c false true (fun w' => RP B b m P5 w' ∧ Left B W w') W (taken hR fun W1 hb hR1 => afterHead_p B b m P4 1 ⟨2, htmlN, [], ⟨#[]⟩, 0, [2]⟩ f t A 0 c [] W1 hR1 (own_below hA hb) rfl rfl (by decide) (by decide) (by decide))
    · refine take_6 b 1 f t ⟨#[112]⟩ ⟨#[]⟩ A 0 c false false (fun w' => RP B b m P6 w' ∧ Left B W w') W (taken hR fun W1 hb hR1 => inBody_p B b m P5 3 ⟨2, bodyN, [], ⟨#[]⟩, 1, []⟩ f t A 0 c [] W1 hR1 (own_below hA hb) [htmlN, bodyN] rfl rfl (by decide) (by decide) (by decide) (by decide) ?_ (by decide) (by decide) ?_ (by decide +kernel))
      · refine ⟨rfl, fun i hi => ?_⟩
        have hi : i < 2 := hi
        have : i = 0 ∨ i = 1 := by omega
        rcases this with rfl | rfl
        · exact ⟨1, ⟨2, htmlN, [], ⟨#[]⟩, 0, [2, 3]⟩, rfl, rfl, rfl⟩
        · exact ⟨3, ⟨2, bodyN, [], ⟨#[]⟩, 1, []⟩, rfl, rfl, rfl⟩
      · intro x hx
        have : x = htmlN ∨ x = bodyN := by simpa using hx
        rcases this with rfl | rfl <;> decide
def P7 (c : ByteArray) : PS := P6.text 4 c
theorem one_txA (B b : Nat) (m : Int) (f t : Int) (c : ByteArray) (A : Option Addr) (cc : Nat) (hc : c.size ≠ 0) (hc2 : c.size ≤ 1000000) (w : World) (h : RP B b m P6 w) (hat : AttrsAt B (.slice A 0 cc) [] w) :
    Calls Tryz.prog 63 #[.pointer (some ⟨b, 0, none⟩), .agg #[.int .i64 3, .string ⟨#[]⟩, .slice A 0 cc, .string c, .bool false, .int .i64 f, .int .i64 t]] w fun e w' => e = .returned (.tuple #[]) ∧ RP B b m (P7 c) w' ∧ Left B w w' := by
  refine one_steps B b m 0 (fun i => if i = 0 then P6 else P7 c) 3 f t ⟨#[]⟩ c A 0 cc false [] w h hat rfl (fun i hi => ?_) (.inl (by decide)) (.inr ⟨rfl, rfl, hc, hc2⟩) (fun i hi => absurd hi (by omega)) (fun i hi W hR hA => ?_)
  · obtain rfl : i = 0 := by omega
    exact .inr (.inr (.inr (.inr (.inr rfl))))
  · obtain rfl : i = 0 := by omega
    exact take_6 b 3 f t ⟨#[]⟩ c A 0 cc false false (fun w' => RP B b m (P7 c) w' ∧ Left B W w') W (taken hR fun W1 hb hR1 => inBody_txt B b m P6 4 ⟨2, ⟨#[112]⟩, [], ⟨#[]⟩, 3, []⟩ f t c A 0 cc W1 hR1 rfl rfl rfl (by decide) hc (by decide) (by decide))
theorem one_over (B b : Nat) (m : Int) (S : PS) (hm : S.mode = 6) (hf : S.fresh = false) (w : World) (h : RP B b m S w) :
    Calls Tryz.prog 63 #[.pointer (some ⟨b, 0, none⟩), .agg #[.int .i64 0, .string ⟨#[]⟩, .slice none 0 0, .string ⟨#[]⟩, .bool false, .int .i64 0, .int .i64 0]] w fun e w' => e = .returned (.tuple #[]) ∧ RP B b m S w' ∧ Left B w w' := by
  refine one_steps B b m 0 (fun _ => S) 0 0 0 ⟨#[]⟩ ⟨#[]⟩ none 0 0 false [] w h (AttrsAt.none B w) hf (fun i hi => .inr (.inr (.inr (.inr (.inr hm))))) (.inl (by decide)) (.inl (by decide)) (fun i hi => absurd hi (by omega)) (fun i hi W hR hA => ?_)
  obtain rfl : i = 0 := by omega
  show Calls _ _ #[_, .int .i64 S.mode, _] _ _
  rw [hm]
  exact take_6 b 0 0 0 ⟨#[]⟩ ⟨#[]⟩ none 0 0 false false (fun w' => RP B b m S w' ∧ Left B W w') W (taken hR fun W1 hb hR1 => inBody_over B b m S W1 hR1)
theorem P6_ns : P6.ns = docA ⟨#[]⟩ := rfl
theorem P7_ns (c : ByteArray) (hc : c.size ≠ 0) : (P7 c).ns = docA c := by
  unfold docA
  rw [if_neg hc]
  rfl
end Go.Proofs.YtcghahfboccceaaGreatDoor
