/- Several texts in one: TeL. -/
import Derived.Test.YtcghahfboccceaaGreatDoorTopEscapeM16
import Derived.Test.YtcghahfboccceaaGreatDoorTopEscapeM19
/- Contracts of entity.Find, entity.read, entity.Text, entity.Escape. -/
namespace Go.Proofs.YtcghahfboccceaaGreatDoor
open Go.RowKit Go.Shelf
set_option linter.unusedVariables false
set_option linter.unusedSimpArgs false

theorem namedR_inv {L : List UInt8} (hL : 1 ≤ L.length) : ∀ (t : List (List UInt8 × Int × Bool)) (acc : List UInt8 × Nat), acc.1.length ≤ 4 ∧ acc.2 ≤ L.length → (t.foldl (namedR L) acc).1.length ≤ 4 ∧ (t.foldl (namedR L) acc).2 ≤ L.length
  | [], acc, h => h
  | x :: t, acc, h => by
    rw [List.foldl_cons]
    refine namedR_inv hL t _ ?_
    unfold namedR
    split
    · exact h
    rename_i h1
    split
    · exact h
    refine ⟨?_, ?_⟩
    · show (signF x.2.1).length ≤ 4
      unfold signF
      exact (encZ_len _).1
    · show semiF L (x.1.length + 1) ≤ L.length
      have hp : Lib.hasPrefix (L.drop 1) x.1 = true := by simpa using h1
      have hlen : x.1.length ≤ L.length - 1 := by
        have := (List.isPrefixOf_iff_prefix.1 (by simpa [Lib.hasPrefix] using hp) : x.1 <+: L.drop 1).length_le
        simpa using this
      unfold semiF
      split
      · rename_i h2
        have := (List.getElem?_eq_some_iff.1 h2).1
        omega
      · omega
theorem findF_inv (L : List UInt8) (attr : Bool) (h : L.head? = some 38 → attr = false) : (findF L attr).1.length ≤ 4 ∧ (findF L attr).2 ≤ L.length := by
  unfold findF
  split
  · rename_i h1
    rw [h h1]
    have hL : 1 ≤ L.length := by cases L with | nil => cases h1 | cons => simp
    exact namedR_inv hL namesT ([], 0) ⟨by simp, by simp⟩
  · simp
set_option maxRecDepth 100000 in
set_option maxHeartbeats 4000000 in
theorem find_callsE (s : ByteArray) (attr : Bool) (h : s.data.toList.head? = some 38 → attr = false ∧ s.data.toList[1]? ≠ some 35) (h0 : 0 < s.size) (hs : s.size ≤ 1099511627776) (w : World) :
    Calls Tryz.prog 151 #[.string s, .bool attr] w fun e w' => e = .returned (.tuple #[.string ⟨(findF s.data.toList attr).1.toArray⟩, .int .i64 ((findF s.data.toList attr).2 : Nat)]) ∧ Below w.heap.size w w' := by
  have hlen : s.data.toList.length = s.size := by simp
  have HG : ∀ k (h : k < s.size), s.data.toList[k]? = some s[k] := fun k h => by rw [List.getElem?_eq_getElem (by simpa using h)]; rfl
  have e0 : s.toList.isEmpty = false := by rw [isEmpty_size]; exact beq_eq_false_iff_ne.2 (by omega)
  obtain ⟨u, hu⟩ : ∃ u, u = s[0] := ⟨_, rfl⟩
  have hu2 : s[0] = u := hu.symm
  have hd : s.data.toList.head? = some u := by rw [List.head?_eq_getElem?, HG 0 h0, hu]
  by_cases h38 : u = 38
  · obtain ⟨rfl, hn⟩ := h (by rw [hd, h38])
    have HN := Lib.hid (enamed_calls s h0 hs)
    have HE : Hid (findF s.data.toList false = namedF s.data.toList false) := by show _ = _; rw [findF, if_pos (by rw [hd, h38])]
    have e1 : ((u.toNat : Int) != 38) = false := by rw [h38]; rfl
    have HEE := Lib.hid (HE.out)
    by_cases h1 : 1 < s.size
    · have e2 : ((s[1].toNat : Int) == 35) = false := by
        simp only [beq_eq_false_iff_ne, ne_eq]
        intro e
        apply hn
        rw [HG 1 h1]
        congr 1
        apply UInt8.toNat_inj.1
        have : (35 : UInt8).toNat = 35 := rfl
        omega
      clear h HG hd hu hn hlen HE h38
      go_enter Tryz.func151, Tryz.ntmps151
      go_wp2_with (go_at_call 197; refine (HN.out _).mono ?_; rintro e w1 ⟨rfl, hb⟩)
      refine bodyPost_ret (results_tmp2 rfl _ _ _) rfl ⟨?_, hb⟩
      rw [HEE.out]
      rfl
    · clear h HG hd hu hn hlen HE h38
      go_enter Tryz.func151, Tryz.ntmps151
      go_wp2_with (go_at_call 197; refine (HN.out _).mono ?_; rintro e w1 ⟨rfl, hb⟩)
      refine bodyPost_ret (results_tmp2 rfl _ _ _) rfl ⟨?_, hb⟩
      rw [HEE.out]
      rfl
  · have HE : Hid (findF s.data.toList attr = ([], 0)) := by show _ = _; rw [findF, if_neg (by rw [hd]; intro e; injection e with e; exact h38 e)]
    have e1 : ((u.toNat : Int) != 38) = true := by
      simp only [bne_iff_ne, ne_eq]
      intro e; apply h38
      apply UInt8.toNat_inj.1
      have : (38 : UInt8).toNat = 38 := rfl
      omega
    clear h HG hd hu hlen h38
    go_enter Tryz.func151, Tryz.ntmps151
    go_wp2
    refine bodyPost_ret (results_tmp2 rfl _ _ _) rfl ⟨?_, Below.refl _ _⟩
    rw [HE.out]
    rfl
/-- No reference by number. -/
def NoNum (l : List UInt8) : Prop := ∀ a : Nat, l[a]? = some 38 → l[a + 1]? ≠ some 35
theorem NoNum.drop {l : List UInt8} (h : NoNum l) (n : Nat) : NoNum (l.drop n) := fun a => by
  rw [List.getElem?_drop, List.getElem?_drop]
  exact h (n + a)
theorem strCells_eq (l : List UInt8) : Lib.strCells ⟨l.toArray⟩ = Lib.byteCells l := by simp [Lib.strCells, Lib.byteCells]
theorem BldAt.below {B b : Nat} {p v : Value} {xs : List Value} {W W' : World} (h : BldAt B b p v xs W) (hb : Below W.heap.size W W') : BldAt B b p v xs W' :=
  h.keep fun g cs t fz hg => hb.block g (Array.getElem?_eq_some_iff.1 hg).1
theorem Bld.below {B b : Nat} {xs : List Value} {W W' : World} (h : Bld B b xs W) (hb : Below W.heap.size W W') : Bld B b xs W' := by
  obtain ⟨p, v, hp, h⟩ := h
  exact ⟨p, v, hp, h.below hb⟩
set_option maxRecDepth 100000 in
set_option maxHeartbeats 4000000 in
theorem eread_calls (s : ByteArray) (attr : Bool) (hh : NoNum s.data.toList) (ha : attr = true → ∀ b ∈ s.data.toList, b ≠ 38) (hs : s.size ≤ 1099511627776) (w : World) :
    Calls Tryz.prog 110 #[.string s, .bool attr] w fun e w' => e = .returned (.string ⟨(readF attr s.size s.data.toList).toArray⟩) ∧ Below w.heap.size w w' := by
  obtain ⟨TOT, hT⟩ : ∃ TOT, TOT = readF attr s.size s.data.toList := ⟨_, rfl⟩
  rw [← hT]
  have HT := Lib.hid hT
  have HH := Lib.hid hh
  have HA := Lib.hid ha
  clear hT hh ha
  go_enter Tryz.func110, Tryz.ntmps110
  go_wp2
  obtain ⟨W0, hW0⟩ : ∃ W0, W0 = w.alloc (.cells #[.pointer none, .slice none 0 0] 65) := ⟨_, rfl⟩
  obtain ⟨b, hb⟩ : ∃ b, b = w.heap.size := ⟨_, rfl⟩
  have hB0 : Below b w W0 := by rw [hW0, hb]; exact (Below.refl _ w).alloc (Nat.le_refl _) _
  have hsz : W0.heap.size = b + 1 := by rw [hW0, hb]; simp
  have k0 : Blk W0 b 65 #[.pointer none, .slice none 0 0] := by rw [hW0, hb]; exact Blk.new w _ _
  rw [← hW0, ← hb]
  have HB9 := Lib.hid hb
  have HB0 := Lib.hid hB0
  have HT9 : Hid (b ≤ w.heap.size) := by show _ ≤ _; omega
  clear hb hW0 hB0
  go_loopw [0] (fun sv wr => ∃ (r : ByteArray) (k : Nat) (out : List UInt8), sv = .string r ∧ r.size ≤ k ∧ k ≤ s.size ∧ Hid (NoNum r.data.toList) ∧ Hid (attr = true → ∀ b ∈ r.data.toList, b ≠ 38) ∧ Hid (out ++ readF attr k r.data.toList = TOT) ∧ Hid (out.length + 4 * r.size ≤ 4 * s.size) ∧ Hid (Below b w wr) ∧ Hid (Bld b b (Lib.byteCells out) wr) ∧ b < wr.heap.size) (fun sv _ => match sv with | .string r => r.size | _ => 0)
  case atStart => exact ⟨s, s.size, [], rfl, Nat.le_refl _, Nat.le_refl _, HH.out, HA.out, by show _ = _; rw [HT.out]; rfl, by show _ ≤ _; simp, HB0.out, ⟨_, _, .inl rfl, Nat.le_refl _, k0, World.ownsRow_nil _ _ _ _⟩, by omega⟩
  case round =>
    obtain ⟨r, k, out, rfl, hrk, hks, HN, HAr, HP, HLen, HBl, HBd, hbw⟩ := hrel
    by_cases h0 : 0 < r.size
    · obtain ⟨k, rfl⟩ : ∃ j, k = j + 1 := ⟨k - 1, by omega⟩
      have hlen : r.data.toList.length = r.size := by simp
      have e0 : r.toList.isEmpty = false := by rw [isEmpty_size]; exact beq_eq_false_iff_ne.2 (by omega)
      obtain ⟨c, l, hl⟩ : ∃ c l, r.data.toList = c :: l := by
        cases q : r.data.toList with
        | nil => rw [q] at hlen; simp at hlen; omega
        | cons c l => exact ⟨c, l, rfl⟩
      have hat : r.data.toList.head? = some 38 → attr = false ∧ r.data.toList[1]? ≠ some 35 := fun h => by
        refine ⟨?_, HN.out 0 (by rw [← List.head?_eq_getElem?]; exact h)⟩
        cases attr
        · rfl
        · exact absurd (by rw [hl] at h; injection h) (HAr.out rfl c (by rw [hl]; simp))
      obtain ⟨hi1, hi2⟩ := findF_inv r.data.toList attr (fun h => (hat h).1)
      have hrs : r.size ≤ 1099511627776 := by omega
      have HF := Lib.hid (find_callsE r attr hat h0 hrs)
      obtain ⟨tx, N, hF⟩ : ∃ tx N, findF r.data.toList attr = (tx, N) := ⟨_, _, rfl⟩
      rw [hF] at HF hi1 hi2
      have hi1 : tx.length ≤ 4 := hi1
      have hi2 : N ≤ r.data.toList.length := hi2
      rw [hlen] at hi2
      have HS : Hid (readF attr (k + 1) r.data.toList = if N = 0 then c :: readF attr k l else tx ++ readF attr k (r.data.toList.drop N)) := by show _ = _; rw [hl, readF_cons, ← hl, hF]
      have HL := Lib.hid hl
      have HE : Hid (∀ n : Nat, n ≤ r.size → (r.extract n r.size).data.toList = r.data.toList.drop n) := fun n hn => by
        simp
        rw [List.take_of_length_le (by simp)]
      have h1r : 1 ≤ r.size := h0
      have h2 : (1 : Int) ≤ (r.size : Int) := by omega
      have h3 : (N : Int) ≤ (r.size : Int) := by omega
      have h4 : r.size ≤ 9223372036854775807 := by omega
      have HO : Hid (out.length ≤ 4398046511104) := by show _ ≤ _; have := HLen.out; omega
      clear hat hF hl hlen
      by_cases hN : N = 0
      · subst hN
        have HC : Hid (r.extract 0 1 = ⟨#[c]⟩) := by
          show _ = _
          have h5 : (r.extract 0 1).data.toList = [c] := by simp; rw [HL.out]; rfl
          apply ByteArray.ext
          apply Array.ext'
          exact h5
        go_wp2_with (first
          | (go_at_call 151; refine (HF.out _).mono ?_; rintro e w1 ⟨rfl, hb1⟩; (have HB1 := Lib.hid hb1); (obtain ⟨p, v, hp, hbd⟩ := HBd.out.below hb1); (have HW := Lib.hid (fun (t : ByteArray) (ht : t.size ≤ 4) => writeString_calls b b p v _ t w1 hp hbd (by rw [Lib.byteCells_length]; have := HO.out; omega) (by have := hb1.size; have := HT9.out; omega))); clear hp hbd hb1)
          | (go_at_call 47; refine (HW.out _ (by rw [HC.out]; show (1 : Nat) ≤ 4; omega)).mono ?_; rintro e w2 ⟨⟨v0, rfl⟩, hw⟩))
        have HX : Hid (Lib.strCells (r.extract 0 1) = Lib.byteCells [c]) := by show _ = _; rw [HC.out]; exact strCells_eq [c]
        go_roundw
        case rel =>
          refine ⟨r.extract 1 r.size, k, out ++ [c], rfl, by simp; omega, by omega, ?_, ?_, ?_, ?_, ?_, ?_, ?_⟩
          · show NoNum _; rw [HE.out 1 h1r]; exact HN.out.drop 1
          · intro ha b hb; rw [HE.out 1 h1r] at hb; exact HAr.out ha b (List.mem_of_mem_drop hb)
          · show _ = _
            rw [HE.out 1 h1r, ← HP.out, HS.out, HL.out]; simp
          · show _ ≤ _; have := HLen.out; simp; omega
          · exact (HBl.out.trans (HB1.out.mono (by omega))).trans hw.2.1
          · obtain ⟨⟨v', h'⟩, _⟩ := hw
            rw [HX.out, ← Lib.byteCells_append] at h'
            exact ⟨_, v', .inr rfl, h'⟩
          · have h6 := HB1.out.size; have h7 := hw.2.1.size; omega
        case measure => simp; omega
      · have HX : Hid (Lib.strCells ⟨tx.toArray⟩ = Lib.byteCells tx) := strCells_eq tx
        have hNi : ((N : Int) == 0) = false := by simp; omega
        go_wp2_with (first
          | (go_at_call 151; refine (HF.out _).mono ?_; rintro e w1 ⟨rfl, hb1⟩; (have HB1 := Lib.hid hb1); (obtain ⟨p, v, hp, hbd⟩ := HBd.out.below hb1); (have HW := Lib.hid (fun (t : ByteArray) (ht : t.size ≤ 4) => writeString_calls b b p v _ t w1 hp hbd (by rw [Lib.byteCells_length]; have := HO.out; omega) (by have := hb1.size; have := HT9.out; omega))); clear hp hbd hb1)
          | (go_at_call 47; refine (HW.out _ (by show tx.length ≤ 4; omega)).mono ?_; rintro e w2 ⟨⟨v0, rfl⟩, hw⟩))
        have hNr : N ≤ r.size := hi2
        go_roundw
        case rel =>
          refine ⟨r.extract N r.size, k, out ++ tx, rfl, by simp; omega, by omega, ?_, ?_, ?_, ?_, ?_, ?_, ?_⟩
          · show NoNum _; rw [HE.out N hNr]; exact HN.out.drop N
          · intro ha b hb; rw [HE.out N hNr] at hb; exact HAr.out ha b (List.mem_of_mem_drop hb)
          · show _ = _
            rw [HE.out N hNr, ← HP.out, HS.out, if_neg hN]; simp
          · show _ ≤ _; have := HLen.out; simp; omega
          · exact (HBl.out.trans (HB1.out.mono (by omega))).trans hw.2.1
          · obtain ⟨⟨v', h'⟩, _⟩ := hw
            rw [HX.out, ← Lib.byteCells_append] at h'
            exact ⟨_, v', .inr rfl, h'⟩
          · have h6 := HB1.out.size; have h7 := hw.2.1.size; omega
        case measure => simp; omega
    · have e0 : r.toList.isEmpty = true := by rw [isEmpty_size]; exact beq_iff_eq.2 (by omega)
      have hlen : r.data.toList.length = r.size := by simp
      have hr : r.data.toList = [] := List.eq_nil_of_length_eq_zero (by omega)
      have HO : Hid (out = TOT) := by show _ = _; rw [← HP.out, hr]; cases k <;> simp [readF]
      have HS := Lib.hid (Tryz.Builder_String_any_k b b _ wr HBd.out.is (by omega))
      clear hlen hr
      go_wp2_with (go_at_call 26; refine HS.out.mono ?_; rintro e w1 ⟨rfl, _, hb1, _⟩)
      go_ret
      rw [HO.out, ← HB9.out]
      exact ⟨rfl, HBl.out.trans hb1⟩
set_option maxRecDepth 100000 in
set_option maxHeartbeats 1000000 in
theorem etext_calls (s : ByteArray) (hh : NoNum s.data.toList) (hs : s.size ≤ 1099511627776) (w : World) :
    Calls Tryz.prog 79 #[.string s] w fun e w' => e = .returned (.string ⟨(readF false s.size s.data.toList).toArray⟩) ∧ Below w.heap.size w w' := by
  have H := Lib.hid (eread_calls s false hh (fun h => by cases h) hs)
  go_enter Tryz.func79, Tryz.ntmps79
  go_wp2_with (go_at_call 110; refine (H.out _).mono ?_; rintro e w1 ⟨rfl, hb⟩)
  go_ret
  exact ⟨rfl, hb⟩
end Go.Proofs.YtcghahfboccceaaGreatDoor
