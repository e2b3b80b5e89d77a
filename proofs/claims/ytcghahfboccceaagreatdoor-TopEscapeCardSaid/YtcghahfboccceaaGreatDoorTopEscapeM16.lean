/- Several texts in one: TeF, TeG, TeJ. -/
import Derived.Test.YtcghahfboccceaaGreatDoorTopEscapeM15
import Derived.Test.YtcghahfboccceaaGreatDoorTopEscapeM4
import Derived.Great.BuildSlice
import Derived.Test.YtcghahfboccceaaGreatDoorTopEscapeM10
/- Contracts of chars.write, chars.Encode (one sign), entity.sign, entity.semicolon. -/
namespace Go.Proofs.YtcghahfboccceaaGreatDoor
open Go.RowKit Go.Shelf
set_option linter.unusedVariables false
set_option linter.unusedSimpArgs false

set_option maxRecDepth 100000 in
set_option maxHeartbeats 4000000 in
theorem write_calls (B b : Nat) (p v : Value) (xs : List Value) (r : Int) (hr0 : -2147483648 ≤ r) (hr1 : r ≤ 2147483647) (hv : Lib.validRune r = true) (w : World) (hp : p = .pointer none ∨ p = .pointer (some ⟨b, 0, none⟩)) (h : BldAt B b p v xs w) (hlen : xs.length + 4 ≤ 140737488355328) (hB : B ≤ w.heap.size) :
    Calls Tryz.prog 259 #[.pointer (some ⟨b, 0, none⟩), .int .i32 r] w fun e w' => e = .returned (.tuple #[]) ∧ Wrote B b (xs ++ Lib.runeCells r) w w' := by
  have H := Lib.hid (writeRune_calls B b p v xs r hr0 hr1 w hp h hlen hB)
  have HV := Lib.hid hv
  clear hp h hv
  go_enter Tryz.func259, Tryz.ntmps259
  go_wp2_with (first
    | (go_at_call 201; refine (Tryz.utf8_ValidRune r _).mono ?_; rw [HV.out]; rintro e w1 ⟨rfl, rfl⟩)
    | (go_at_call 29; refine H.out.mono ?_; rintro e w1 ⟨⟨v0, rfl⟩, hw⟩))
  go_end0
  exact ⟨rfl, hw⟩
set_option maxRecDepth 100000 in
set_option maxHeartbeats 4000000 in
theorem encode_one (g : Nat) (r : Int) (hr0 : -2147483648 ≤ r) (hr1 : r ≤ 2147483647) (hv : Lib.validRune r = true) (w : World) (hc : w.cell? ⟨g, 0, none⟩ = some (.int .i32 r)) (hg : g < w.heap.size) :
    Calls Tryz.prog 249 #[.slice (some ⟨g, 0, none⟩) 1 1] w fun e w' => e = .returned (.string ⟨(Lib.encodeRune r).toArray⟩) ∧ Below w.heap.size w w' := by
  have HV := Lib.hid hv
  clear hv
  go_enter Tryz.func249, Tryz.ntmps249
  go_wp2
  obtain ⟨W0, hW0⟩ : ∃ W0, W0 = w.alloc (.cells #[.pointer none, .slice none 0 0] 65) := ⟨_, rfl⟩
  obtain ⟨b, hb⟩ : ∃ b, b = w.heap.size := ⟨_, rfl⟩
  have hB0 : Below b w W0 := by rw [hW0, hb]; exact (Below.refl _ w).alloc (Nat.le_refl _) _
  have hsz : W0.heap.size = b + 1 := by rw [hW0, hb]; simp
  have k0 : Blk W0 b 65 #[.pointer none, .slice none 0 0] := by rw [hW0, hb]; exact Blk.new w _ _
  rw [← hW0, ← hb]
  rw [← hb] at hg
  have HB9 := Lib.hid hb
  have HB0 := Lib.hid hB0
  clear hb hW0 hB0
  go_loopw [8] (fun i wr => ∃ k : Nat, i = .int .i64 (k : Int) ∧ k ≤ 1 ∧ Below b w wr ∧ Bld b b (Lib.byteCells (if k = 0 then [] else Lib.encodeRune r)) wr) (fun i _ => 1 - (intOf i).toNat)
  case atStart => exact ⟨0, rfl, by omega, HB0.out, _, _, .inl rfl, Nat.le_refl _, k0, World.ownsRow_nil _ _ _ _⟩
  case round =>
    obtain ⟨k, rfl, hk, hbl, p, v, hp, hbd⟩ := hrel
    have hbw : b ≤ wr.heap.size := by have := hbl.size; have := HB9.out; omega
    by_cases h0 : k = 0
    · subst h0
      have hbd : BldAt b b p v [] wr := hbd
      have HW := Lib.hid (write_calls b b p v [] r hr0 hr1 HV.out wr hp hbd (by simp) hbw)
      have hcr : wr.cell? ⟨g, 0, none⟩ = some (.int .i32 r) := (hbl.cell (p := ⟨g, 0, none⟩) hg).trans hc
      have HBL := Lib.hid hbl
      clear hp hbd
      go_wp2_with (go_at_call 259; refine HW.out.mono ?_; rintro e w1 ⟨rfl, hw⟩)
      go_roundw
      case rel => exact ⟨1, by go_num, by omega, HBL.out.trans hw.2.1, by obtain ⟨⟨v', h'⟩, _⟩ := hw; refine ⟨_, v', .inr rfl, ?_⟩; rw [if_neg (by decide), Lib.byteCells_encodeRune]; exact h'⟩
      case measure => simp [intOf]
    · obtain rfl : k = 1 := by omega
      have hbd : Bld b b (Lib.byteCells (Lib.encodeRune r)) wr := ⟨p, v, hp, hbd⟩
      have HS := Lib.hid (Tryz.Builder_String_any_k b b _ wr hbd.is hbw)
      have HBL := Lib.hid hbl
      clear hp hbd
      go_wp2_with (go_at_call 26; refine HS.out.mono ?_; rintro e w1 ⟨rfl, _, h1, _⟩)
      go_ret
      rw [← HB9.out]
      exact ⟨rfl, HBL.out.trans h1⟩
/-- A sign of the table. -/
def signOk (n : Int) : Bool := decide (14 ≤ n) && decide (n ≤ 1114111) && Lib.validRune n
set_option maxRecDepth 100000 in
set_option maxHeartbeats 4000000 in
theorem sign_calls (n : Int) (hn : signOk n = true) (w : World) :
    Calls Tryz.prog 229 #[.int .i64 n] w fun e w' => e = .returned (.string ⟨(signF n).toArray⟩) ∧ Below w.heap.size w w' := by
  simp only [signOk, Bool.and_eq_true, decide_eq_true_eq] at hn
  obtain ⟨⟨h1, h2⟩, h3⟩ := hn
  have HV := Lib.hid h3
  clear h3
  have e1 : (n == 0) = false := by simp; omega
  have e2 : (n == 13) = false := by simp; omega
  have e3 : signF n = Lib.encodeRune n := by rw [signF, if_neg (by omega)]
  have HS := Lib.hid e3
  clear e3
  go_enter Tryz.func229, Tryz.ntmps229
  go_wp2_with (go_at_call 249; refine (encode_one _ n (by omega) (by omega) HV.out _ (by first | exact (Blk.new w _ _).cell 0) (by simp)).mono ?_; rintro e w1 ⟨rfl, hb⟩)
  go_ret
  rw [HS.out]
  exact ⟨rfl, below_then ((Below.refl _ w).alloc (Nat.le_refl _) _) hb⟩
set_option maxRecDepth 100000 in
set_option maxHeartbeats 4000000 in
theorem semicolon_calls (s : ByteArray) (n : Nat) (hn : n ≤ 1000000) (hs : s.size ≤ 1099511627776) (w : World) :
    Calls Tryz.prog 230 #[.string s, .int .i64 (n : Int)] w fun e w' => e = .returned (.int .i64 (semiF s.data.toList n : Nat)) ∧ w' = w := by
  have HE : Hid (∀ (h : n < s.size), s.data.toList[n]? = some s[n]) := fun h => by rw [List.getElem?_eq_getElem (by simpa using h)]; rfl
  by_cases h : n < s.size
  · by_cases h2 : s[n] = 59
    · have e1 : (((s[n].toNat : Int)) == 59) = true := by rw [h2]; rfl
      have HR : Hid ((semiF s.data.toList n : Nat) = (n : Int) + 1) := by show _ = _; rw [semiF, HE.out h, h2, if_pos rfl]; omega
      have H2 := Lib.hid h2
      clear h2
      go_enter Tryz.func230, Tryz.ntmps230
      go_wp2
      go_ret
      rw [HR.out]
      exact ⟨rfl, rfl⟩
    · have e1 : (((s[n].toNat : Int)) == 59) = false := by
        simp only [beq_eq_false_iff_ne, ne_eq]
        intro e; exact h2 (UInt8.toNat_inj.1 (by have : (59 : UInt8).toNat = 59 := rfl; omega))
      have HR : Hid ((semiF s.data.toList n : Nat) = (n : Int)) := by show _ = _; rw [semiF, HE.out h, if_neg (fun e => h2 (by injection e))]
      clear h2
      go_enter Tryz.func230, Tryz.ntmps230
      go_wp2
      go_ret
      rw [HR.out]
      exact ⟨rfl, rfl⟩
  · have HR : Hid ((semiF s.data.toList n : Nat) = (n : Int)) := by show _ = _; rw [semiF, List.getElem?_eq_none (by simp; omega), if_neg (by simp)]
    go_enter Tryz.func230, Tryz.ntmps230
    go_wp2
    go_ret
    rw [HR.out]
    exact ⟨rfl, rfl⟩
end Go.Proofs.YtcghahfboccceaaGreatDoor
/- Contracts of entity.names, entity.named (in texts, not in values). -/
namespace Go.Proofs.YtcghahfboccceaaGreatDoor
open Go.RowKit Go.Shelf
set_option linter.unusedVariables false
set_option linter.unusedSimpArgs false

def nameC (x : List UInt8 × Int × Bool) : List Value := [.string ⟨x.1.toArray⟩, .int .i32 x.2.1, .bool x.2.2]
theorem nameC_at : ∀ (l : List (List UInt8 × Int × Bool)) (k j : Nat) (h : k < l.length), j < 3 → (l.flatMap nameC)[k * 3 + j]? = (nameC l[k])[j]?
  | [], _, _, h, _ => by simp at h
  | x :: l, 0, j, _, hj => by
    rw [List.flatMap_cons, List.getElem?_append_left (by show _ < 3; omega)]
    simp
  | x :: l, k + 1, j, h, hj => by
    rw [List.flatMap_cons, List.getElem?_append_right (by show 3 ≤ _; omega)]
    have : (k + 1) * 3 + j - (nameC x).length = k * 3 + j := by show (k + 1) * 3 + j - 3 = _; omega
    rw [this]
    exact nameC_at l k j (by simpa using h) hj
theorem infoName : (Tryz.prog.info? 208).map (fun i => (i.zero, i.size)) = some (some (.agg #[.string ⟨#[]⟩, .int .i32 0, .bool false]), 3) := by kernel_rfl
set_option maxRecDepth 100000 in
set_option maxHeartbeats 8000000 in
theorem names_calls (w : World) :
    Calls Tryz.prog 231 #[] w fun e w' => e = .returned (.slice (some ⟨w.heap.size, 0, none⟩) 48 48) ∧ w' = w.alloc (.cells (namesT.flatMap nameC).toArray 208) := by
  obtain ⟨ie, hie, hz, hsz⟩ : ∃ ie, Tryz.prog.info? 208 = some ie ∧ ie.zero = some (.agg #[.string ⟨#[]⟩, .int .i32 0, .bool false]) ∧ ie.size = 3 := by
    have h := infoName
    rw [Option.map_eq_some_iff] at h
    obtain ⟨ie, h1, h2⟩ := h
    injection h2 with h2 h3
    exact ⟨ie, h1, h2, h3⟩
  have HI := Lib.hid hie
  have HZ := Lib.hid hz
  have HS := Lib.hid hsz
  clear hie hz hsz
  go_enter Tryz.func231, Tryz.ntmps231
  go_wp2_with (refine wpList_buildSlice rfl 205 208 48 _ rfl (namesT.flatMap nameC).toArray ie _ rfl HI.out HZ.out (by rw [HS.out]; decide) (by rw [HS.out]; decide) (by rw [HS.out]; kernel_rfl) ?_)
  go_ret
  exact ⟨rfl, rfl⟩
end Go.Proofs.YtcghahfboccceaaGreatDoor
/- Contract of entity.named, in texts. -/
namespace Go.Proofs.YtcghahfboccceaaGreatDoor
open Go.RowKit Go.Shelf
set_option linter.unusedVariables false
set_option linter.unusedSimpArgs false

def namedK (L : List UInt8) (k : Nat) : List UInt8 × Nat := (namesT.take k).foldl (namedR L) ([], 0)
theorem namedK_step (L : List UInt8) {k : Nat} (h : k < 48) (h' : k < namesT.length) : namedK L (k + 1) = namedR L (namedK L k) namesT[k] := by
  unfold namedK
  rw [List.take_add_one, List.getElem?_eq_getElem h', List.foldl_append]
  rfl
theorem namedK_all (L : List UInt8) : namedK L 48 = namedF L false := rfl
theorem names_ok : ∀ k (h : k < 48) (h' : k < namesT.length), signOk namesT[k].2.1 = true ∧ namesT[k].1.length ≤ 10 ∧ 1 ≤ namesT[k].1.length := by decide +kernel
theorem semiF_le (l : List UInt8) (n : Nat) : n ≤ semiF l n ∧ semiF l n ≤ n + 1 := by unfold semiF; split <;> omega
set_option maxRecDepth 100000 in
set_option maxHeartbeats 8000000 in
theorem enamed_calls (s : ByteArray) (h1 : 1 ≤ s.size) (hs : s.size ≤ 1099511627776) (w : World) :
    Calls Tryz.prog 197 #[.string s, .bool false] w fun e w' => e = .returned (.tuple #[.string ⟨(namedF s.data.toList false).1.toArray⟩, .int .i64 ((namedF s.data.toList false).2 : Nat)]) ∧ Below w.heap.size w w' := by
  obtain ⟨L, hL⟩ : ∃ L, L = s.data.toList := ⟨_, rfl⟩
  have HL := Lib.hid hL
  have HX : Hid ((s.extract 1 s.size).data.toList = L.drop 1) := by
    show _ = _
    rw [hL]
    simp
    rw [List.take_of_length_le (by simp)]
  rw [← hL]
  clear hL
  have h2 : (1 : Int) ≤ (s.size : Int) := by omega
  have h3 : ¬ ((s.size : Int) < 1) := by omega
  go_enter Tryz.func197, Tryz.ntmps197
  go_wp2_with (go_at_call 231; refine (names_calls _).mono ?_; rintro e w1 ⟨rfl, rfl⟩)
  obtain ⟨W0, hW0⟩ : ∃ W0, W0 = w.alloc (.cells (namesT.flatMap nameC).toArray 208) := ⟨_, rfl⟩
  obtain ⟨g, hg⟩ : ∃ g, g = w.heap.size := ⟨_, rfl⟩
  have hB0 : Below g w W0 := by rw [hW0, hg]; exact (Below.refl _ w).alloc (Nat.le_refl _) _
  have hsz : g < W0.heap.size := by rw [hW0, hg]; simp
  have k0 : Blk W0 g 208 (namesT.flatMap nameC).toArray := by rw [hW0, hg]; exact Blk.new w _ _
  rw [← hW0, ← hg]
  have HG := Lib.hid hg
  have HB0 := Lib.hid hB0
  clear hg hW0 hB0
  go_loopw [6, 7, 14] (fun t m i wr => ∃ (k T : Nat) (tx : List UInt8), k ≤ 48 ∧ i = .int .i64 (k : Int) ∧ t = .string ⟨tx.toArray⟩ ∧ m = .int .i64 (T : Int) ∧ Hid (namedK L k = (tx, T)) ∧ Hid (Blk wr g 208 (namesT.flatMap nameC).toArray) ∧ Hid (Below g w wr) ∧ g < wr.heap.size) (fun _ _ i _ => 48 - (intOf i).toNat)
  case atStart => exact ⟨0, 0, [], by omega, rfl, rfl, rfl, rfl, k0, HB0.out, hsz⟩
  case round =>
    obtain ⟨k, T, tx, hk, rfl, rfl, rfl, HK, HB, HW, hgw⟩ := hrel
    by_cases hlt : k < 48
    · have hlt' : k < namesT.length := hlt
      have hok := names_ok k hlt hlt'
      obtain ⟨x, hx⟩ : ∃ x, x = namesT[k] := ⟨_, rfl⟩
      have hcell : ∀ j u, j < 3 → (nameC x)[j]? = some u → wr.cell? ⟨g, k * 3 + j, none⟩ = some u := fun j u hj hu => by
        have := HB.out.cell (k * 3 + j)
        rw [this, List.getElem?_toArray, nameC_at _ _ _ hlt' hj, ← hx]
        exact hu
      have HST : Hid (namedK L (k + 1) = namedR L (tx, T) x) := by show _ = _; rw [namedK_step L hlt hlt', HK.out, hx]
      rw [← hx] at hok
      obtain ⟨hok, hl10, hl1⟩ := hok
      obtain ⟨wd0, sg, ba⟩ := x
      have HOK := Lib.hid hok
      obtain ⟨wd, hwd⟩ : ∃ wd : ByteArray, wd = ⟨wd0.toArray⟩ := ⟨_, rfl⟩
      have hws : wd.size = wd0.length := by rw [hwd]; rfl
      have hwl : wd.data.toList = wd0 := by rw [hwd]
      have c0 : wr.cell? ⟨g, k * 3, none⟩ = some (.string wd) := by rw [hwd]; exact hcell 0 _ (by decide) rfl
      have c1 : wr.cell? ⟨g, k * 3 + 1, none⟩ = some (.int .i32 sg) := hcell 1 _ (by decide) rfl
      have c2 : wr.cell? ⟨g, k * 3 + 2, none⟩ = some (.bool ba) := hcell 2 _ (by decide) rfl
      have hsg : 14 ≤ sg ∧ sg ≤ 1114111 := by simp only [signOk, Bool.and_eq_true, decide_eq_true_eq] at hok; exact ⟨hok.1.1, hok.1.2⟩
      obtain ⟨hsg0, hsg1⟩ := hsg
      have HWS := Lib.hid hws
      have HWL := Lib.hid hwl
      have hw10 : wd.size ≤ 10 := by have hl10 : wd0.length ≤ 10 := hl10; omega
      have HW1 : Hid (∀ (cs : Array Value) (n : Nat), Below g w ((wr.alloc (.cells cs 208)).drewN n)) := fun cs n => below_drewN (HW.out.alloc (by omega) _) n
      have HZ : Hid (∀ (cs : Array Value) (n : Nat), g < ((wr.alloc (.cells cs 208)).drewN n).heap.size) := fun cs n => by show g < (wr.alloc _).heap.size; simp; omega
      clear hx hok hwd hws hwl hcell hk
      cases hp : Lib.hasPrefix (L.drop 1) wd0
      · have HPC : Hid (∀ W, Calls Tryz.prog 72 #[.string (s.extract 1 s.size), .string wd] W fun e w' => e = .returned (.bool false) ∧ w' = W) := fun W => by
          have := Tryz.strings_HasPrefix (s.extract 1 s.size) wd W
          rw [HX.out, HWL.out, hp] at this
          exact this
        have HN : Hid (namedK L (k + 1) = (tx, T)) := by show _ = _; rw [HST.out, namedR]; exact if_pos hp
        clear hp
        go_wp2
        go_quiet (first | (go_at_call 72; refine Calls.quiet_of_same (HPC.out _)))
        go_wp2
        go_roundw
        case rel => exact ⟨k + 1, T, tx, by omega, by go_num, rfl, rfl, HN, HB.out.alloc _, HW1.out _ _, HZ.out _ _⟩
        case measure => simp [intOf]; omega
      · have HPC : Hid (∀ W, Calls Tryz.prog 72 #[.string (s.extract 1 s.size), .string wd] W fun e w' => e = .returned (.bool true) ∧ w' = W) := fun W => by
          have := Tryz.strings_HasPrefix (s.extract 1 s.size) wd W
          rw [HX.out, HWL.out, hp] at this
          exact this
        obtain ⟨N, hN⟩ : ∃ N, N = semiF L (wd0.length + 1) := ⟨_, rfl⟩
        have hNb : N ≤ wd.size + 2 := by rw [hN, HWS.out]; exact (semiF_le _ _).2
        have HSC : Hid (∀ W, Calls Tryz.prog 230 #[.string s, .int .i64 ((wd.size : Int) + 1)] W fun e w' => e = .returned (.int .i64 (N : Int)) ∧ w' = W) := fun W => by
          have := semicolon_calls s (wd.size + 1) (by omega) hs W
          rw [← HL.out, HWS.out, ← hN] at this
          rw [HWS.out]
          exact this
        have HR : Hid (namedK L (k + 1) = if N = wd.size + 1 ∧ ba = false ∨ N ≤ T then (tx, T) else (signF sg, N)) := by
          show _ = _
          rw [HST.out, namedR, HWS.out, hN]
          exact if_neg (by show ¬ Lib.hasPrefix (L.drop 1) wd0 = false; rw [hp]; decide)
        clear hp hN HST
        by_cases hA : N = wd.size + 1 ∧ ba = false
        · obtain ⟨hA1, rfl⟩ := hA
          have HN : Hid (namedK L (k + 1) = (tx, T)) := by show _ = _; rw [HR.out, if_pos (.inl ⟨hA1, rfl⟩)]
          have e1 : ((N : Int) == (wd.size : Int) + 1) = true := by simp; omega
          clear HR hA1
          go_wp2
          go_quiet (first | (go_at_call 72; refine Calls.quiet_of_same (HPC.out _)))
          go_wp2_with (go_at_call 230; refine (HSC.out _).mono ?_; rintro e w' ⟨rfl, rfl⟩)
          go_roundw
          case rel => exact ⟨k + 1, T, tx, by omega, by go_num, rfl, rfl, HN, HB.out.alloc _, HW1.out _ _, HZ.out _ _⟩
          case measure => simp [intOf]; omega
        by_cases hT : N ≤ T
        · have HN : Hid (namedK L (k + 1) = (tx, T)) := by show _ = _; rw [HR.out, if_pos (.inr hT)]
          by_cases hE : N = wd.size + 1
          · have e1 : ((N : Int) == (wd.size : Int) + 1) = true := by simp; omega
            obtain rfl : ba = true := by cases ba; exact absurd ⟨hE, rfl⟩ hA; rfl
            clear HR hE hA
            go_wp2
            go_quiet (first | (go_at_call 72; refine Calls.quiet_of_same (HPC.out _)))
            go_wp2_with (go_at_call 230; refine (HSC.out _).mono ?_; rintro e w' ⟨rfl, rfl⟩)
            go_roundw
            case rel => exact ⟨k + 1, T, tx, by omega, by go_num, rfl, rfl, HN, HB.out.alloc _, HW1.out _ _, HZ.out _ _⟩
            case measure => simp [intOf]; omega
          · have e1 : ((N : Int) == (wd.size : Int) + 1) = false := by simp; omega
            clear HR hE hA
            go_wp2
            go_quiet (first | (go_at_call 72; refine Calls.quiet_of_same (HPC.out _)))
            go_wp2_with (go_at_call 230; refine (HSC.out _).mono ?_; rintro e w' ⟨rfl, rfl⟩)
            go_roundw
            case rel => exact ⟨k + 1, T, tx, by omega, by go_num, rfl, rfl, HN, HB.out.alloc _, HW1.out _ _, HZ.out _ _⟩
            case measure => simp [intOf]; omega
        · have HN : Hid (namedK L (k + 1) = (signF sg, N)) := by show _ = _; rw [HR.out, if_neg (by rintro (h | h); exact hA h; exact hT h)]
          by_cases hE : N = wd.size + 1
          · have e1 : ((N : Int) == (wd.size : Int) + 1) = true := by simp; omega
            obtain rfl : ba = true := by cases ba; exact absurd ⟨hE, rfl⟩ hA; rfl
            clear HR hE hA
            go_wp2
            go_quiet (first | (go_at_call 72; refine Calls.quiet_of_same (HPC.out _)))
            go_wp2_with (first
              | (go_at_call 230; refine (HSC.out _).mono ?_; rintro e w' ⟨rfl, rfl⟩)
              | (go_at_call 229; refine (sign_calls sg HOK.out _).mono ?_; rintro e w2 ⟨rfl, hb2⟩))
            go_roundw
            case rel => exact ⟨k + 1, N, signF sg, by omega, by go_num, rfl, rfl, HN, ((HB.out.alloc _).drewN _).below hb2 (HZ.out _ _), (HW1.out _ _).trans (hb2.mono (Nat.le_of_lt (HZ.out _ _))), by have := hb2.size; have := HZ.out #[.string wd, .int .i32 sg, .bool true] nq; omega⟩
            case measure => simp [intOf]; omega
          · have e1 : ((N : Int) == (wd.size : Int) + 1) = false := by simp; omega
            clear HR hE hA
            go_wp2
            go_quiet (first | (go_at_call 72; refine Calls.quiet_of_same (HPC.out _)))
            go_wp2_with (first
              | (go_at_call 230; refine (HSC.out _).mono ?_; rintro e w' ⟨rfl, rfl⟩)
              | (go_at_call 229; refine (sign_calls sg HOK.out _).mono ?_; rintro e w2 ⟨rfl, hb2⟩))
            go_roundw
            case rel => exact ⟨k + 1, N, signF sg, by omega, by go_num, rfl, rfl, HN, ((HB.out.alloc _).drewN _).below hb2 (HZ.out _ _), (HW1.out _ _).trans (hb2.mono (Nat.le_of_lt (HZ.out _ _))), by have := hb2.size; have := HZ.out #[.string wd, .int .i32 sg, .bool ba] nq; omega⟩
            case measure => simp [intOf]; omega
    · obtain rfl : k = 48 := by omega
      have hR : namedF L false = (tx, T) := by rw [← namedK_all]; exact HK.out
      have HRR := Lib.hid hR
      clear hR
      go_wp2
      refine bodyPost_ret (results_tmp2 rfl _ _ _) rfl ⟨?_, ?_⟩
      · rw [HRR.out]
        rfl
      · rw [← HG.out]
        exact HW.out
end Go.Proofs.YtcghahfboccceaaGreatDoor
