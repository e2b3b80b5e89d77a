/- Contracts of breaks.isLetter, wide, may, All. -/
import Derived.Test.YtabbpdlnlibngaaBreaksPlain
import Derived.Test.YtabbpdlnlibngaaFix
import Derived.Test.YtabbpdlnlibngaaMem
import Derived.Lib.OthersKept
import Derived.OwnWalk
import Derived.Outline
namespace Go.Proofs.Ytabbpdlnlibngaa
open Go.RowKit
set_option linter.unusedVariables false
set_option linter.unusedSimpArgs false

theorem ret_b {a b : Bool} (h : a = b) : Ending.returned (.bool a) = .returned (.bool b) := by rw [h]
theorem letter_calls (r : Int) (w : World) :
    Calls Try.prog 62 #[.int .i32 r] w fun e w' => e = .returned (.bool (letterB r)) ∧ w = w' := by
  go_enter Try.func62, Try.ntmps62
  go_wp2
  all_goals (go_ret; exact ⟨ret_b (by unfold letterB; simp [*]; try omega), rfl⟩)
theorem other_calls (r : Int) (w : World) :
    Calls Try.prog 65 #[.int .i32 r] w fun e w' => e = .returned (.bool (otherB r)) ∧ w = w' := by
  go_enter Try.func65, Try.ntmps65
  go_wp2
  all_goals (go_ret; exact ⟨ret_b (by unfold otherB; simp_all), rfl⟩)
theorem wide_calls (a b : Int) (w : World) :
    Calls Try.prog 63 #[.int .i32 a, .int .i32 b] w fun e w' => e = .returned (.bool (wideB a b)) ∧ w = w' := by
  go_enter Try.func63, Try.ntmps63
  go_wp2_with (go_at_call 65; refine (other_calls _ _).mono ?_; rintro e w' ⟨rfl, rfl⟩)
  all_goals (go_ret; exact ⟨ret_b (by unfold wideB; by_cases p1 : 4352 ≤ a <;> by_cases p2 : 4352 ≤ b <;> simp_all <;> omega), rfl⟩)
theorem may_calls (a b : Int) (w : World) :
    Calls Try.prog 55 #[.int .i32 a, .int .i32 b] w fun e w' => e = .returned (.bool (mayB a b)) ∧ w = w' := by
  go_enter Try.func55, Try.ntmps55
  go_wp2_with (first | (go_at_call 62; refine (letter_calls _ _).mono ?_; rintro e w' ⟨rfl, rfl⟩) | (go_at_call 63; refine (wide_calls _ _ _).mono ?_; rintro e w' ⟨rfl, rfl⟩))
  all_goals (go_ret; exact ⟨ret_b (by unfold mayB; simp_all), rfl⟩)

/-- The cells of breaks. -/
def bcells (l : List (Nat × Bool)) : List Value := l.flatMap fun b => [.int .i64 (b.1 : Nat), .bool b.2]
theorem bcells_snoc (l : List (Nat × Bool)) (b : Nat × Bool) : bcells (l ++ [b]) = bcells l ++ [.int .i64 (b.1 : Nat), .bool b.2] := by simp [bcells]
theorem bcells_len (l : List (Nat × Bool)) : (bcells l).length = l.length * 2 := by
  induction l with
  | nil => rfl
  | cons x l ih => simp only [bcells, List.flatMap_cons, List.length_append, List.length_cons, List.length_nil] at *; omega
theorem info_brk : (Try.prog.info? 72).map (fun i => (i.zero, i.size, i.bytes)) = some (some (.agg #[.int .i64 0, .bool false]), 2, 16) := by kernel_rfl
theorem own_base {w : World} {base base' : Nat} {e : TypeId} {size n : Nat} {v : Value} {xs : List Value} (h : w.ownsRow base e size v n xs) (hb : base' ≤ base) : w.ownsRow base' e size v n xs := by
  refine ⟨h.1, ?_⟩
  rcases h.2 with h' | ⟨g, cap, cur, hv, h1, h2⟩
  · exact .inl h'
  · exact .inr ⟨g, cap, cur, hv, Nat.le_trans hb h1, h2⟩
theorem own_iter {w : World} {base : Nat} {e : TypeId} {size n : Nat} {v : Value} {xs : List Value} (h : w.ownsRow base e size v n xs) {k : Nat} (hk : k < base) (s : ByteArray) (pos : Nat) : (w.iterAt k s pos).ownsRow base e size v n xs := by
  refine ⟨h.1, ?_⟩
  rcases h.2 with h' | ⟨g, cap, cur, hv, h1, h2, h3⟩
  · exact .inl h'
  · exact .inr ⟨g, cap, cur, hv, h1, (Lib.iterAt_other w k g s pos (by omega)).trans h2, h3⟩
theorem grown_heap {w w1 : World} {e : TypeId} {base size n : Nat} {v : Value} {xs : List Value} (hown : w.ownsRow base e size v n xs) {o : Obj} (hg : (w.alloc o).grownBy w1 v.ownBlock) {k : Nat} (hk : k < base) (hk' : k < w.heap.size) : w1.heap[k]? = w.heap[k]? := by
  have h := hg.block k (by simp; omega) (fun e => by have := (hown.lt k e.symm).1; omega)
  rw [h]
  show (w.heap.push o)[k]? = _
  rw [Array.getElem?_push]
  rw [if_neg (by omega)]
theorem below_grownB {W wr wr' w1 : World} {e : TypeId} {base size n : Nat} {v : Value} {xs : List Value} (hbel : Below W.heap.size W wr') (hb : W.heap.size ≤ base) (hown : wr.ownsRow base e size v n xs) {o : Obj} (hg : (wr'.alloc o).grownBy w1 v.ownBlock) : Below W.heap.size W w1 :=
  (below_alloc hbel o).grown hg (by have := hbel.size; simp; omega) (fun k hk => Nat.le_trans hb (hown.lt k hk).1)
theorem heap_alloc_old (w : World) (o : Obj) {k : Nat} (hk : k < w.heap.size) : (w.alloc o).heap[k]? = w.heap[k]? := by
  show (w.heap.push o)[k]? = _
  rw [Array.getElem?_push, if_neg (by omega)]
set_option maxRecDepth 100000 in
set_option maxHeartbeats 4000000 in
theorem all_calls (s : ByteArray) (m : Int) (w : World) (hs : s.size ≤ 1048576) :
    Calls Try.prog 40 #[.string s, .int .i64 m] w fun e w' => ∃ v, e = .returned v ∧ w'.ownsRow w.heap.size 72 2 v (brks m s).length (bcells (brks m s)) ∧ Below w.heap.size w w' := by
  obtain ⟨i0, hi, hz0, hz1, hz2⟩ := info_parts info_brk
  have HT0 : Hid (0 < s.size → brks m s = brk2 m s.size ((Utf8.decode s 0).1 : Int) (signs s (0 + (Utf8.decode s 0).2))) := fun h => by unfold brks; rw [signs_at s 0 h]; rfl
  have HTE : Hid (¬ 0 < s.size → brks m s = []) := fun h => by unfold brks; rw [signs_end s 0 h]; rfl
  have HE : Hid (∀ a, brk2 m s.size a [] = if mustB m a then [(s.size, true)] else []) := fun a => rfl
  have HS : Hid (∀ a p r l, brk2 m s.size a ((p, r) :: l) = (if mustB m a || (wrapsB m && mayB a r) then [(p, mustB m a)] else []) ++ brk2 m s.size r l) := fun _ _ _ _ => rfl
  have hm : m = 0 ∨ m = 1 ∨ m = 3 ∨ ((m == 0) = false ∧ (m == 1) = false ∧ (m == 3) = false) := by
    simp; omega
  obtain ⟨T, hT⟩ : ∃ T, T = brks m s := ⟨_, rfl⟩
  obtain ⟨F, hF⟩ : ∃ F, F = brk2 m s.size := ⟨_, rfl⟩
  have hTl := brks_len m s
  rw [← hT] at HT0 HTE hTl ⊢
  rw [← hF] at HT0 HE HS
  clear hT hF
  rcases hm with rfl | rfl | rfl | ⟨m0, m1, m3⟩
  all_goals
    go_enter Try.func40, Try.ntmps40
    go_wp2_with fail
    go_loopw [7, 8] (fun v l wr => ∃ (pos : Nat) (a : Int) (ds : List (Nat × Bool)), l = .int .i32 a ∧ wr.heap[w.heap.size]? = some (.stringIter s pos) ∧ wr.ownsRow (w.heap.size + 1) 72 2 v ds.length (bcells ds) ∧ (pos = 0 → a = 0 ∧ ds = []) ∧ (0 < pos → ds ++ F a (signs s pos) = T) ∧ Below w.heap.size w wr) (fun _ _ wr => s.size - wr.iterPos w.heap.size)
    case atStart => exact ⟨0, 0, [], rfl, World.iter_heap _ _ _, World.ownsRow_nil _ _ _ _, fun _ => ⟨rfl, rfl⟩, fun h => absurd h (by omega), below_alloc (Below.refl _ _) _⟩
    case round =>
      obtain ⟨pos, a, ds, rfl, hit, hown, hp0, hp1, hbel⟩ := hrel
      have hw := hbel.size
      have hw1 : w.heap.size < wr.heap.size := (Array.getElem?_eq_some_iff.1 hit).1
      by_cases hlt : pos < s.size
      · have hadv := decode_adv s pos hlt
        have hnx : ∀ ty, (Instr.next (.pointer (some ⟨w.heap.size, 0, none⟩)) true ty).run Try.prog wr = _ := fun ty => Lib.run_next_any_at wr w.heap.size s pos ty hit hlt
        have hsg := signs_at s pos hlt
        have hit2 := Lib.iterAt_heap wr w.heap.size s pos (pos + (Utf8.decode s pos).2) hit
        have hown := own_iter hown (k := w.heap.size) (by omega) s (pos + (Utf8.decode s pos).2)
        have hbel := Lib.below_iterAt hbel (k := w.heap.size) (Nat.le_refl _) s (pos + (Utf8.decode s pos).2)
        have HZ : Hid (pos = 0 → ([] : List (Nat × Bool)) ++ F ((Utf8.decode s pos).1 : Int) (signs s (pos + (Utf8.decode s pos).2)) = T) := fun h => by subst h; exact (HT0.out hlt).symm
        obtain ⟨q, hq⟩ : ∃ q, q = pos + (Utf8.decode s pos).2 := ⟨_, rfl⟩
        obtain ⟨r, hr⟩ : ∃ r : Int, r = ((Utf8.decode s pos).1 : Int) := ⟨_, rfl⟩
        rw [← hq] at hnx hsg hit2 hown hbel HZ
        rw [← hr] at hnx hsg HZ
        have HSG := Lib.hid hsg
        have hpq : pos < q := by omega
        clear hsg hq hr hadv
        have hw2 : w.heap.size < (wr.iterAt w.heap.size s q).heap.size := (Array.getElem?_eq_some_iff.1 hit2).1
        have HIT := Lib.hid hit
        generalize hW2 : wr.iterAt w.heap.size s q = w2 at hnx hit2 hown hbel hw2
        clear hW2 hit
        by_cases h0 : pos = 0
        · subst h0
          obtain ⟨rfl, rfl⟩ := hp0 rfl
          have HP := Lib.hid (HZ.out rfl)
          have HI2 := Lib.hid hit2
          clear hp0 hp1 hit2
          go_wp2_with fail
          go_roundw
          case rel => exact ⟨q, r, [], rfl, HI2.out, hown, fun e => by omega, fun _ => HP.out, hbel⟩
          case measure => simp [World.iterPos, HIT.out, HI2.out]; omega
        · have HT1 := Lib.hid (hp1 (by omega))
          have hpp : 0 < pos := by omega
          have hds : ds.length ≤ 1048576 := by have := congrArg List.length HT1.out; simp at this; omega
          obtain ⟨y, hy⟩ : ∃ y, y = mayB a r := ⟨_, rfl⟩
          have HC := Lib.hid (fun w => by have h := may_calls a r w; rw [← hy] at h; exact h)
          have HST := Lib.hid (HS.out a pos r (signs s q))
          rw [← HSG.out, ← hy] at HST
          have HI2 := Lib.hid hit2
          clear hy hp0 hp1 h0 hit2
          by_cases ha : a = 10
          · subst ha
            cases y
            all_goals
              go_wp2_with (first | (go_at_call 55; refine (HC.out _).mono ?_; rintro e w' ⟨rfl, rfl⟩) | (at_builtin; refine wpList_append_own _ rfl _ _ 69 rfl (w.heap.size + 1) 72 i0 (.agg #[.int .i64 0, .bool false]) 2 16 Try.underlying69 hi hz0 hz1 hz2 rfl (by decide) _ _ _ rfl (hown.alloc _) ⟨w2.heap.size, 0, none⟩ 1 1 [.int .i64 pos, .bool true] rfl rfl (cell_two_new _ _ _ _) (fun u hu => by simp at hu; rcases hu with rfl | rfl <;> rfl) (by unfold maxLen; omega) (by omega) (by simp; omega) ?_; intro v' w1 hown1 hg _) | (at_builtin; refine wpList_append_own _ rfl _ _ 69 rfl (w.heap.size + 1) 72 i0 (.agg #[.int .i64 0, .bool false]) 2 16 Try.underlying69 hi hz0 hz1 hz2 rfl (by decide) _ _ _ rfl (hown.alloc _) ⟨w2.heap.size, 0, none⟩ 1 1 [.int .i64 pos, .bool false] rfl rfl (cell_two_new _ _ _ _) (fun u hu => by simp at hu; rcases hu with rfl | rfl <;> rfl) (by unfold maxLen; omega) (by omega) (by simp; omega) ?_; intro v' w1 hown1 hg _))
              first
              | (have hb1 := below_grownB hbel (Nat.le_succ _) hown hg
                 have hi1 := grown_heap hown hg (k := w.heap.size) (by omega) hw2
                 go_roundw
                 case rel => exact ⟨q, r, ds ++ [(pos, _)], rfl, hi1.trans HI2.out, by rw [bcells_snoc, List.length_append]; exact hown1, fun e => by omega, fun _ => by rw [List.append_assoc]; refine Eq.trans ?_ HT1.out; rw [HST.out]; first | (simp [mustB, wrapsB]; done) | (simp [mustB, wrapsB, m0, m1, m3]; done), hb1⟩
                 case measure => simp [World.iterPos, HIT.out, hi1.trans HI2.out]; omega)
              | (go_roundw
                 case rel => exact ⟨q, r, ds, rfl, HI2.out, hown, fun e => by omega, fun _ => by refine Eq.trans ?_ HT1.out; rw [HST.out]; first | (simp [mustB, wrapsB]; done) | (simp [mustB, wrapsB, m0, m1, m3]; done), hbel⟩
                 case measure => simp [World.iterPos, HIT.out, HI2.out]; omega)
          · have e10 : (a == 10) = false := by simpa using ha
            cases y
            all_goals
              go_wp2_with (first | (go_at_call 55; refine (HC.out _).mono ?_; rintro e w' ⟨rfl, rfl⟩) | (at_builtin; refine wpList_append_own _ rfl _ _ 69 rfl (w.heap.size + 1) 72 i0 (.agg #[.int .i64 0, .bool false]) 2 16 Try.underlying69 hi hz0 hz1 hz2 rfl (by decide) _ _ _ rfl (hown.alloc _) ⟨w2.heap.size, 0, none⟩ 1 1 [.int .i64 pos, .bool false] rfl rfl (cell_two_new _ _ _ _) (fun u hu => by simp at hu; rcases hu with rfl | rfl <;> rfl) (by unfold maxLen; omega) (by omega) (by simp; omega) ?_; intro v' w1 hown1 hg _))
              first
              | (have hb1 := below_grownB hbel (Nat.le_succ _) hown hg
                 have hi1 := grown_heap hown hg (k := w.heap.size) (by omega) hw2
                 go_roundw
                 case rel => exact ⟨q, r, ds ++ [(pos, false)], rfl, hi1.trans HI2.out, by rw [bcells_snoc, List.length_append]; exact hown1, fun e => by omega, fun _ => by rw [List.append_assoc]; refine Eq.trans ?_ HT1.out; rw [HST.out]; first | (simp [mustB, wrapsB, e10]; done) | (simp [mustB, wrapsB, e10, m0, m1, m3]; done), hb1⟩
                 case measure => simp [World.iterPos, HIT.out, hi1.trans HI2.out]; omega)
              | (go_roundw
                 case rel => exact ⟨q, r, ds, rfl, HI2.out, hown, fun e => by omega, fun _ => by refine Eq.trans ?_ HT1.out; rw [HST.out]; first | (simp [mustB, wrapsB, e10]; done) | (simp [mustB, wrapsB, e10, m0, m1, m3]; done), hbel⟩
                 case measure => simp [World.iterPos, HIT.out, HI2.out]; omega)
      · have hnx : ∀ ty, (Instr.next (.pointer (some ⟨w.heap.size, 0, none⟩)) true ty).run Try.prog wr = _ := fun ty => Lib.run_next_end_at wr w.heap.size s pos ty hit hlt
        have HX : Hid (ds ++ F a [] = T ∧ (pos = 0 → a = 0)) := by
          refine ⟨?_, fun h => (hp0 h).1⟩
          by_cases h0 : pos = 0
          · obtain ⟨rfl, rfl⟩ := hp0 h0
            subst h0
            rw [HTE.out hlt, HE.out]
            simp [mustB]
          · have := hp1 (by omega)
            rwa [signs_end s pos hlt] at this
        have hds : ds.length ≤ 1048576 := by have := congrArg List.length HX.out.1; simp at this; omega
        have HIT := Lib.hid hit
        clear hp0 hp1 hit
        by_cases ha : a = 10
        · subst ha
          go_wp2_with ((at_builtin; refine wpList_append_own _ rfl _ _ 69 rfl (w.heap.size + 1) 72 i0 (.agg #[.int .i64 0, .bool false]) 2 16 Try.underlying69 hi hz0 hz1 hz2 rfl (by decide) _ _ _ rfl (hown.alloc _) ⟨wr.heap.size, 0, none⟩ 1 1 [.int .i64 s.size, .bool true] rfl rfl (cell_two_new _ _ _ _) (fun u hu => by simp at hu; rcases hu with rfl | rfl <;> rfl) (by unfold maxLen; omega) (by omega) (by simp; omega) ?_; intro v' w1 hown1 hg _))
          first
          | (have hb1 := below_grownB hbel (Nat.le_succ _) hown hg
             have hTT : T = ds ++ [(s.size, true)] := by rw [← HX.out.1, HE.out]; first | (simp [mustB]; done) | (simp [mustB, m1, m3]; done)
             go_ret
             exact ⟨_, rfl, by rw [hTT, bcells_snoc, List.length_append]; exact own_base hown1 (Nat.le_succ _), hb1⟩)
          | (have hTT : T = ds := by rw [← HX.out.1, HE.out]; first | (simp [mustB]; done) | (simp [mustB, m1, m3]; done)
             go_ret
             exact ⟨_, rfl, by rw [hTT]; exact own_base hown (Nat.le_succ _), hbel⟩)
        · have e10 : (a == 10) = false := by simpa using ha
          have hTT : T = ds := by rw [← HX.out.1, HE.out]; simp [mustB, e10]
          have HTT := Lib.hid hTT
          clear hTT
          go_wp2_with fail
          go_ret
          exact ⟨_, rfl, by rw [HTT.out]; exact own_base hown (Nat.le_succ _), hbel⟩
end Go.Proofs.Ytabbpdlnlibngaa
