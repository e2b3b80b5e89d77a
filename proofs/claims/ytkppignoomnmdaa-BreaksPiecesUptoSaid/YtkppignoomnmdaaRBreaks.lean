/- Contract of the reference's Breaks. -/
import Derived.Test.YtkppignoomnmdaaEqBrk
namespace Go.Proofs.Ytkppignoomnmdaa
open Go.RowKit
set_option linter.unusedVariables false
set_option linter.unusedSimpArgs false

theorem rletter_calls (r : Int) (w : World) :
    Calls Try.prog 51 #[.int .i32 r] w fun e w' => e = .returned (.bool (letterB r)) ∧ w = w' := by
  go_enter Try.func51, Try.ntmps51
  go_wp2
  all_goals (go_ret; exact ⟨ret_b (by unfold letterB; simp [*]; try omega), rfl⟩)
theorem rother_calls (r : Int) (w : World) :
    Calls Try.prog 52 #[.int .i32 r] w fun e w' => e = .returned (.bool (otherB r)) ∧ w = w' := by
  go_enter Try.func52, Try.ntmps52
  go_wp2
  all_goals (go_ret; exact ⟨ret_b (by unfold otherB; simp_all), rfl⟩)
theorem rkeeps2_calls (m : Int) (w : World) :
    Calls Try.prog 48 #[.int .i64 m] w fun e w' => e = .returned (.bool (m == 1 || m == 3)) ∧ w = w' := by
  go_enter Try.func48, Try.ntmps48
  go_wp2
  all_goals (go_ret; exact ⟨ret_b (by simp_all), rfl⟩)
def scells (l : List (Nat × Int)) : List Value := l.flatMap fun b => [.int .i32 b.2, .int .i64 (b.1 : Nat)]
def sgnF (b : Nat × Int) : List Value := [.int .i32 b.2, .int .i64 (b.1 : Nat)]
theorem scells_snoc (l : List (Nat × Int)) (b : Nat × Int) : scells (l ++ [b]) = scells l ++ [.int .i32 b.2, .int .i64 (b.1 : Nat)] := by simp [scells]
theorem info_sgn : (Try.prog.info? 79).map (fun i => (i.zero, i.size, i.bytes)) = some (some (.agg #[.int .i32 0, .int .i64 0]), 2, 16) := by kernel_rfl
theorem drop_at {α : Type} (l : List α) (k : Nat) (d : α) (h : k < l.length) : l.drop k = l.getD k d :: l.drop (k + 1) := by
  rw [List.drop_eq_getElem_cons h]; simp [List.getD, h]
/-- The ways of the reference's test. -/
theorem ways (a r : Int) :
    (a = 32 ∧ (r == 32) = false ∧ mayB a r = true) ∨ (a = 32 ∧ r = 32 ∧ mayB a r = false) ∨
    (a = 45 ∧ letterB r = true ∧ mayB a r = true) ∨ (a = 45 ∧ letterB r = false ∧ mayB a r = false ∧ 4352 ≤ r ∧ otherB a = false) ∨ (a = 45 ∧ letterB r = false ∧ mayB a r = false ∧ r < 4352) ∨
    ((a == 32) = false ∧ (a == 45) = false ∧ 4352 ≤ a ∧ otherB r = true ∧ mayB a r = true) ∨
    ((a == 32) = false ∧ (a == 45) = false ∧ 4352 ≤ a ∧ otherB r = false ∧ r < 4352 ∧ mayB a r = false) ∨
    ((a == 32) = false ∧ (a == 45) = false ∧ a < 4352 ∧ 4352 ≤ r ∧ otherB a = true ∧ mayB a r = true) ∨
    ((a == 32) = false ∧ (a == 45) = false ∧ a < 4352 ∧ 4352 ≤ r ∧ otherB a = false ∧ mayB a r = false) ∨
    ((a == 32) = false ∧ (a == 45) = false ∧ a < 4352 ∧ r < 4352 ∧ mayB a r = false) := by
  by_cases h1 : a = 32
  · by_cases h2 : r = 32
    · exact .inr (.inl ⟨h1, h2, by simp [mayB, h1, h2]⟩)
    · exact .inl ⟨h1, by simpa using h2, by simp [mayB, h1, h2]⟩
  · by_cases h2 : a = 45
    · cases h3 : letterB r
      · by_cases h4 : 4352 ≤ r
        · exact .inr (.inr (.inr (.inl ⟨h2, rfl, by simp [mayB, h2, h3], h4, by simp [otherB, h2]⟩)))
        · exact .inr (.inr (.inr (.inr (.inl ⟨h2, rfl, by simp [mayB, h2, h3], by omega⟩))))
      · exact .inr (.inr (.inl ⟨h2, rfl, by simp [mayB, h2, h3]⟩))
    · have e1 : (a == 32) = false := by simpa using h1
      have e2 : (a == 45) = false := by simpa using h2
      refine .inr (.inr (.inr (.inr (.inr ?_))))
      by_cases h3 : 4352 ≤ a
      · cases h4 : otherB r
        · have h5 : r < 4352 := by
            unfold otherB at h4
            simp at h4
            by_cases q1 : r = 32
            · omega
            · by_cases q2 : r = 45
              · omega
              · have := h4 q1 q2; omega
          exact .inr (.inl ⟨e1, e2, h3, rfl, h5, by have : ¬ 4352 ≤ r := by omega
                                                    simp [mayB, wideB, h1, h2, h3, h4, this]⟩)
        · exact .inl ⟨e1, e2, h3, rfl, by simp [mayB, wideB, h1, h2, h3, h4]⟩
      · by_cases h4 : 4352 ≤ r
        · cases h5 : otherB a
          · exact .inr (.inr (.inr (.inl ⟨e1, e2, by omega, h4, rfl, by simp [mayB, wideB, h1, h2, h3, h4, h5]⟩)))
          · exact .inr (.inr (.inl ⟨e1, e2, by omega, h4, rfl, by simp [mayB, wideB, h1, h2, h3, h4, h5]⟩))
        · exact .inr (.inr (.inr (.inr ⟨e1, e2, by omega, by omega, by simp [mayB, wideB, h1, h2, h3, h4]⟩)))
--@@ printed by genRBk.py
theorem own_any2 {w : World} {base : Nat} {e : TypeId} {size n : Nat} {v : Value} {xs : List Value} (h : w.ownsRow base e size v n xs) : ∃ A c, v = .slice A n c := by
  rcases h.2 with ⟨rfl, rfl⟩ | ⟨g, cap, cur, hv, hb, hh, _⟩
  · exact ⟨_, _, rfl⟩
  · exact ⟨_, _, hv⟩
theorem cell_two_at (w : World) (a b : Value) (t : TypeId) (g : Nat) (hg : w.heap.size = g) : ∀ j u, [a, b][j]? = some u → (w.alloc (.cells #[a, b] t)).cell? ((⟨g, 0, none⟩ : Addr).add j) = some u := by
  subst hg; exact cell_two_new w a b t
set_option maxRecDepth 100000 in
set_option maxHeartbeats 40000000 in
theorem rbreaks_calls (s : ByteArray) (m : Int) (w : World) (hs : s.size ≤ 1048576) :
    Calls Try.prog 19 #[.string s, .int .i64 m] w fun e w' => ∃ v, e = .returned v ∧ w'.ownsRow w.heap.size 28 2 v (brks m s).length (bcells (brks m s)) ∧ Below w.heap.size w w' := by
  obtain ⟨i0, hi, hz0, hz1, hz2⟩ := info_parts info_brk
  obtain ⟨j0, hj, hy0, hy1, hy2⟩ := info_parts info_sgn
  obtain ⟨T, hT⟩ : ∃ T, T = brks m s := ⟨_, rfl⟩
  obtain ⟨L, hL⟩ : ∃ L, L = signs s 0 := ⟨_, rfl⟩
  obtain ⟨F, hF⟩ : ∃ F, F = brkL m s.size := ⟨_, rfl⟩
  have HT : Hid (F L = T) := by show F L = T; rw [hF, hL, hT]; rfl
  have HC0 : Hid (F [] = []) := by rw [hF]; rfl
  have HC1 : Hid (∀ p a, F [(p, a)] = if mustB m a then [(s.size, true)] else []) := by rw [hF]; exact fun _ _ => rfl
  have HC2 : Hid (∀ p a q r l, F ((p, a) :: (q, r) :: l) = (if mustB m a || (wrapsB m && mayB a r) then [(q, mustB m a)] else []) ++ F ((q, r) :: l)) := by rw [hF]; exact fun _ _ _ _ _ => rfl
  have hTl := brks_len m s
  have hLl := signs_len s s.size 0 (by omega)
  rw [← hT] at hTl ⊢
  rw [← hL] at hLl
  have HL := Lib.hid hL
  clear hT hF hL
  go_enter Try.func19, Try.ntmps19
  go_wp2_with fail
  go_loopw [5] (fun v wr => ∃ (pos : Nat) (ds : List (Nat × Int)), wr.heap[w.heap.size]? = some (.stringIter s pos) ∧ wr.ownsRow (w.heap.size + 1) 79 2 v ds.length (scells ds) ∧ ds ++ signs s pos = L ∧ Below w.heap.size w wr) (fun _ wr => s.size - wr.iterPos w.heap.size)
  case atStart => exact ⟨0, [], World.iter_heap _ _ _, World.ownsRow_nil _ _ _ _, HL.out.symm, below_alloc (Below.refl _ _) _⟩
  case round =>
    obtain ⟨pos, ds, hit, hown, hds, hbel⟩ := hrel
    have hw := hbel.size
    have hw1 : w.heap.size < wr.heap.size := (Array.getElem?_eq_some_iff.1 hit).1
    have HDS := Lib.hid hds
    have hdl : ds.length ≤ 1048576 := by have := congrArg List.length hds; simp at this; omega
    clear hds
    by_cases hlt : pos < s.size
    · have hadv := decode_adv s pos hlt
      have hnx : ∀ ty, (Instr.next (.pointer (some ⟨w.heap.size, 0, none⟩)) true ty).run Try.prog wr = _ := fun ty => Lib.run_next_any_at wr w.heap.size s pos ty hit hlt
      have HSG := Lib.hid (signs_at s pos hlt)
      have hit2 := Lib.iterAt_heap wr w.heap.size s pos (pos + (Utf8.decode s pos).2) hit
      have hown := own_iter hown (k := w.heap.size) (by omega) s (pos + (Utf8.decode s pos).2)
      have hbel := Lib.below_iterAt hbel (k := w.heap.size) (Nat.le_refl _) s (pos + (Utf8.decode s pos).2)
      obtain ⟨q, hq⟩ : ∃ q, q = pos + (Utf8.decode s pos).2 := ⟨_, rfl⟩
      obtain ⟨r, hr⟩ : ∃ r : Int, r = ((Utf8.decode s pos).1 : Int) := ⟨_, rfl⟩
      rw [← hq] at hnx HSG hit2 hown hbel
      rw [← hr] at hnx HSG
      have hpq : pos < q := by omega
      clear hq hr hadv
      have hw2 : w.heap.size < (wr.iterAt w.heap.size s q).heap.size := (Array.getElem?_eq_some_iff.1 hit2).1
      have HIT := Lib.hid hit
      generalize hW2 : wr.iterAt w.heap.size s q = w2 at hnx hit2 hown hbel hw2
      have HI2 := Lib.hid hit2
      clear hW2 hit hit2
      go_wp2_with ((at_builtin; refine wpList_append_own _ rfl _ _ 77 rfl (w.heap.size + 1) 79 j0 (.agg #[.int .i32 0, .int .i64 0]) 2 16 Try.underlying77 hj hy0 hy1 hy2 rfl (by decide) _ _ _ rfl (hown.alloc _) ⟨w2.heap.size, 0, none⟩ 1 1 [.int .i32 r, .int .i64 pos] rfl rfl (cell_two_new _ _ _ _) (fun u hu => by simp at hu; rcases hu with rfl | rfl <;> rfl) (by unfold maxLen; omega) (by omega) (by simp; omega) ?_; intro v' w1 hown1 hg _))
      have hb1 := below_grownB hbel (Nat.le_succ _) hown hg
      have hi1 := Lib.hid (grown_heap hown hg (k := w.heap.size) (by omega) hw2)
      go_roundw
      case rel => exact ⟨q, ds ++ [(pos, r)], hi1.out.trans HI2.out, by rw [scells_snoc, List.length_append]; exact hown1, by rw [List.append_assoc]; refine Eq.trans ?_ HDS.out; rw [HSG.out]; rfl, hb1⟩
      case measure => simp [World.iterPos, HIT.out, hi1.out.trans HI2.out]; omega
    · have hnx : ∀ ty, (Instr.next (.pointer (some ⟨w.heap.size, 0, none⟩)) true ty).run Try.prog wr = _ := fun ty => Lib.run_next_end_at wr w.heap.size s pos ty hit hlt
      have hdd := HDS.out
      rw [signs_end s pos hlt, List.append_nil] at hdd
      subst hdd
      obtain ⟨A, c, hv⟩ := own_any2 hown
      rw [hv] at hown ⊢
      have HH := Lib.hid (Holds.of_own hown)
      have HIT := Lib.hid hit
      clear hown hit hv HDS
      obtain ⟨wo, rfl⟩ : ∃ wo : World, wo = wr := ⟨_, rfl⟩
      go_wp2_with fail
      clear hnx
      go_loopw [10, 30] (fun v i w2 => ∃ (k : Nat) (es : List (Nat × Bool)), k ≤ ds.length ∧ i = .int .i64 k ∧ w2.ownsRow wo.heap.size 28 2 v es.length (bcells es) ∧ es ++ F (ds.drop k) = T ∧ Below wo.heap.size wo w2) (fun _ i _ => ds.length - (intOf i).toNat)
      case atStart => exact ⟨0, [], Nat.zero_le _, rfl, World.ownsRow_nil _ _ _ _, HT.out, Below.refl _ _⟩
      case round =>
        obtain ⟨k, es, hk, rfl, hown, hes, hb2⟩ := hrel
        have hw2 := hb2.size
        have hel : es.length ≤ 1048576 := by have := congrArg List.length hes; simp at this; omega
        have HR := Lib.hid hes
        clear hes
        by_cases hlt : k < ds.length
        · obtain ⟨b, off, rfl, hb, hc⟩ := (HH.out.below hb2 (Nat.le_refl _)).flat (f := sgnF) 2 (fun _ => rfl) (by omega) (0, 0) hlt
          have hdr := drop_at ds k (0, 0) hlt
          have KK := Lib.hid (show k ≤ ds.length ∧ k < ds.length from ⟨hk, hlt⟩)
          have hm : m = 0 ∨ m = 1 ∨ m = 3 ∨ ((m == 0) = false ∧ (m == 1) = false ∧ (m == 3) = false) := by
            simp; omega
          by_cases hls : k + 1 = ds.length
          · have hd2 : ds.drop (k + 1) = [] := by rw [hls]; simp
            rw [hd2] at hdr
            rw [hdr] at HR
            obtain ⟨⟨p, a⟩, hx⟩ : ∃ x, x = ds.getD k (0, 0) := ⟨_, rfl⟩
            rw [← hx] at hc HR
            have c0 := hc 0 _ rfl
            have c1 := hc 1 _ rfl
            have HST := Lib.hid (HC1.out p a)
            have HDK : Hid (ds.drop (k + 1) = []) := hd2
            have hkl : ((k : Int) + 1 == (ds.length : Int)) = true := by simp; omega
            clear hc hx hdr hd2
            simp only [Nat.add_zero] at c0
            by_cases ha : a = 10
            · subst ha
              rcases hm with rfl | rfl | rfl | ⟨m0, m1, m3⟩
              · skip
                go_wp2_with (first | (go_at_call 48; refine (rkeeps2_calls _ _).mono ?_; rintro e w' ⟨rfl, rfl⟩) | (go_at_call 51; refine (HLE.out _).mono ?_; rintro e w' ⟨rfl, rfl⟩) | (go_at_call 52; refine (rother_calls _ _).mono ?_; rintro e w' ⟨rfl, rfl⟩) | (at_builtin; refine wpList_append_own _ rfl _ _ 29 rfl wo.heap.size 28 i0 (.agg #[.int .i64 0, .bool false]) 2 16 Try.underlying29 hi hz0 hz1 hz2 rfl (by decide) _ _ _ rfl ((hown.alloc _).alloc _) ⟨wr.heap.size + 1, 0, none⟩ 1 1 [.int .i64 s.size, .bool true] rfl rfl (cell_two_at _ _ _ _ _ (by simp)) (fun u hu => by simp at hu; rcases hu with rfl | rfl <;> rfl) (by unfold maxLen; omega) (by omega) (by simp; omega) ?_; intro v' w1 hown1 hg _) | (at_builtin; refine wpList_append_own _ rfl _ _ 29 rfl wo.heap.size 28 i0 (.agg #[.int .i64 0, .bool false]) 2 16 Try.underlying29 hi hz0 hz1 hz2 rfl (by decide) _ _ _ rfl ((hown.alloc _).alloc _) ⟨wr.heap.size + 1, 0, none⟩ 1 1 [.int .i64 s.size, .bool false] rfl rfl (cell_two_at _ _ _ _ _ (by simp)) (fun u hu => by simp at hu; rcases hu with rfl | rfl <;> rfl) (by unfold maxLen; omega) (by omega) (by simp; omega) ?_; intro v' w1 hown1 hg _))
                first
                | (have hb3 := below_grown' hown (by repeat (first | exact hb2 | refine below_alloc ?_ _)) hg
                   go_roundw
                   case rel => exact ⟨k + 1, es ++ [(s.size, _)], by have := KK.out; omega, by go_num, by rw [bcells_snoc, List.length_append]; exact hown1, by rw [List.append_assoc, HDK.out, HC0.out]; refine Eq.trans ?_ HR.out; rw [HST.out]; first | (simp [mustB, wrapsB]; done) | (simp [mustB, wrapsB, e10]; done) | (simp [mustB, wrapsB, m0, m1, m3]; done) | (simp [mustB, wrapsB, e10, m0, m1, m3]; done), hb3⟩
                   case measure => have := KK.out; simp [intOf]; omega)
                | (go_roundw
                   case rel => exact ⟨k + 1, es, by have := KK.out; omega, by go_num, by exact (hown.alloc _), by rw [HDK.out, HC0.out]; refine Eq.trans ?_ HR.out; rw [HST.out]; first | (simp [mustB, wrapsB]; done) | (simp [mustB, wrapsB, e10]; done) | (simp [mustB, wrapsB, m0, m1, m3]; done) | (simp [mustB, wrapsB, e10, m0, m1, m3]; done), by repeat (first | exact hb2 | refine below_alloc ?_ _)⟩
                   case measure => have := KK.out; simp [intOf]; omega)
              · skip
                go_wp2_with (first | (go_at_call 48; refine (rkeeps2_calls _ _).mono ?_; rintro e w' ⟨rfl, rfl⟩) | (go_at_call 51; refine (HLE.out _).mono ?_; rintro e w' ⟨rfl, rfl⟩) | (go_at_call 52; refine (rother_calls _ _).mono ?_; rintro e w' ⟨rfl, rfl⟩) | (at_builtin; refine wpList_append_own _ rfl _ _ 29 rfl wo.heap.size 28 i0 (.agg #[.int .i64 0, .bool false]) 2 16 Try.underlying29 hi hz0 hz1 hz2 rfl (by decide) _ _ _ rfl ((hown.alloc _).alloc _) ⟨wr.heap.size + 1, 0, none⟩ 1 1 [.int .i64 s.size, .bool true] rfl rfl (cell_two_at _ _ _ _ _ (by simp)) (fun u hu => by simp at hu; rcases hu with rfl | rfl <;> rfl) (by unfold maxLen; omega) (by omega) (by simp; omega) ?_; intro v' w1 hown1 hg _) | (at_builtin; refine wpList_append_own _ rfl _ _ 29 rfl wo.heap.size 28 i0 (.agg #[.int .i64 0, .bool false]) 2 16 Try.underlying29 hi hz0 hz1 hz2 rfl (by decide) _ _ _ rfl ((hown.alloc _).alloc _) ⟨wr.heap.size + 1, 0, none⟩ 1 1 [.int .i64 s.size, .bool false] rfl rfl (cell_two_at _ _ _ _ _ (by simp)) (fun u hu => by simp at hu; rcases hu with rfl | rfl <;> rfl) (by unfold maxLen; omega) (by omega) (by simp; omega) ?_; intro v' w1 hown1 hg _))
                first
                | (have hb3 := below_grown' hown (by repeat (first | exact hb2 | refine below_alloc ?_ _)) hg
                   go_roundw
                   case rel => exact ⟨k + 1, es ++ [(s.size, _)], by have := KK.out; omega, by go_num, by rw [bcells_snoc, List.length_append]; exact hown1, by rw [List.append_assoc, HDK.out, HC0.out]; refine Eq.trans ?_ HR.out; rw [HST.out]; first | (simp [mustB, wrapsB]; done) | (simp [mustB, wrapsB, e10]; done) | (simp [mustB, wrapsB, m0, m1, m3]; done) | (simp [mustB, wrapsB, e10, m0, m1, m3]; done), hb3⟩
                   case measure => have := KK.out; simp [intOf]; omega)
                | (go_roundw
                   case rel => exact ⟨k + 1, es, by have := KK.out; omega, by go_num, by exact (hown.alloc _), by rw [HDK.out, HC0.out]; refine Eq.trans ?_ HR.out; rw [HST.out]; first | (simp [mustB, wrapsB]; done) | (simp [mustB, wrapsB, e10]; done) | (simp [mustB, wrapsB, m0, m1, m3]; done) | (simp [mustB, wrapsB, e10, m0, m1, m3]; done), by repeat (first | exact hb2 | refine below_alloc ?_ _)⟩
                   case measure => have := KK.out; simp [intOf]; omega)
              · skip
                go_wp2_with (first | (go_at_call 48; refine (rkeeps2_calls _ _).mono ?_; rintro e w' ⟨rfl, rfl⟩) | (go_at_call 51; refine (HLE.out _).mono ?_; rintro e w' ⟨rfl, rfl⟩) | (go_at_call 52; refine (rother_calls _ _).mono ?_; rintro e w' ⟨rfl, rfl⟩) | (at_builtin; refine wpList_append_own _ rfl _ _ 29 rfl wo.heap.size 28 i0 (.agg #[.int .i64 0, .bool false]) 2 16 Try.underlying29 hi hz0 hz1 hz2 rfl (by decide) _ _ _ rfl ((hown.alloc _).alloc _) ⟨wr.heap.size + 1, 0, none⟩ 1 1 [.int .i64 s.size, .bool true] rfl rfl (cell_two_at _ _ _ _ _ (by simp)) (fun u hu => by simp at hu; rcases hu with rfl | rfl <;> rfl) (by unfold maxLen; omega) (by omega) (by simp; omega) ?_; intro v' w1 hown1 hg _) | (at_builtin; refine wpList_append_own _ rfl _ _ 29 rfl wo.heap.size 28 i0 (.agg #[.int .i64 0, .bool false]) 2 16 Try.underlying29 hi hz0 hz1 hz2 rfl (by decide) _ _ _ rfl ((hown.alloc _).alloc _) ⟨wr.heap.size + 1, 0, none⟩ 1 1 [.int .i64 s.size, .bool false] rfl rfl (cell_two_at _ _ _ _ _ (by simp)) (fun u hu => by simp at hu; rcases hu with rfl | rfl <;> rfl) (by unfold maxLen; omega) (by omega) (by simp; omega) ?_; intro v' w1 hown1 hg _))
                first
                | (have hb3 := below_grown' hown (by repeat (first | exact hb2 | refine below_alloc ?_ _)) hg
                   go_roundw
                   case rel => exact ⟨k + 1, es ++ [(s.size, _)], by have := KK.out; omega, by go_num, by rw [bcells_snoc, List.length_append]; exact hown1, by rw [List.append_assoc, HDK.out, HC0.out]; refine Eq.trans ?_ HR.out; rw [HST.out]; first | (simp [mustB, wrapsB]; done) | (simp [mustB, wrapsB, e10]; done) | (simp [mustB, wrapsB, m0, m1, m3]; done) | (simp [mustB, wrapsB, e10, m0, m1, m3]; done), hb3⟩
                   case measure => have := KK.out; simp [intOf]; omega)
                | (go_roundw
                   case rel => exact ⟨k + 1, es, by have := KK.out; omega, by go_num, by exact (hown.alloc _), by rw [HDK.out, HC0.out]; refine Eq.trans ?_ HR.out; rw [HST.out]; first | (simp [mustB, wrapsB]; done) | (simp [mustB, wrapsB, e10]; done) | (simp [mustB, wrapsB, m0, m1, m3]; done) | (simp [mustB, wrapsB, e10, m0, m1, m3]; done), by repeat (first | exact hb2 | refine below_alloc ?_ _)⟩
                   case measure => have := KK.out; simp [intOf]; omega)
              · skip
                go_wp2_with (first | (go_at_call 48; refine (rkeeps2_calls _ _).mono ?_; rintro e w' ⟨rfl, rfl⟩) | (go_at_call 51; refine (HLE.out _).mono ?_; rintro e w' ⟨rfl, rfl⟩) | (go_at_call 52; refine (rother_calls _ _).mono ?_; rintro e w' ⟨rfl, rfl⟩) | (at_builtin; refine wpList_append_own _ rfl _ _ 29 rfl wo.heap.size 28 i0 (.agg #[.int .i64 0, .bool false]) 2 16 Try.underlying29 hi hz0 hz1 hz2 rfl (by decide) _ _ _ rfl ((hown.alloc _).alloc _) ⟨wr.heap.size + 1, 0, none⟩ 1 1 [.int .i64 s.size, .bool true] rfl rfl (cell_two_at _ _ _ _ _ (by simp)) (fun u hu => by simp at hu; rcases hu with rfl | rfl <;> rfl) (by unfold maxLen; omega) (by omega) (by simp; omega) ?_; intro v' w1 hown1 hg _) | (at_builtin; refine wpList_append_own _ rfl _ _ 29 rfl wo.heap.size 28 i0 (.agg #[.int .i64 0, .bool false]) 2 16 Try.underlying29 hi hz0 hz1 hz2 rfl (by decide) _ _ _ rfl ((hown.alloc _).alloc _) ⟨wr.heap.size + 1, 0, none⟩ 1 1 [.int .i64 s.size, .bool false] rfl rfl (cell_two_at _ _ _ _ _ (by simp)) (fun u hu => by simp at hu; rcases hu with rfl | rfl <;> rfl) (by unfold maxLen; omega) (by omega) (by simp; omega) ?_; intro v' w1 hown1 hg _))
                first
                | (have hb3 := below_grown' hown (by repeat (first | exact hb2 | refine below_alloc ?_ _)) hg
                   go_roundw
                   case rel => exact ⟨k + 1, es ++ [(s.size, _)], by have := KK.out; omega, by go_num, by rw [bcells_snoc, List.length_append]; exact hown1, by rw [List.append_assoc, HDK.out, HC0.out]; refine Eq.trans ?_ HR.out; rw [HST.out]; first | (simp [mustB, wrapsB]; done) | (simp [mustB, wrapsB, e10]; done) | (simp [mustB, wrapsB, m0, m1, m3]; done) | (simp [mustB, wrapsB, e10, m0, m1, m3]; done), hb3⟩
                   case measure => have := KK.out; simp [intOf]; omega)
                | (go_roundw
                   case rel => exact ⟨k + 1, es, by have := KK.out; omega, by go_num, by exact (hown.alloc _), by rw [HDK.out, HC0.out]; refine Eq.trans ?_ HR.out; rw [HST.out]; first | (simp [mustB, wrapsB]; done) | (simp [mustB, wrapsB, e10]; done) | (simp [mustB, wrapsB, m0, m1, m3]; done) | (simp [mustB, wrapsB, e10, m0, m1, m3]; done), by repeat (first | exact hb2 | refine below_alloc ?_ _)⟩
                   case measure => have := KK.out; simp [intOf]; omega)
            · have e10 : (a == 10) = false := by simpa using ha
              rcases hm with rfl | rfl | rfl | ⟨m0, m1, m3⟩
              · skip
                go_wp2_with (first | (go_at_call 48; refine (rkeeps2_calls _ _).mono ?_; rintro e w' ⟨rfl, rfl⟩) | (go_at_call 51; refine (HLE.out _).mono ?_; rintro e w' ⟨rfl, rfl⟩) | (go_at_call 52; refine (rother_calls _ _).mono ?_; rintro e w' ⟨rfl, rfl⟩) | (at_builtin; refine wpList_append_own _ rfl _ _ 29 rfl wo.heap.size 28 i0 (.agg #[.int .i64 0, .bool false]) 2 16 Try.underlying29 hi hz0 hz1 hz2 rfl (by decide) _ _ _ rfl ((hown.alloc _).alloc _) ⟨wr.heap.size + 1, 0, none⟩ 1 1 [.int .i64 s.size, .bool true] rfl rfl (cell_two_at _ _ _ _ _ (by simp)) (fun u hu => by simp at hu; rcases hu with rfl | rfl <;> rfl) (by unfold maxLen; omega) (by omega) (by simp; omega) ?_; intro v' w1 hown1 hg _) | (at_builtin; refine wpList_append_own _ rfl _ _ 29 rfl wo.heap.size 28 i0 (.agg #[.int .i64 0, .bool false]) 2 16 Try.underlying29 hi hz0 hz1 hz2 rfl (by decide) _ _ _ rfl ((hown.alloc _).alloc _) ⟨wr.heap.size + 1, 0, none⟩ 1 1 [.int .i64 s.size, .bool false] rfl rfl (cell_two_at _ _ _ _ _ (by simp)) (fun u hu => by simp at hu; rcases hu with rfl | rfl <;> rfl) (by unfold maxLen; omega) (by omega) (by simp; omega) ?_; intro v' w1 hown1 hg _))
                first
                | (have hb3 := below_grown' hown (by repeat (first | exact hb2 | refine below_alloc ?_ _)) hg
                   go_roundw
                   case rel => exact ⟨k + 1, es ++ [(s.size, _)], by have := KK.out; omega, by go_num, by rw [bcells_snoc, List.length_append]; exact hown1, by rw [List.append_assoc, HDK.out, HC0.out]; refine Eq.trans ?_ HR.out; rw [HST.out]; first | (simp [mustB, wrapsB]; done) | (simp [mustB, wrapsB, e10]; done) | (simp [mustB, wrapsB, m0, m1, m3]; done) | (simp [mustB, wrapsB, e10, m0, m1, m3]; done), hb3⟩
                   case measure => have := KK.out; simp [intOf]; omega)
                | (go_roundw
                   case rel => exact ⟨k + 1, es, by have := KK.out; omega, by go_num, by exact (hown.alloc _), by rw [HDK.out, HC0.out]; refine Eq.trans ?_ HR.out; rw [HST.out]; first | (simp [mustB, wrapsB]; done) | (simp [mustB, wrapsB, e10]; done) | (simp [mustB, wrapsB, m0, m1, m3]; done) | (simp [mustB, wrapsB, e10, m0, m1, m3]; done), by repeat (first | exact hb2 | refine below_alloc ?_ _)⟩
                   case measure => have := KK.out; simp [intOf]; omega)
              · skip
                go_wp2_with (first | (go_at_call 48; refine (rkeeps2_calls _ _).mono ?_; rintro e w' ⟨rfl, rfl⟩) | (go_at_call 51; refine (HLE.out _).mono ?_; rintro e w' ⟨rfl, rfl⟩) | (go_at_call 52; refine (rother_calls _ _).mono ?_; rintro e w' ⟨rfl, rfl⟩) | (at_builtin; refine wpList_append_own _ rfl _ _ 29 rfl wo.heap.size 28 i0 (.agg #[.int .i64 0, .bool false]) 2 16 Try.underlying29 hi hz0 hz1 hz2 rfl (by decide) _ _ _ rfl ((hown.alloc _).alloc _) ⟨wr.heap.size + 1, 0, none⟩ 1 1 [.int .i64 s.size, .bool true] rfl rfl (cell_two_at _ _ _ _ _ (by simp)) (fun u hu => by simp at hu; rcases hu with rfl | rfl <;> rfl) (by unfold maxLen; omega) (by omega) (by simp; omega) ?_; intro v' w1 hown1 hg _) | (at_builtin; refine wpList_append_own _ rfl _ _ 29 rfl wo.heap.size 28 i0 (.agg #[.int .i64 0, .bool false]) 2 16 Try.underlying29 hi hz0 hz1 hz2 rfl (by decide) _ _ _ rfl ((hown.alloc _).alloc _) ⟨wr.heap.size + 1, 0, none⟩ 1 1 [.int .i64 s.size, .bool false] rfl rfl (cell_two_at _ _ _ _ _ (by simp)) (fun u hu => by simp at hu; rcases hu with rfl | rfl <;> rfl) (by unfold maxLen; omega) (by omega) (by simp; omega) ?_; intro v' w1 hown1 hg _))
                first
                | (have hb3 := below_grown' hown (by repeat (first | exact hb2 | refine below_alloc ?_ _)) hg
                   go_roundw
                   case rel => exact ⟨k + 1, es ++ [(s.size, _)], by have := KK.out; omega, by go_num, by rw [bcells_snoc, List.length_append]; exact hown1, by rw [List.append_assoc, HDK.out, HC0.out]; refine Eq.trans ?_ HR.out; rw [HST.out]; first | (simp [mustB, wrapsB]; done) | (simp [mustB, wrapsB, e10]; done) | (simp [mustB, wrapsB, m0, m1, m3]; done) | (simp [mustB, wrapsB, e10, m0, m1, m3]; done), hb3⟩
                   case measure => have := KK.out; simp [intOf]; omega)
                | (go_roundw
                   case rel => exact ⟨k + 1, es, by have := KK.out; omega, by go_num, by exact (hown.alloc _), by rw [HDK.out, HC0.out]; refine Eq.trans ?_ HR.out; rw [HST.out]; first | (simp [mustB, wrapsB]; done) | (simp [mustB, wrapsB, e10]; done) | (simp [mustB, wrapsB, m0, m1, m3]; done) | (simp [mustB, wrapsB, e10, m0, m1, m3]; done), by repeat (first | exact hb2 | refine below_alloc ?_ _)⟩
                   case measure => have := KK.out; simp [intOf]; omega)
              · skip
                go_wp2_with (first | (go_at_call 48; refine (rkeeps2_calls _ _).mono ?_; rintro e w' ⟨rfl, rfl⟩) | (go_at_call 51; refine (HLE.out _).mono ?_; rintro e w' ⟨rfl, rfl⟩) | (go_at_call 52; refine (rother_calls _ _).mono ?_; rintro e w' ⟨rfl, rfl⟩) | (at_builtin; refine wpList_append_own _ rfl _ _ 29 rfl wo.heap.size 28 i0 (.agg #[.int .i64 0, .bool false]) 2 16 Try.underlying29 hi hz0 hz1 hz2 rfl (by decide) _ _ _ rfl ((hown.alloc _).alloc _) ⟨wr.heap.size + 1, 0, none⟩ 1 1 [.int .i64 s.size, .bool true] rfl rfl (cell_two_at _ _ _ _ _ (by simp)) (fun u hu => by simp at hu; rcases hu with rfl | rfl <;> rfl) (by unfold maxLen; omega) (by omega) (by simp; omega) ?_; intro v' w1 hown1 hg _) | (at_builtin; refine wpList_append_own _ rfl _ _ 29 rfl wo.heap.size 28 i0 (.agg #[.int .i64 0, .bool false]) 2 16 Try.underlying29 hi hz0 hz1 hz2 rfl (by decide) _ _ _ rfl ((hown.alloc _).alloc _) ⟨wr.heap.size + 1, 0, none⟩ 1 1 [.int .i64 s.size, .bool false] rfl rfl (cell_two_at _ _ _ _ _ (by simp)) (fun u hu => by simp at hu; rcases hu with rfl | rfl <;> rfl) (by unfold maxLen; omega) (by omega) (by simp; omega) ?_; intro v' w1 hown1 hg _))
                first
                | (have hb3 := below_grown' hown (by repeat (first | exact hb2 | refine below_alloc ?_ _)) hg
                   go_roundw
                   case rel => exact ⟨k + 1, es ++ [(s.size, _)], by have := KK.out; omega, by go_num, by rw [bcells_snoc, List.length_append]; exact hown1, by rw [List.append_assoc, HDK.out, HC0.out]; refine Eq.trans ?_ HR.out; rw [HST.out]; first | (simp [mustB, wrapsB]; done) | (simp [mustB, wrapsB, e10]; done) | (simp [mustB, wrapsB, m0, m1, m3]; done) | (simp [mustB, wrapsB, e10, m0, m1, m3]; done), hb3⟩
                   case measure => have := KK.out; simp [intOf]; omega)
                | (go_roundw
                   case rel => exact ⟨k + 1, es, by have := KK.out; omega, by go_num, by exact (hown.alloc _), by rw [HDK.out, HC0.out]; refine Eq.trans ?_ HR.out; rw [HST.out]; first | (simp [mustB, wrapsB]; done) | (simp [mustB, wrapsB, e10]; done) | (simp [mustB, wrapsB, m0, m1, m3]; done) | (simp [mustB, wrapsB, e10, m0, m1, m3]; done), by repeat (first | exact hb2 | refine below_alloc ?_ _)⟩
                   case measure => have := KK.out; simp [intOf]; omega)
              · skip
                go_wp2_with (first | (go_at_call 48; refine (rkeeps2_calls _ _).mono ?_; rintro e w' ⟨rfl, rfl⟩) | (go_at_call 51; refine (HLE.out _).mono ?_; rintro e w' ⟨rfl, rfl⟩) | (go_at_call 52; refine (rother_calls _ _).mono ?_; rintro e w' ⟨rfl, rfl⟩) | (at_builtin; refine wpList_append_own _ rfl _ _ 29 rfl wo.heap.size 28 i0 (.agg #[.int .i64 0, .bool false]) 2 16 Try.underlying29 hi hz0 hz1 hz2 rfl (by decide) _ _ _ rfl ((hown.alloc _).alloc _) ⟨wr.heap.size + 1, 0, none⟩ 1 1 [.int .i64 s.size, .bool true] rfl rfl (cell_two_at _ _ _ _ _ (by simp)) (fun u hu => by simp at hu; rcases hu with rfl | rfl <;> rfl) (by unfold maxLen; omega) (by omega) (by simp; omega) ?_; intro v' w1 hown1 hg _) | (at_builtin; refine wpList_append_own _ rfl _ _ 29 rfl wo.heap.size 28 i0 (.agg #[.int .i64 0, .bool false]) 2 16 Try.underlying29 hi hz0 hz1 hz2 rfl (by decide) _ _ _ rfl ((hown.alloc _).alloc _) ⟨wr.heap.size + 1, 0, none⟩ 1 1 [.int .i64 s.size, .bool false] rfl rfl (cell_two_at _ _ _ _ _ (by simp)) (fun u hu => by simp at hu; rcases hu with rfl | rfl <;> rfl) (by unfold maxLen; omega) (by omega) (by simp; omega) ?_; intro v' w1 hown1 hg _))
                first
                | (have hb3 := below_grown' hown (by repeat (first | exact hb2 | refine below_alloc ?_ _)) hg
                   go_roundw
                   case rel => exact ⟨k + 1, es ++ [(s.size, _)], by have := KK.out; omega, by go_num, by rw [bcells_snoc, List.length_append]; exact hown1, by rw [List.append_assoc, HDK.out, HC0.out]; refine Eq.trans ?_ HR.out; rw [HST.out]; first | (simp [mustB, wrapsB]; done) | (simp [mustB, wrapsB, e10]; done) | (simp [mustB, wrapsB, m0, m1, m3]; done) | (simp [mustB, wrapsB, e10, m0, m1, m3]; done), hb3⟩
                   case measure => have := KK.out; simp [intOf]; omega)
                | (go_roundw
                   case rel => exact ⟨k + 1, es, by have := KK.out; omega, by go_num, by exact (hown.alloc _), by rw [HDK.out, HC0.out]; refine Eq.trans ?_ HR.out; rw [HST.out]; first | (simp [mustB, wrapsB]; done) | (simp [mustB, wrapsB, e10]; done) | (simp [mustB, wrapsB, m0, m1, m3]; done) | (simp [mustB, wrapsB, e10, m0, m1, m3]; done), by repeat (first | exact hb2 | refine below_alloc ?_ _)⟩
                   case measure => have := KK.out; simp [intOf]; omega)
          · have hk1 : k + 1 < ds.length := by omega
            obtain ⟨b', off', hA', hb', hc'⟩ := (HH.out.below hb2 (Nat.le_refl _)).flat (f := sgnF) 2 (fun _ => rfl) (by omega) (0, 0) hk1
            injection hA' with hA'
            injection hA' with hA1 hA2
            subst hA1 hA2
            have hdr2 := drop_at ds (k + 1) (0, 0) hk1
            rw [hdr2] at hdr
            rw [hdr] at HR
            obtain ⟨⟨p, a⟩, hx⟩ : ∃ x, x = ds.getD k (0, 0) := ⟨_, rfl⟩
            obtain ⟨⟨q, r⟩, hx2⟩ : ∃ x, x = ds.getD (k + 1) (0, 0) := ⟨_, rfl⟩
            rw [← hx] at hc HR
            rw [← hx2] at hc' HR
            rw [← hx2] at hdr2
            have c0 := hc 0 _ rfl
            have c1 := hc 1 _ rfl
            have hb0 := (Below.refl wr.heap.size wr).alloc (Nat.le_refl _) (.cells #[.int .i32 a, .int .i64 (p : Nat)] 79 )
            have d0 := (hb0.cell (p := ⟨b, off + (k + 1) * 2, none⟩) (by show b < _; omega)).trans (hc' 0 _ rfl)
            have d1 := (hb0.cell (p := ⟨b, off + (k + 1) * 2 + 1, none⟩) (by show b < _; omega)).trans (hc' 1 _ rfl)
            have HST := Lib.hid (HC2.out p a q r (ds.drop (k + 1 + 1)))
            have HDK := Lib.hid hdr2
            have hkl : ((k : Int) + 1 == (ds.length : Int)) = false := by simp; omega
            have hkl2 : (k : Int) + 1 < (ds.length : Int) := by omega
            have HLE := Lib.hid (fun w => rletter_calls r w)
            clear hc hc' hx hx2 hdr hdr2 hb0
            simp only [Nat.add_zero] at c0
            by_cases ha : a = 10
            · subst ha
              have hy : mayB 10 r = false := by simp [mayB, wideB, otherB]
              have ho : otherB 10 = false := rfl
              rw [hy] at HST
              clear hy
              rcases hm with rfl | rfl | rfl | ⟨m0, m1, m3⟩
              · skip
                by_cases hr : 4352 ≤ r
                · skip
                  go_wp2_with (first | (go_at_call 48; refine (rkeeps2_calls _ _).mono ?_; rintro e w' ⟨rfl, rfl⟩) | (go_at_call 51; refine (HLE.out _).mono ?_; rintro e w' ⟨rfl, rfl⟩) | (go_at_call 52; refine (rother_calls _ _).mono ?_; rintro e w' ⟨rfl, rfl⟩) | (at_builtin; refine wpList_append_own _ rfl _ _ 29 rfl wo.heap.size 28 i0 (.agg #[.int .i64 0, .bool false]) 2 16 Try.underlying29 hi hz0 hz1 hz2 rfl (by decide) _ _ _ rfl (((hown.alloc _).alloc _).alloc _) ⟨wr.heap.size + 1 + 1, 0, none⟩ 1 1 [.int .i64 q, .bool true] rfl rfl (cell_two_at _ _ _ _ _ (by simp)) (fun u hu => by simp at hu; rcases hu with rfl | rfl <;> rfl) (by unfold maxLen; omega) (by omega) (by simp; omega) ?_; intro v' w1 hown1 hg _) | (at_builtin; refine wpList_append_own _ rfl _ _ 29 rfl wo.heap.size 28 i0 (.agg #[.int .i64 0, .bool false]) 2 16 Try.underlying29 hi hz0 hz1 hz2 rfl (by decide) _ _ _ rfl (((hown.alloc _).alloc _).alloc _) ⟨wr.heap.size + 1 + 1, 0, none⟩ 1 1 [.int .i64 q, .bool false] rfl rfl (cell_two_at _ _ _ _ _ (by simp)) (fun u hu => by simp at hu; rcases hu with rfl | rfl <;> rfl) (by unfold maxLen; omega) (by omega) (by simp; omega) ?_; intro v' w1 hown1 hg _))
                  first
                  | (have hb3 := below_grown' hown (by repeat (first | exact hb2 | refine below_alloc ?_ _)) hg
                     go_roundw
                     case rel => exact ⟨k + 1, es ++ [(q, _)], by have := KK.out; omega, by go_num, by rw [bcells_snoc, List.length_append]; exact hown1, by rw [List.append_assoc, HDK.out]; refine Eq.trans ?_ HR.out; rw [HST.out]; first | (simp [mustB, wrapsB]; done) | (simp [mustB, wrapsB, e10]; done) | (simp [mustB, wrapsB, m0, m1, m3]; done) | (simp [mustB, wrapsB, e10, m0, m1, m3]; done), hb3⟩
                     case measure => have := KK.out; simp [intOf]; omega)
                  | (go_roundw
                     case rel => exact ⟨k + 1, es, by have := KK.out; omega, by go_num, by exact ((hown.alloc _).alloc _), by rw [HDK.out]; refine Eq.trans ?_ HR.out; rw [HST.out]; first | (simp [mustB, wrapsB]; done) | (simp [mustB, wrapsB, e10]; done) | (simp [mustB, wrapsB, m0, m1, m3]; done) | (simp [mustB, wrapsB, e10, m0, m1, m3]; done), by repeat (first | exact hb2 | refine below_alloc ?_ _)⟩
                     case measure => have := KK.out; simp [intOf]; omega)
                · have hr' : r < 4352 := by omega
                  go_wp2_with (first | (go_at_call 48; refine (rkeeps2_calls _ _).mono ?_; rintro e w' ⟨rfl, rfl⟩) | (go_at_call 51; refine (HLE.out _).mono ?_; rintro e w' ⟨rfl, rfl⟩) | (go_at_call 52; refine (rother_calls _ _).mono ?_; rintro e w' ⟨rfl, rfl⟩) | (at_builtin; refine wpList_append_own _ rfl _ _ 29 rfl wo.heap.size 28 i0 (.agg #[.int .i64 0, .bool false]) 2 16 Try.underlying29 hi hz0 hz1 hz2 rfl (by decide) _ _ _ rfl (((hown.alloc _).alloc _).alloc _) ⟨wr.heap.size + 1 + 1, 0, none⟩ 1 1 [.int .i64 q, .bool true] rfl rfl (cell_two_at _ _ _ _ _ (by simp)) (fun u hu => by simp at hu; rcases hu with rfl | rfl <;> rfl) (by unfold maxLen; omega) (by omega) (by simp; omega) ?_; intro v' w1 hown1 hg _) | (at_builtin; refine wpList_append_own _ rfl _ _ 29 rfl wo.heap.size 28 i0 (.agg #[.int .i64 0, .bool false]) 2 16 Try.underlying29 hi hz0 hz1 hz2 rfl (by decide) _ _ _ rfl (((hown.alloc _).alloc _).alloc _) ⟨wr.heap.size + 1 + 1, 0, none⟩ 1 1 [.int .i64 q, .bool false] rfl rfl (cell_two_at _ _ _ _ _ (by simp)) (fun u hu => by simp at hu; rcases hu with rfl | rfl <;> rfl) (by unfold maxLen; omega) (by omega) (by simp; omega) ?_; intro v' w1 hown1 hg _))
                  first
                  | (have hb3 := below_grown' hown (by repeat (first | exact hb2 | refine below_alloc ?_ _)) hg
                     go_roundw
                     case rel => exact ⟨k + 1, es ++ [(q, _)], by have := KK.out; omega, by go_num, by rw [bcells_snoc, List.length_append]; exact hown1, by rw [List.append_assoc, HDK.out]; refine Eq.trans ?_ HR.out; rw [HST.out]; first | (simp [mustB, wrapsB]; done) | (simp [mustB, wrapsB, e10]; done) | (simp [mustB, wrapsB, m0, m1, m3]; done) | (simp [mustB, wrapsB, e10, m0, m1, m3]; done), hb3⟩
                     case measure => have := KK.out; simp [intOf]; omega)
                  | (go_roundw
                     case rel => exact ⟨k + 1, es, by have := KK.out; omega, by go_num, by exact ((hown.alloc _).alloc _), by rw [HDK.out]; refine Eq.trans ?_ HR.out; rw [HST.out]; first | (simp [mustB, wrapsB]; done) | (simp [mustB, wrapsB, e10]; done) | (simp [mustB, wrapsB, m0, m1, m3]; done) | (simp [mustB, wrapsB, e10, m0, m1, m3]; done), by repeat (first | exact hb2 | refine below_alloc ?_ _)⟩
                     case measure => have := KK.out; simp [intOf]; omega)
              · skip
                go_wp2_with (first | (go_at_call 48; refine (rkeeps2_calls _ _).mono ?_; rintro e w' ⟨rfl, rfl⟩) | (go_at_call 51; refine (HLE.out _).mono ?_; rintro e w' ⟨rfl, rfl⟩) | (go_at_call 52; refine (rother_calls _ _).mono ?_; rintro e w' ⟨rfl, rfl⟩) | (at_builtin; refine wpList_append_own _ rfl _ _ 29 rfl wo.heap.size 28 i0 (.agg #[.int .i64 0, .bool false]) 2 16 Try.underlying29 hi hz0 hz1 hz2 rfl (by decide) _ _ _ rfl (((hown.alloc _).alloc _).alloc _) ⟨wr.heap.size + 1 + 1, 0, none⟩ 1 1 [.int .i64 q, .bool true] rfl rfl (cell_two_at _ _ _ _ _ (by simp)) (fun u hu => by simp at hu; rcases hu with rfl | rfl <;> rfl) (by unfold maxLen; omega) (by omega) (by simp; omega) ?_; intro v' w1 hown1 hg _) | (at_builtin; refine wpList_append_own _ rfl _ _ 29 rfl wo.heap.size 28 i0 (.agg #[.int .i64 0, .bool false]) 2 16 Try.underlying29 hi hz0 hz1 hz2 rfl (by decide) _ _ _ rfl (((hown.alloc _).alloc _).alloc _) ⟨wr.heap.size + 1 + 1, 0, none⟩ 1 1 [.int .i64 q, .bool false] rfl rfl (cell_two_at _ _ _ _ _ (by simp)) (fun u hu => by simp at hu; rcases hu with rfl | rfl <;> rfl) (by unfold maxLen; omega) (by omega) (by simp; omega) ?_; intro v' w1 hown1 hg _))
                first
                | (have hb3 := below_grown' hown (by repeat (first | exact hb2 | refine below_alloc ?_ _)) hg
                   go_roundw
                   case rel => exact ⟨k + 1, es ++ [(q, _)], by have := KK.out; omega, by go_num, by rw [bcells_snoc, List.length_append]; exact hown1, by rw [List.append_assoc, HDK.out]; refine Eq.trans ?_ HR.out; rw [HST.out]; first | (simp [mustB, wrapsB]; done) | (simp [mustB, wrapsB, e10]; done) | (simp [mustB, wrapsB, m0, m1, m3]; done) | (simp [mustB, wrapsB, e10, m0, m1, m3]; done), hb3⟩
                   case measure => have := KK.out; simp [intOf]; omega)
                | (go_roundw
                   case rel => exact ⟨k + 1, es, by have := KK.out; omega, by go_num, by exact ((hown.alloc _).alloc _), by rw [HDK.out]; refine Eq.trans ?_ HR.out; rw [HST.out]; first | (simp [mustB, wrapsB]; done) | (simp [mustB, wrapsB, e10]; done) | (simp [mustB, wrapsB, m0, m1, m3]; done) | (simp [mustB, wrapsB, e10, m0, m1, m3]; done), by repeat (first | exact hb2 | refine below_alloc ?_ _)⟩
                   case measure => have := KK.out; simp [intOf]; omega)
              · skip
                by_cases hr : 4352 ≤ r
                · skip
                  go_wp2_with (first | (go_at_call 48; refine (rkeeps2_calls _ _).mono ?_; rintro e w' ⟨rfl, rfl⟩) | (go_at_call 51; refine (HLE.out _).mono ?_; rintro e w' ⟨rfl, rfl⟩) | (go_at_call 52; refine (rother_calls _ _).mono ?_; rintro e w' ⟨rfl, rfl⟩) | (at_builtin; refine wpList_append_own _ rfl _ _ 29 rfl wo.heap.size 28 i0 (.agg #[.int .i64 0, .bool false]) 2 16 Try.underlying29 hi hz0 hz1 hz2 rfl (by decide) _ _ _ rfl (((hown.alloc _).alloc _).alloc _) ⟨wr.heap.size + 1 + 1, 0, none⟩ 1 1 [.int .i64 q, .bool true] rfl rfl (cell_two_at _ _ _ _ _ (by simp)) (fun u hu => by simp at hu; rcases hu with rfl | rfl <;> rfl) (by unfold maxLen; omega) (by omega) (by simp; omega) ?_; intro v' w1 hown1 hg _) | (at_builtin; refine wpList_append_own _ rfl _ _ 29 rfl wo.heap.size 28 i0 (.agg #[.int .i64 0, .bool false]) 2 16 Try.underlying29 hi hz0 hz1 hz2 rfl (by decide) _ _ _ rfl (((hown.alloc _).alloc _).alloc _) ⟨wr.heap.size + 1 + 1, 0, none⟩ 1 1 [.int .i64 q, .bool false] rfl rfl (cell_two_at _ _ _ _ _ (by simp)) (fun u hu => by simp at hu; rcases hu with rfl | rfl <;> rfl) (by unfold maxLen; omega) (by omega) (by simp; omega) ?_; intro v' w1 hown1 hg _))
                  first
                  | (have hb3 := below_grown' hown (by repeat (first | exact hb2 | refine below_alloc ?_ _)) hg
                     go_roundw
                     case rel => exact ⟨k + 1, es ++ [(q, _)], by have := KK.out; omega, by go_num, by rw [bcells_snoc, List.length_append]; exact hown1, by rw [List.append_assoc, HDK.out]; refine Eq.trans ?_ HR.out; rw [HST.out]; first | (simp [mustB, wrapsB]; done) | (simp [mustB, wrapsB, e10]; done) | (simp [mustB, wrapsB, m0, m1, m3]; done) | (simp [mustB, wrapsB, e10, m0, m1, m3]; done), hb3⟩
                     case measure => have := KK.out; simp [intOf]; omega)
                  | (go_roundw
                     case rel => exact ⟨k + 1, es, by have := KK.out; omega, by go_num, by exact ((hown.alloc _).alloc _), by rw [HDK.out]; refine Eq.trans ?_ HR.out; rw [HST.out]; first | (simp [mustB, wrapsB]; done) | (simp [mustB, wrapsB, e10]; done) | (simp [mustB, wrapsB, m0, m1, m3]; done) | (simp [mustB, wrapsB, e10, m0, m1, m3]; done), by repeat (first | exact hb2 | refine below_alloc ?_ _)⟩
                     case measure => have := KK.out; simp [intOf]; omega)
                · have hr' : r < 4352 := by omega
                  go_wp2_with (first | (go_at_call 48; refine (rkeeps2_calls _ _).mono ?_; rintro e w' ⟨rfl, rfl⟩) | (go_at_call 51; refine (HLE.out _).mono ?_; rintro e w' ⟨rfl, rfl⟩) | (go_at_call 52; refine (rother_calls _ _).mono ?_; rintro e w' ⟨rfl, rfl⟩) | (at_builtin; refine wpList_append_own _ rfl _ _ 29 rfl wo.heap.size 28 i0 (.agg #[.int .i64 0, .bool false]) 2 16 Try.underlying29 hi hz0 hz1 hz2 rfl (by decide) _ _ _ rfl (((hown.alloc _).alloc _).alloc _) ⟨wr.heap.size + 1 + 1, 0, none⟩ 1 1 [.int .i64 q, .bool true] rfl rfl (cell_two_at _ _ _ _ _ (by simp)) (fun u hu => by simp at hu; rcases hu with rfl | rfl <;> rfl) (by unfold maxLen; omega) (by omega) (by simp; omega) ?_; intro v' w1 hown1 hg _) | (at_builtin; refine wpList_append_own _ rfl _ _ 29 rfl wo.heap.size 28 i0 (.agg #[.int .i64 0, .bool false]) 2 16 Try.underlying29 hi hz0 hz1 hz2 rfl (by decide) _ _ _ rfl (((hown.alloc _).alloc _).alloc _) ⟨wr.heap.size + 1 + 1, 0, none⟩ 1 1 [.int .i64 q, .bool false] rfl rfl (cell_two_at _ _ _ _ _ (by simp)) (fun u hu => by simp at hu; rcases hu with rfl | rfl <;> rfl) (by unfold maxLen; omega) (by omega) (by simp; omega) ?_; intro v' w1 hown1 hg _))
                  first
                  | (have hb3 := below_grown' hown (by repeat (first | exact hb2 | refine below_alloc ?_ _)) hg
                     go_roundw
                     case rel => exact ⟨k + 1, es ++ [(q, _)], by have := KK.out; omega, by go_num, by rw [bcells_snoc, List.length_append]; exact hown1, by rw [List.append_assoc, HDK.out]; refine Eq.trans ?_ HR.out; rw [HST.out]; first | (simp [mustB, wrapsB]; done) | (simp [mustB, wrapsB, e10]; done) | (simp [mustB, wrapsB, m0, m1, m3]; done) | (simp [mustB, wrapsB, e10, m0, m1, m3]; done), hb3⟩
                     case measure => have := KK.out; simp [intOf]; omega)
                  | (go_roundw
                     case rel => exact ⟨k + 1, es, by have := KK.out; omega, by go_num, by exact ((hown.alloc _).alloc _), by rw [HDK.out]; refine Eq.trans ?_ HR.out; rw [HST.out]; first | (simp [mustB, wrapsB]; done) | (simp [mustB, wrapsB, e10]; done) | (simp [mustB, wrapsB, m0, m1, m3]; done) | (simp [mustB, wrapsB, e10, m0, m1, m3]; done), by repeat (first | exact hb2 | refine below_alloc ?_ _)⟩
                     case measure => have := KK.out; simp [intOf]; omega)
              · skip
                go_wp2_with (first | (go_at_call 48; refine (rkeeps2_calls _ _).mono ?_; rintro e w' ⟨rfl, rfl⟩) | (go_at_call 51; refine (HLE.out _).mono ?_; rintro e w' ⟨rfl, rfl⟩) | (go_at_call 52; refine (rother_calls _ _).mono ?_; rintro e w' ⟨rfl, rfl⟩) | (at_builtin; refine wpList_append_own _ rfl _ _ 29 rfl wo.heap.size 28 i0 (.agg #[.int .i64 0, .bool false]) 2 16 Try.underlying29 hi hz0 hz1 hz2 rfl (by decide) _ _ _ rfl (((hown.alloc _).alloc _).alloc _) ⟨wr.heap.size + 1 + 1, 0, none⟩ 1 1 [.int .i64 q, .bool true] rfl rfl (cell_two_at _ _ _ _ _ (by simp)) (fun u hu => by simp at hu; rcases hu with rfl | rfl <;> rfl) (by unfold maxLen; omega) (by omega) (by simp; omega) ?_; intro v' w1 hown1 hg _) | (at_builtin; refine wpList_append_own _ rfl _ _ 29 rfl wo.heap.size 28 i0 (.agg #[.int .i64 0, .bool false]) 2 16 Try.underlying29 hi hz0 hz1 hz2 rfl (by decide) _ _ _ rfl (((hown.alloc _).alloc _).alloc _) ⟨wr.heap.size + 1 + 1, 0, none⟩ 1 1 [.int .i64 q, .bool false] rfl rfl (cell_two_at _ _ _ _ _ (by simp)) (fun u hu => by simp at hu; rcases hu with rfl | rfl <;> rfl) (by unfold maxLen; omega) (by omega) (by simp; omega) ?_; intro v' w1 hown1 hg _))
                first
                | (have hb3 := below_grown' hown (by repeat (first | exact hb2 | refine below_alloc ?_ _)) hg
                   go_roundw
                   case rel => exact ⟨k + 1, es ++ [(q, _)], by have := KK.out; omega, by go_num, by rw [bcells_snoc, List.length_append]; exact hown1, by rw [List.append_assoc, HDK.out]; refine Eq.trans ?_ HR.out; rw [HST.out]; first | (simp [mustB, wrapsB]; done) | (simp [mustB, wrapsB, e10]; done) | (simp [mustB, wrapsB, m0, m1, m3]; done) | (simp [mustB, wrapsB, e10, m0, m1, m3]; done), hb3⟩
                   case measure => have := KK.out; simp [intOf]; omega)
                | (go_roundw
                   case rel => exact ⟨k + 1, es, by have := KK.out; omega, by go_num, by exact ((hown.alloc _).alloc _), by rw [HDK.out]; refine Eq.trans ?_ HR.out; rw [HST.out]; first | (simp [mustB, wrapsB]; done) | (simp [mustB, wrapsB, e10]; done) | (simp [mustB, wrapsB, m0, m1, m3]; done) | (simp [mustB, wrapsB, e10, m0, m1, m3]; done), by repeat (first | exact hb2 | refine below_alloc ?_ _)⟩
                   case measure => have := KK.out; simp [intOf]; omega)
            · have e10 : (a == 10) = false := by simpa using ha
              rcases hm with rfl | rfl | rfl | ⟨m0, m1, m3⟩
              · skip
                rcases ways a r with ⟨h1, h2, hy⟩ | ⟨h1, h2, hy⟩ | ⟨h1, h2, hy⟩ | ⟨h1, h2, hy, h4, h5⟩ | ⟨h1, h2, hy, h4⟩ | ⟨h1, h2, h3, h4, hy⟩ | ⟨h1, h2, h3, h4, h5, hy⟩ | ⟨h1, h2, h3, h4, h5, hy⟩ | ⟨h1, h2, h3, h4, h5, hy⟩ | ⟨h1, h2, h3, h4, hy⟩
                · rw [hy] at HST
                  have HY := Lib.hid hy
                  clear hy
                  have h2' : (r != 32) = true := by simpa using h2
                  subst h1
                  go_wp2_with (first | (go_at_call 48; refine (rkeeps2_calls _ _).mono ?_; rintro e w' ⟨rfl, rfl⟩) | (go_at_call 51; refine (HLE.out _).mono ?_; rintro e w' ⟨rfl, rfl⟩) | (go_at_call 52; refine (rother_calls _ _).mono ?_; rintro e w' ⟨rfl, rfl⟩) | (at_builtin; refine wpList_append_own _ rfl _ _ 29 rfl wo.heap.size 28 i0 (.agg #[.int .i64 0, .bool false]) 2 16 Try.underlying29 hi hz0 hz1 hz2 rfl (by decide) _ _ _ rfl (((hown.alloc _).alloc _).alloc _) ⟨wr.heap.size + 1 + 1, 0, none⟩ 1 1 [.int .i64 q, .bool true] rfl rfl (cell_two_at _ _ _ _ _ (by simp)) (fun u hu => by simp at hu; rcases hu with rfl | rfl <;> rfl) (by unfold maxLen; omega) (by omega) (by simp; omega) ?_; intro v' w1 hown1 hg _) | (at_builtin; refine wpList_append_own _ rfl _ _ 29 rfl wo.heap.size 28 i0 (.agg #[.int .i64 0, .bool false]) 2 16 Try.underlying29 hi hz0 hz1 hz2 rfl (by decide) _ _ _ rfl (((hown.alloc _).alloc _).alloc _) ⟨wr.heap.size + 1 + 1, 0, none⟩ 1 1 [.int .i64 q, .bool false] rfl rfl (cell_two_at _ _ _ _ _ (by simp)) (fun u hu => by simp at hu; rcases hu with rfl | rfl <;> rfl) (by unfold maxLen; omega) (by omega) (by simp; omega) ?_; intro v' w1 hown1 hg _))
                  first
                  | (have hb3 := below_grown' hown (by repeat (first | exact hb2 | refine below_alloc ?_ _)) hg
                     go_roundw
                     case rel => exact ⟨k + 1, es ++ [(q, _)], by have := KK.out; omega, by go_num, by rw [bcells_snoc, List.length_append]; exact hown1, by rw [List.append_assoc, HDK.out]; refine Eq.trans ?_ HR.out; rw [HST.out]; first | (simp [mustB, wrapsB]; done) | (simp [mustB, wrapsB, e10]; done) | (simp [mustB, wrapsB, m0, m1, m3]; done) | (simp [mustB, wrapsB, e10, m0, m1, m3]; done), hb3⟩
                     case measure => have := KK.out; simp [intOf]; omega)
                  | (go_roundw
                     case rel => exact ⟨k + 1, es, by have := KK.out; omega, by go_num, by exact ((hown.alloc _).alloc _), by rw [HDK.out]; refine Eq.trans ?_ HR.out; rw [HST.out]; first | (simp [mustB, wrapsB]; done) | (simp [mustB, wrapsB, e10]; done) | (simp [mustB, wrapsB, m0, m1, m3]; done) | (simp [mustB, wrapsB, e10, m0, m1, m3]; done), by repeat (first | exact hb2 | refine below_alloc ?_ _)⟩
                     case measure => have := KK.out; simp [intOf]; omega)
                · rw [hy] at HST
                  have HY := Lib.hid hy
                  clear hy
                  subst h1 h2
                  go_wp2_with (first | (go_at_call 48; refine (rkeeps2_calls _ _).mono ?_; rintro e w' ⟨rfl, rfl⟩) | (go_at_call 51; refine (HLE.out _).mono ?_; rintro e w' ⟨rfl, rfl⟩) | (go_at_call 52; refine (rother_calls _ _).mono ?_; rintro e w' ⟨rfl, rfl⟩) | (at_builtin; refine wpList_append_own _ rfl _ _ 29 rfl wo.heap.size 28 i0 (.agg #[.int .i64 0, .bool false]) 2 16 Try.underlying29 hi hz0 hz1 hz2 rfl (by decide) _ _ _ rfl (((hown.alloc _).alloc _).alloc _) ⟨wr.heap.size + 1 + 1, 0, none⟩ 1 1 [.int .i64 q, .bool true] rfl rfl (cell_two_at _ _ _ _ _ (by simp)) (fun u hu => by simp at hu; rcases hu with rfl | rfl <;> rfl) (by unfold maxLen; omega) (by omega) (by simp; omega) ?_; intro v' w1 hown1 hg _) | (at_builtin; refine wpList_append_own _ rfl _ _ 29 rfl wo.heap.size 28 i0 (.agg #[.int .i64 0, .bool false]) 2 16 Try.underlying29 hi hz0 hz1 hz2 rfl (by decide) _ _ _ rfl (((hown.alloc _).alloc _).alloc _) ⟨wr.heap.size + 1 + 1, 0, none⟩ 1 1 [.int .i64 q, .bool false] rfl rfl (cell_two_at _ _ _ _ _ (by simp)) (fun u hu => by simp at hu; rcases hu with rfl | rfl <;> rfl) (by unfold maxLen; omega) (by omega) (by simp; omega) ?_; intro v' w1 hown1 hg _))
                  first
                  | (have hb3 := below_grown' hown (by repeat (first | exact hb2 | refine below_alloc ?_ _)) hg
                     go_roundw
                     case rel => exact ⟨k + 1, es ++ [(q, _)], by have := KK.out; omega, by go_num, by rw [bcells_snoc, List.length_append]; exact hown1, by rw [List.append_assoc, HDK.out]; refine Eq.trans ?_ HR.out; rw [HST.out]; first | (simp [mustB, wrapsB]; done) | (simp [mustB, wrapsB, e10]; done) | (simp [mustB, wrapsB, m0, m1, m3]; done) | (simp [mustB, wrapsB, e10, m0, m1, m3]; done), hb3⟩
                     case measure => have := KK.out; simp [intOf]; omega)
                  | (go_roundw
                     case rel => exact ⟨k + 1, es, by have := KK.out; omega, by go_num, by exact ((hown.alloc _).alloc _), by rw [HDK.out]; refine Eq.trans ?_ HR.out; rw [HST.out]; first | (simp [mustB, wrapsB]; done) | (simp [mustB, wrapsB, e10]; done) | (simp [mustB, wrapsB, m0, m1, m3]; done) | (simp [mustB, wrapsB, e10, m0, m1, m3]; done), by repeat (first | exact hb2 | refine below_alloc ?_ _)⟩
                     case measure => have := KK.out; simp [intOf]; omega)
                · rw [hy] at HST
                  have HY := Lib.hid hy
                  clear hy
                  subst h1
                  go_wp2_with (first | (go_at_call 48; refine (rkeeps2_calls _ _).mono ?_; rintro e w' ⟨rfl, rfl⟩) | (go_at_call 51; refine (HLE.out _).mono ?_; rintro e w' ⟨rfl, rfl⟩) | (go_at_call 52; refine (rother_calls _ _).mono ?_; rintro e w' ⟨rfl, rfl⟩) | (at_builtin; refine wpList_append_own _ rfl _ _ 29 rfl wo.heap.size 28 i0 (.agg #[.int .i64 0, .bool false]) 2 16 Try.underlying29 hi hz0 hz1 hz2 rfl (by decide) _ _ _ rfl (((hown.alloc _).alloc _).alloc _) ⟨wr.heap.size + 1 + 1, 0, none⟩ 1 1 [.int .i64 q, .bool true] rfl rfl (cell_two_at _ _ _ _ _ (by simp)) (fun u hu => by simp at hu; rcases hu with rfl | rfl <;> rfl) (by unfold maxLen; omega) (by omega) (by simp; omega) ?_; intro v' w1 hown1 hg _) | (at_builtin; refine wpList_append_own _ rfl _ _ 29 rfl wo.heap.size 28 i0 (.agg #[.int .i64 0, .bool false]) 2 16 Try.underlying29 hi hz0 hz1 hz2 rfl (by decide) _ _ _ rfl (((hown.alloc _).alloc _).alloc _) ⟨wr.heap.size + 1 + 1, 0, none⟩ 1 1 [.int .i64 q, .bool false] rfl rfl (cell_two_at _ _ _ _ _ (by simp)) (fun u hu => by simp at hu; rcases hu with rfl | rfl <;> rfl) (by unfold maxLen; omega) (by omega) (by simp; omega) ?_; intro v' w1 hown1 hg _))
                  first
                  | (have hb3 := below_grown' hown (by repeat (first | exact hb2 | refine below_alloc ?_ _)) hg
                     go_roundw
                     case rel => exact ⟨k + 1, es ++ [(q, _)], by have := KK.out; omega, by go_num, by rw [bcells_snoc, List.length_append]; exact hown1, by rw [List.append_assoc, HDK.out]; refine Eq.trans ?_ HR.out; rw [HST.out]; first | (simp [mustB, wrapsB]; done) | (simp [mustB, wrapsB, e10]; done) | (simp [mustB, wrapsB, m0, m1, m3]; done) | (simp [mustB, wrapsB, e10, m0, m1, m3]; done), hb3⟩
                     case measure => have := KK.out; simp [intOf]; omega)
                  | (go_roundw
                     case rel => exact ⟨k + 1, es, by have := KK.out; omega, by go_num, by exact ((hown.alloc _).alloc _), by rw [HDK.out]; refine Eq.trans ?_ HR.out; rw [HST.out]; first | (simp [mustB, wrapsB]; done) | (simp [mustB, wrapsB, e10]; done) | (simp [mustB, wrapsB, m0, m1, m3]; done) | (simp [mustB, wrapsB, e10, m0, m1, m3]; done), by repeat (first | exact hb2 | refine below_alloc ?_ _)⟩
                     case measure => have := KK.out; simp [intOf]; omega)
                · rw [hy] at HST
                  have HY := Lib.hid hy
                  clear hy
                  subst h1
                  go_wp2_with (first | (go_at_call 48; refine (rkeeps2_calls _ _).mono ?_; rintro e w' ⟨rfl, rfl⟩) | (go_at_call 51; refine (HLE.out _).mono ?_; rintro e w' ⟨rfl, rfl⟩) | (go_at_call 52; refine (rother_calls _ _).mono ?_; rintro e w' ⟨rfl, rfl⟩) | (at_builtin; refine wpList_append_own _ rfl _ _ 29 rfl wo.heap.size 28 i0 (.agg #[.int .i64 0, .bool false]) 2 16 Try.underlying29 hi hz0 hz1 hz2 rfl (by decide) _ _ _ rfl (((hown.alloc _).alloc _).alloc _) ⟨wr.heap.size + 1 + 1, 0, none⟩ 1 1 [.int .i64 q, .bool true] rfl rfl (cell_two_at _ _ _ _ _ (by simp)) (fun u hu => by simp at hu; rcases hu with rfl | rfl <;> rfl) (by unfold maxLen; omega) (by omega) (by simp; omega) ?_; intro v' w1 hown1 hg _) | (at_builtin; refine wpList_append_own _ rfl _ _ 29 rfl wo.heap.size 28 i0 (.agg #[.int .i64 0, .bool false]) 2 16 Try.underlying29 hi hz0 hz1 hz2 rfl (by decide) _ _ _ rfl (((hown.alloc _).alloc _).alloc _) ⟨wr.heap.size + 1 + 1, 0, none⟩ 1 1 [.int .i64 q, .bool false] rfl rfl (cell_two_at _ _ _ _ _ (by simp)) (fun u hu => by simp at hu; rcases hu with rfl | rfl <;> rfl) (by unfold maxLen; omega) (by omega) (by simp; omega) ?_; intro v' w1 hown1 hg _))
                  first
                  | (have hb3 := below_grown' hown (by repeat (first | exact hb2 | refine below_alloc ?_ _)) hg
                     go_roundw
                     case rel => exact ⟨k + 1, es ++ [(q, _)], by have := KK.out; omega, by go_num, by rw [bcells_snoc, List.length_append]; exact hown1, by rw [List.append_assoc, HDK.out]; refine Eq.trans ?_ HR.out; rw [HST.out]; first | (simp [mustB, wrapsB]; done) | (simp [mustB, wrapsB, e10]; done) | (simp [mustB, wrapsB, m0, m1, m3]; done) | (simp [mustB, wrapsB, e10, m0, m1, m3]; done), hb3⟩
                     case measure => have := KK.out; simp [intOf]; omega)
                  | (go_roundw
                     case rel => exact ⟨k + 1, es, by have := KK.out; omega, by go_num, by exact ((hown.alloc _).alloc _), by rw [HDK.out]; refine Eq.trans ?_ HR.out; rw [HST.out]; first | (simp [mustB, wrapsB]; done) | (simp [mustB, wrapsB, e10]; done) | (simp [mustB, wrapsB, m0, m1, m3]; done) | (simp [mustB, wrapsB, e10, m0, m1, m3]; done), by repeat (first | exact hb2 | refine below_alloc ?_ _)⟩
                     case measure => have := KK.out; simp [intOf]; omega)
                · rw [hy] at HST
                  have HY := Lib.hid hy
                  clear hy
                  subst h1
                  go_wp2_with (first | (go_at_call 48; refine (rkeeps2_calls _ _).mono ?_; rintro e w' ⟨rfl, rfl⟩) | (go_at_call 51; refine (HLE.out _).mono ?_; rintro e w' ⟨rfl, rfl⟩) | (go_at_call 52; refine (rother_calls _ _).mono ?_; rintro e w' ⟨rfl, rfl⟩) | (at_builtin; refine wpList_append_own _ rfl _ _ 29 rfl wo.heap.size 28 i0 (.agg #[.int .i64 0, .bool false]) 2 16 Try.underlying29 hi hz0 hz1 hz2 rfl (by decide) _ _ _ rfl (((hown.alloc _).alloc _).alloc _) ⟨wr.heap.size + 1 + 1, 0, none⟩ 1 1 [.int .i64 q, .bool true] rfl rfl (cell_two_at _ _ _ _ _ (by simp)) (fun u hu => by simp at hu; rcases hu with rfl | rfl <;> rfl) (by unfold maxLen; omega) (by omega) (by simp; omega) ?_; intro v' w1 hown1 hg _) | (at_builtin; refine wpList_append_own _ rfl _ _ 29 rfl wo.heap.size 28 i0 (.agg #[.int .i64 0, .bool false]) 2 16 Try.underlying29 hi hz0 hz1 hz2 rfl (by decide) _ _ _ rfl (((hown.alloc _).alloc _).alloc _) ⟨wr.heap.size + 1 + 1, 0, none⟩ 1 1 [.int .i64 q, .bool false] rfl rfl (cell_two_at _ _ _ _ _ (by simp)) (fun u hu => by simp at hu; rcases hu with rfl | rfl <;> rfl) (by unfold maxLen; omega) (by omega) (by simp; omega) ?_; intro v' w1 hown1 hg _))
                  first
                  | (have hb3 := below_grown' hown (by repeat (first | exact hb2 | refine below_alloc ?_ _)) hg
                     go_roundw
                     case rel => exact ⟨k + 1, es ++ [(q, _)], by have := KK.out; omega, by go_num, by rw [bcells_snoc, List.length_append]; exact hown1, by rw [List.append_assoc, HDK.out]; refine Eq.trans ?_ HR.out; rw [HST.out]; first | (simp [mustB, wrapsB]; done) | (simp [mustB, wrapsB, e10]; done) | (simp [mustB, wrapsB, m0, m1, m3]; done) | (simp [mustB, wrapsB, e10, m0, m1, m3]; done), hb3⟩
                     case measure => have := KK.out; simp [intOf]; omega)
                  | (go_roundw
                     case rel => exact ⟨k + 1, es, by have := KK.out; omega, by go_num, by exact ((hown.alloc _).alloc _), by rw [HDK.out]; refine Eq.trans ?_ HR.out; rw [HST.out]; first | (simp [mustB, wrapsB]; done) | (simp [mustB, wrapsB, e10]; done) | (simp [mustB, wrapsB, m0, m1, m3]; done) | (simp [mustB, wrapsB, e10, m0, m1, m3]; done), by repeat (first | exact hb2 | refine below_alloc ?_ _)⟩
                     case measure => have := KK.out; simp [intOf]; omega)
                · rw [hy] at HST
                  have HY := Lib.hid hy
                  clear hy
                  go_wp2_with (first | (go_at_call 48; refine (rkeeps2_calls _ _).mono ?_; rintro e w' ⟨rfl, rfl⟩) | (go_at_call 51; refine (HLE.out _).mono ?_; rintro e w' ⟨rfl, rfl⟩) | (go_at_call 52; refine (rother_calls _ _).mono ?_; rintro e w' ⟨rfl, rfl⟩) | (at_builtin; refine wpList_append_own _ rfl _ _ 29 rfl wo.heap.size 28 i0 (.agg #[.int .i64 0, .bool false]) 2 16 Try.underlying29 hi hz0 hz1 hz2 rfl (by decide) _ _ _ rfl (((hown.alloc _).alloc _).alloc _) ⟨wr.heap.size + 1 + 1, 0, none⟩ 1 1 [.int .i64 q, .bool true] rfl rfl (cell_two_at _ _ _ _ _ (by simp)) (fun u hu => by simp at hu; rcases hu with rfl | rfl <;> rfl) (by unfold maxLen; omega) (by omega) (by simp; omega) ?_; intro v' w1 hown1 hg _) | (at_builtin; refine wpList_append_own _ rfl _ _ 29 rfl wo.heap.size 28 i0 (.agg #[.int .i64 0, .bool false]) 2 16 Try.underlying29 hi hz0 hz1 hz2 rfl (by decide) _ _ _ rfl (((hown.alloc _).alloc _).alloc _) ⟨wr.heap.size + 1 + 1, 0, none⟩ 1 1 [.int .i64 q, .bool false] rfl rfl (cell_two_at _ _ _ _ _ (by simp)) (fun u hu => by simp at hu; rcases hu with rfl | rfl <;> rfl) (by unfold maxLen; omega) (by omega) (by simp; omega) ?_; intro v' w1 hown1 hg _))
                  first
                  | (have hb3 := below_grown' hown (by repeat (first | exact hb2 | refine below_alloc ?_ _)) hg
                     go_roundw
                     case rel => exact ⟨k + 1, es ++ [(q, _)], by have := KK.out; omega, by go_num, by rw [bcells_snoc, List.length_append]; exact hown1, by rw [List.append_assoc, HDK.out]; refine Eq.trans ?_ HR.out; rw [HST.out]; first | (simp [mustB, wrapsB]; done) | (simp [mustB, wrapsB, e10]; done) | (simp [mustB, wrapsB, m0, m1, m3]; done) | (simp [mustB, wrapsB, e10, m0, m1, m3]; done), hb3⟩
                     case measure => have := KK.out; simp [intOf]; omega)
                  | (go_roundw
                     case rel => exact ⟨k + 1, es, by have := KK.out; omega, by go_num, by exact ((hown.alloc _).alloc _), by rw [HDK.out]; refine Eq.trans ?_ HR.out; rw [HST.out]; first | (simp [mustB, wrapsB]; done) | (simp [mustB, wrapsB, e10]; done) | (simp [mustB, wrapsB, m0, m1, m3]; done) | (simp [mustB, wrapsB, e10, m0, m1, m3]; done), by repeat (first | exact hb2 | refine below_alloc ?_ _)⟩
                     case measure => have := KK.out; simp [intOf]; omega)
                · rw [hy] at HST
                  have HY := Lib.hid hy
                  clear hy
                  go_wp2_with (first | (go_at_call 48; refine (rkeeps2_calls _ _).mono ?_; rintro e w' ⟨rfl, rfl⟩) | (go_at_call 51; refine (HLE.out _).mono ?_; rintro e w' ⟨rfl, rfl⟩) | (go_at_call 52; refine (rother_calls _ _).mono ?_; rintro e w' ⟨rfl, rfl⟩) | (at_builtin; refine wpList_append_own _ rfl _ _ 29 rfl wo.heap.size 28 i0 (.agg #[.int .i64 0, .bool false]) 2 16 Try.underlying29 hi hz0 hz1 hz2 rfl (by decide) _ _ _ rfl (((hown.alloc _).alloc _).alloc _) ⟨wr.heap.size + 1 + 1, 0, none⟩ 1 1 [.int .i64 q, .bool true] rfl rfl (cell_two_at _ _ _ _ _ (by simp)) (fun u hu => by simp at hu; rcases hu with rfl | rfl <;> rfl) (by unfold maxLen; omega) (by omega) (by simp; omega) ?_; intro v' w1 hown1 hg _) | (at_builtin; refine wpList_append_own _ rfl _ _ 29 rfl wo.heap.size 28 i0 (.agg #[.int .i64 0, .bool false]) 2 16 Try.underlying29 hi hz0 hz1 hz2 rfl (by decide) _ _ _ rfl (((hown.alloc _).alloc _).alloc _) ⟨wr.heap.size + 1 + 1, 0, none⟩ 1 1 [.int .i64 q, .bool false] rfl rfl (cell_two_at _ _ _ _ _ (by simp)) (fun u hu => by simp at hu; rcases hu with rfl | rfl <;> rfl) (by unfold maxLen; omega) (by omega) (by simp; omega) ?_; intro v' w1 hown1 hg _))
                  first
                  | (have hb3 := below_grown' hown (by repeat (first | exact hb2 | refine below_alloc ?_ _)) hg
                     go_roundw
                     case rel => exact ⟨k + 1, es ++ [(q, _)], by have := KK.out; omega, by go_num, by rw [bcells_snoc, List.length_append]; exact hown1, by rw [List.append_assoc, HDK.out]; refine Eq.trans ?_ HR.out; rw [HST.out]; first | (simp [mustB, wrapsB]; done) | (simp [mustB, wrapsB, e10]; done) | (simp [mustB, wrapsB, m0, m1, m3]; done) | (simp [mustB, wrapsB, e10, m0, m1, m3]; done), hb3⟩
                     case measure => have := KK.out; simp [intOf]; omega)
                  | (go_roundw
                     case rel => exact ⟨k + 1, es, by have := KK.out; omega, by go_num, by exact ((hown.alloc _).alloc _), by rw [HDK.out]; refine Eq.trans ?_ HR.out; rw [HST.out]; first | (simp [mustB, wrapsB]; done) | (simp [mustB, wrapsB, e10]; done) | (simp [mustB, wrapsB, m0, m1, m3]; done) | (simp [mustB, wrapsB, e10, m0, m1, m3]; done), by repeat (first | exact hb2 | refine below_alloc ?_ _)⟩
                     case measure => have := KK.out; simp [intOf]; omega)
                · rw [hy] at HST
                  have HY := Lib.hid hy
                  clear hy
                  go_wp2_with (first | (go_at_call 48; refine (rkeeps2_calls _ _).mono ?_; rintro e w' ⟨rfl, rfl⟩) | (go_at_call 51; refine (HLE.out _).mono ?_; rintro e w' ⟨rfl, rfl⟩) | (go_at_call 52; refine (rother_calls _ _).mono ?_; rintro e w' ⟨rfl, rfl⟩) | (at_builtin; refine wpList_append_own _ rfl _ _ 29 rfl wo.heap.size 28 i0 (.agg #[.int .i64 0, .bool false]) 2 16 Try.underlying29 hi hz0 hz1 hz2 rfl (by decide) _ _ _ rfl (((hown.alloc _).alloc _).alloc _) ⟨wr.heap.size + 1 + 1, 0, none⟩ 1 1 [.int .i64 q, .bool true] rfl rfl (cell_two_at _ _ _ _ _ (by simp)) (fun u hu => by simp at hu; rcases hu with rfl | rfl <;> rfl) (by unfold maxLen; omega) (by omega) (by simp; omega) ?_; intro v' w1 hown1 hg _) | (at_builtin; refine wpList_append_own _ rfl _ _ 29 rfl wo.heap.size 28 i0 (.agg #[.int .i64 0, .bool false]) 2 16 Try.underlying29 hi hz0 hz1 hz2 rfl (by decide) _ _ _ rfl (((hown.alloc _).alloc _).alloc _) ⟨wr.heap.size + 1 + 1, 0, none⟩ 1 1 [.int .i64 q, .bool false] rfl rfl (cell_two_at _ _ _ _ _ (by simp)) (fun u hu => by simp at hu; rcases hu with rfl | rfl <;> rfl) (by unfold maxLen; omega) (by omega) (by simp; omega) ?_; intro v' w1 hown1 hg _))
                  first
                  | (have hb3 := below_grown' hown (by repeat (first | exact hb2 | refine below_alloc ?_ _)) hg
                     go_roundw
                     case rel => exact ⟨k + 1, es ++ [(q, _)], by have := KK.out; omega, by go_num, by rw [bcells_snoc, List.length_append]; exact hown1, by rw [List.append_assoc, HDK.out]; refine Eq.trans ?_ HR.out; rw [HST.out]; first | (simp [mustB, wrapsB]; done) | (simp [mustB, wrapsB, e10]; done) | (simp [mustB, wrapsB, m0, m1, m3]; done) | (simp [mustB, wrapsB, e10, m0, m1, m3]; done), hb3⟩
                     case measure => have := KK.out; simp [intOf]; omega)
                  | (go_roundw
                     case rel => exact ⟨k + 1, es, by have := KK.out; omega, by go_num, by exact ((hown.alloc _).alloc _), by rw [HDK.out]; refine Eq.trans ?_ HR.out; rw [HST.out]; first | (simp [mustB, wrapsB]; done) | (simp [mustB, wrapsB, e10]; done) | (simp [mustB, wrapsB, m0, m1, m3]; done) | (simp [mustB, wrapsB, e10, m0, m1, m3]; done), by repeat (first | exact hb2 | refine below_alloc ?_ _)⟩
                     case measure => have := KK.out; simp [intOf]; omega)
                · rw [hy] at HST
                  have HY := Lib.hid hy
                  clear hy
                  go_wp2_with (first | (go_at_call 48; refine (rkeeps2_calls _ _).mono ?_; rintro e w' ⟨rfl, rfl⟩) | (go_at_call 51; refine (HLE.out _).mono ?_; rintro e w' ⟨rfl, rfl⟩) | (go_at_call 52; refine (rother_calls _ _).mono ?_; rintro e w' ⟨rfl, rfl⟩) | (at_builtin; refine wpList_append_own _ rfl _ _ 29 rfl wo.heap.size 28 i0 (.agg #[.int .i64 0, .bool false]) 2 16 Try.underlying29 hi hz0 hz1 hz2 rfl (by decide) _ _ _ rfl (((hown.alloc _).alloc _).alloc _) ⟨wr.heap.size + 1 + 1, 0, none⟩ 1 1 [.int .i64 q, .bool true] rfl rfl (cell_two_at _ _ _ _ _ (by simp)) (fun u hu => by simp at hu; rcases hu with rfl | rfl <;> rfl) (by unfold maxLen; omega) (by omega) (by simp; omega) ?_; intro v' w1 hown1 hg _) | (at_builtin; refine wpList_append_own _ rfl _ _ 29 rfl wo.heap.size 28 i0 (.agg #[.int .i64 0, .bool false]) 2 16 Try.underlying29 hi hz0 hz1 hz2 rfl (by decide) _ _ _ rfl (((hown.alloc _).alloc _).alloc _) ⟨wr.heap.size + 1 + 1, 0, none⟩ 1 1 [.int .i64 q, .bool false] rfl rfl (cell_two_at _ _ _ _ _ (by simp)) (fun u hu => by simp at hu; rcases hu with rfl | rfl <;> rfl) (by unfold maxLen; omega) (by omega) (by simp; omega) ?_; intro v' w1 hown1 hg _))
                  first
                  | (have hb3 := below_grown' hown (by repeat (first | exact hb2 | refine below_alloc ?_ _)) hg
                     go_roundw
                     case rel => exact ⟨k + 1, es ++ [(q, _)], by have := KK.out; omega, by go_num, by rw [bcells_snoc, List.length_append]; exact hown1, by rw [List.append_assoc, HDK.out]; refine Eq.trans ?_ HR.out; rw [HST.out]; first | (simp [mustB, wrapsB]; done) | (simp [mustB, wrapsB, e10]; done) | (simp [mustB, wrapsB, m0, m1, m3]; done) | (simp [mustB, wrapsB, e10, m0, m1, m3]; done), hb3⟩
                     case measure => have := KK.out; simp [intOf]; omega)
                  | (go_roundw
                     case rel => exact ⟨k + 1, es, by have := KK.out; omega, by go_num, by exact ((hown.alloc _).alloc _), by rw [HDK.out]; refine Eq.trans ?_ HR.out; rw [HST.out]; first | (simp [mustB, wrapsB]; done) | (simp [mustB, wrapsB, e10]; done) | (simp [mustB, wrapsB, m0, m1, m3]; done) | (simp [mustB, wrapsB, e10, m0, m1, m3]; done), by repeat (first | exact hb2 | refine below_alloc ?_ _)⟩
                     case measure => have := KK.out; simp [intOf]; omega)
                · rw [hy] at HST
                  have HY := Lib.hid hy
                  clear hy
                  go_wp2_with (first | (go_at_call 48; refine (rkeeps2_calls _ _).mono ?_; rintro e w' ⟨rfl, rfl⟩) | (go_at_call 51; refine (HLE.out _).mono ?_; rintro e w' ⟨rfl, rfl⟩) | (go_at_call 52; refine (rother_calls _ _).mono ?_; rintro e w' ⟨rfl, rfl⟩) | (at_builtin; refine wpList_append_own _ rfl _ _ 29 rfl wo.heap.size 28 i0 (.agg #[.int .i64 0, .bool false]) 2 16 Try.underlying29 hi hz0 hz1 hz2 rfl (by decide) _ _ _ rfl (((hown.alloc _).alloc _).alloc _) ⟨wr.heap.size + 1 + 1, 0, none⟩ 1 1 [.int .i64 q, .bool true] rfl rfl (cell_two_at _ _ _ _ _ (by simp)) (fun u hu => by simp at hu; rcases hu with rfl | rfl <;> rfl) (by unfold maxLen; omega) (by omega) (by simp; omega) ?_; intro v' w1 hown1 hg _) | (at_builtin; refine wpList_append_own _ rfl _ _ 29 rfl wo.heap.size 28 i0 (.agg #[.int .i64 0, .bool false]) 2 16 Try.underlying29 hi hz0 hz1 hz2 rfl (by decide) _ _ _ rfl (((hown.alloc _).alloc _).alloc _) ⟨wr.heap.size + 1 + 1, 0, none⟩ 1 1 [.int .i64 q, .bool false] rfl rfl (cell_two_at _ _ _ _ _ (by simp)) (fun u hu => by simp at hu; rcases hu with rfl | rfl <;> rfl) (by unfold maxLen; omega) (by omega) (by simp; omega) ?_; intro v' w1 hown1 hg _))
                  first
                  | (have hb3 := below_grown' hown (by repeat (first | exact hb2 | refine below_alloc ?_ _)) hg
                     go_roundw
                     case rel => exact ⟨k + 1, es ++ [(q, _)], by have := KK.out; omega, by go_num, by rw [bcells_snoc, List.length_append]; exact hown1, by rw [List.append_assoc, HDK.out]; refine Eq.trans ?_ HR.out; rw [HST.out]; first | (simp [mustB, wrapsB]; done) | (simp [mustB, wrapsB, e10]; done) | (simp [mustB, wrapsB, m0, m1, m3]; done) | (simp [mustB, wrapsB, e10, m0, m1, m3]; done), hb3⟩
                     case measure => have := KK.out; simp [intOf]; omega)
                  | (go_roundw
                     case rel => exact ⟨k + 1, es, by have := KK.out; omega, by go_num, by exact ((hown.alloc _).alloc _), by rw [HDK.out]; refine Eq.trans ?_ HR.out; rw [HST.out]; first | (simp [mustB, wrapsB]; done) | (simp [mustB, wrapsB, e10]; done) | (simp [mustB, wrapsB, m0, m1, m3]; done) | (simp [mustB, wrapsB, e10, m0, m1, m3]; done), by repeat (first | exact hb2 | refine below_alloc ?_ _)⟩
                     case measure => have := KK.out; simp [intOf]; omega)
              · skip
                go_wp2_with (first | (go_at_call 48; refine (rkeeps2_calls _ _).mono ?_; rintro e w' ⟨rfl, rfl⟩) | (go_at_call 51; refine (HLE.out _).mono ?_; rintro e w' ⟨rfl, rfl⟩) | (go_at_call 52; refine (rother_calls _ _).mono ?_; rintro e w' ⟨rfl, rfl⟩) | (at_builtin; refine wpList_append_own _ rfl _ _ 29 rfl wo.heap.size 28 i0 (.agg #[.int .i64 0, .bool false]) 2 16 Try.underlying29 hi hz0 hz1 hz2 rfl (by decide) _ _ _ rfl (((hown.alloc _).alloc _).alloc _) ⟨wr.heap.size + 1 + 1, 0, none⟩ 1 1 [.int .i64 q, .bool true] rfl rfl (cell_two_at _ _ _ _ _ (by simp)) (fun u hu => by simp at hu; rcases hu with rfl | rfl <;> rfl) (by unfold maxLen; omega) (by omega) (by simp; omega) ?_; intro v' w1 hown1 hg _) | (at_builtin; refine wpList_append_own _ rfl _ _ 29 rfl wo.heap.size 28 i0 (.agg #[.int .i64 0, .bool false]) 2 16 Try.underlying29 hi hz0 hz1 hz2 rfl (by decide) _ _ _ rfl (((hown.alloc _).alloc _).alloc _) ⟨wr.heap.size + 1 + 1, 0, none⟩ 1 1 [.int .i64 q, .bool false] rfl rfl (cell_two_at _ _ _ _ _ (by simp)) (fun u hu => by simp at hu; rcases hu with rfl | rfl <;> rfl) (by unfold maxLen; omega) (by omega) (by simp; omega) ?_; intro v' w1 hown1 hg _))
                first
                | (have hb3 := below_grown' hown (by repeat (first | exact hb2 | refine below_alloc ?_ _)) hg
                   go_roundw
                   case rel => exact ⟨k + 1, es ++ [(q, _)], by have := KK.out; omega, by go_num, by rw [bcells_snoc, List.length_append]; exact hown1, by rw [List.append_assoc, HDK.out]; refine Eq.trans ?_ HR.out; rw [HST.out]; first | (simp [mustB, wrapsB]; done) | (simp [mustB, wrapsB, e10]; done) | (simp [mustB, wrapsB, m0, m1, m3]; done) | (simp [mustB, wrapsB, e10, m0, m1, m3]; done), hb3⟩
                   case measure => have := KK.out; simp [intOf]; omega)
                | (go_roundw
                   case rel => exact ⟨k + 1, es, by have := KK.out; omega, by go_num, by exact ((hown.alloc _).alloc _), by rw [HDK.out]; refine Eq.trans ?_ HR.out; rw [HST.out]; first | (simp [mustB, wrapsB]; done) | (simp [mustB, wrapsB, e10]; done) | (simp [mustB, wrapsB, m0, m1, m3]; done) | (simp [mustB, wrapsB, e10, m0, m1, m3]; done), by repeat (first | exact hb2 | refine below_alloc ?_ _)⟩
                   case measure => have := KK.out; simp [intOf]; omega)
              · skip
                rcases ways a r with ⟨h1, h2, hy⟩ | ⟨h1, h2, hy⟩ | ⟨h1, h2, hy⟩ | ⟨h1, h2, hy, h4, h5⟩ | ⟨h1, h2, hy, h4⟩ | ⟨h1, h2, h3, h4, hy⟩ | ⟨h1, h2, h3, h4, h5, hy⟩ | ⟨h1, h2, h3, h4, h5, hy⟩ | ⟨h1, h2, h3, h4, h5, hy⟩ | ⟨h1, h2, h3, h4, hy⟩
                · rw [hy] at HST
                  have HY := Lib.hid hy
                  clear hy
                  have h2' : (r != 32) = true := by simpa using h2
                  subst h1
                  go_wp2_with (first | (go_at_call 48; refine (rkeeps2_calls _ _).mono ?_; rintro e w' ⟨rfl, rfl⟩) | (go_at_call 51; refine (HLE.out _).mono ?_; rintro e w' ⟨rfl, rfl⟩) | (go_at_call 52; refine (rother_calls _ _).mono ?_; rintro e w' ⟨rfl, rfl⟩) | (at_builtin; refine wpList_append_own _ rfl _ _ 29 rfl wo.heap.size 28 i0 (.agg #[.int .i64 0, .bool false]) 2 16 Try.underlying29 hi hz0 hz1 hz2 rfl (by decide) _ _ _ rfl (((hown.alloc _).alloc _).alloc _) ⟨wr.heap.size + 1 + 1, 0, none⟩ 1 1 [.int .i64 q, .bool true] rfl rfl (cell_two_at _ _ _ _ _ (by simp)) (fun u hu => by simp at hu; rcases hu with rfl | rfl <;> rfl) (by unfold maxLen; omega) (by omega) (by simp; omega) ?_; intro v' w1 hown1 hg _) | (at_builtin; refine wpList_append_own _ rfl _ _ 29 rfl wo.heap.size 28 i0 (.agg #[.int .i64 0, .bool false]) 2 16 Try.underlying29 hi hz0 hz1 hz2 rfl (by decide) _ _ _ rfl (((hown.alloc _).alloc _).alloc _) ⟨wr.heap.size + 1 + 1, 0, none⟩ 1 1 [.int .i64 q, .bool false] rfl rfl (cell_two_at _ _ _ _ _ (by simp)) (fun u hu => by simp at hu; rcases hu with rfl | rfl <;> rfl) (by unfold maxLen; omega) (by omega) (by simp; omega) ?_; intro v' w1 hown1 hg _))
                  first
                  | (have hb3 := below_grown' hown (by repeat (first | exact hb2 | refine below_alloc ?_ _)) hg
                     go_roundw
                     case rel => exact ⟨k + 1, es ++ [(q, _)], by have := KK.out; omega, by go_num, by rw [bcells_snoc, List.length_append]; exact hown1, by rw [List.append_assoc, HDK.out]; refine Eq.trans ?_ HR.out; rw [HST.out]; first | (simp [mustB, wrapsB]; done) | (simp [mustB, wrapsB, e10]; done) | (simp [mustB, wrapsB, m0, m1, m3]; done) | (simp [mustB, wrapsB, e10, m0, m1, m3]; done), hb3⟩
                     case measure => have := KK.out; simp [intOf]; omega)
                  | (go_roundw
                     case rel => exact ⟨k + 1, es, by have := KK.out; omega, by go_num, by exact ((hown.alloc _).alloc _), by rw [HDK.out]; refine Eq.trans ?_ HR.out; rw [HST.out]; first | (simp [mustB, wrapsB]; done) | (simp [mustB, wrapsB, e10]; done) | (simp [mustB, wrapsB, m0, m1, m3]; done) | (simp [mustB, wrapsB, e10, m0, m1, m3]; done), by repeat (first | exact hb2 | refine below_alloc ?_ _)⟩
                     case measure => have := KK.out; simp [intOf]; omega)
                · rw [hy] at HST
                  have HY := Lib.hid hy
                  clear hy
                  subst h1 h2
                  go_wp2_with (first | (go_at_call 48; refine (rkeeps2_calls _ _).mono ?_; rintro e w' ⟨rfl, rfl⟩) | (go_at_call 51; refine (HLE.out _).mono ?_; rintro e w' ⟨rfl, rfl⟩) | (go_at_call 52; refine (rother_calls _ _).mono ?_; rintro e w' ⟨rfl, rfl⟩) | (at_builtin; refine wpList_append_own _ rfl _ _ 29 rfl wo.heap.size 28 i0 (.agg #[.int .i64 0, .bool false]) 2 16 Try.underlying29 hi hz0 hz1 hz2 rfl (by decide) _ _ _ rfl (((hown.alloc _).alloc _).alloc _) ⟨wr.heap.size + 1 + 1, 0, none⟩ 1 1 [.int .i64 q, .bool true] rfl rfl (cell_two_at _ _ _ _ _ (by simp)) (fun u hu => by simp at hu; rcases hu with rfl | rfl <;> rfl) (by unfold maxLen; omega) (by omega) (by simp; omega) ?_; intro v' w1 hown1 hg _) | (at_builtin; refine wpList_append_own _ rfl _ _ 29 rfl wo.heap.size 28 i0 (.agg #[.int .i64 0, .bool false]) 2 16 Try.underlying29 hi hz0 hz1 hz2 rfl (by decide) _ _ _ rfl (((hown.alloc _).alloc _).alloc _) ⟨wr.heap.size + 1 + 1, 0, none⟩ 1 1 [.int .i64 q, .bool false] rfl rfl (cell_two_at _ _ _ _ _ (by simp)) (fun u hu => by simp at hu; rcases hu with rfl | rfl <;> rfl) (by unfold maxLen; omega) (by omega) (by simp; omega) ?_; intro v' w1 hown1 hg _))
                  first
                  | (have hb3 := below_grown' hown (by repeat (first | exact hb2 | refine below_alloc ?_ _)) hg
                     go_roundw
                     case rel => exact ⟨k + 1, es ++ [(q, _)], by have := KK.out; omega, by go_num, by rw [bcells_snoc, List.length_append]; exact hown1, by rw [List.append_assoc, HDK.out]; refine Eq.trans ?_ HR.out; rw [HST.out]; first | (simp [mustB, wrapsB]; done) | (simp [mustB, wrapsB, e10]; done) | (simp [mustB, wrapsB, m0, m1, m3]; done) | (simp [mustB, wrapsB, e10, m0, m1, m3]; done), hb3⟩
                     case measure => have := KK.out; simp [intOf]; omega)
                  | (go_roundw
                     case rel => exact ⟨k + 1, es, by have := KK.out; omega, by go_num, by exact ((hown.alloc _).alloc _), by rw [HDK.out]; refine Eq.trans ?_ HR.out; rw [HST.out]; first | (simp [mustB, wrapsB]; done) | (simp [mustB, wrapsB, e10]; done) | (simp [mustB, wrapsB, m0, m1, m3]; done) | (simp [mustB, wrapsB, e10, m0, m1, m3]; done), by repeat (first | exact hb2 | refine below_alloc ?_ _)⟩
                     case measure => have := KK.out; simp [intOf]; omega)
                · rw [hy] at HST
                  have HY := Lib.hid hy
                  clear hy
                  subst h1
                  go_wp2_with (first | (go_at_call 48; refine (rkeeps2_calls _ _).mono ?_; rintro e w' ⟨rfl, rfl⟩) | (go_at_call 51; refine (HLE.out _).mono ?_; rintro e w' ⟨rfl, rfl⟩) | (go_at_call 52; refine (rother_calls _ _).mono ?_; rintro e w' ⟨rfl, rfl⟩) | (at_builtin; refine wpList_append_own _ rfl _ _ 29 rfl wo.heap.size 28 i0 (.agg #[.int .i64 0, .bool false]) 2 16 Try.underlying29 hi hz0 hz1 hz2 rfl (by decide) _ _ _ rfl (((hown.alloc _).alloc _).alloc _) ⟨wr.heap.size + 1 + 1, 0, none⟩ 1 1 [.int .i64 q, .bool true] rfl rfl (cell_two_at _ _ _ _ _ (by simp)) (fun u hu => by simp at hu; rcases hu with rfl | rfl <;> rfl) (by unfold maxLen; omega) (by omega) (by simp; omega) ?_; intro v' w1 hown1 hg _) | (at_builtin; refine wpList_append_own _ rfl _ _ 29 rfl wo.heap.size 28 i0 (.agg #[.int .i64 0, .bool false]) 2 16 Try.underlying29 hi hz0 hz1 hz2 rfl (by decide) _ _ _ rfl (((hown.alloc _).alloc _).alloc _) ⟨wr.heap.size + 1 + 1, 0, none⟩ 1 1 [.int .i64 q, .bool false] rfl rfl (cell_two_at _ _ _ _ _ (by simp)) (fun u hu => by simp at hu; rcases hu with rfl | rfl <;> rfl) (by unfold maxLen; omega) (by omega) (by simp; omega) ?_; intro v' w1 hown1 hg _))
                  first
                  | (have hb3 := below_grown' hown (by repeat (first | exact hb2 | refine below_alloc ?_ _)) hg
                     go_roundw
                     case rel => exact ⟨k + 1, es ++ [(q, _)], by have := KK.out; omega, by go_num, by rw [bcells_snoc, List.length_append]; exact hown1, by rw [List.append_assoc, HDK.out]; refine Eq.trans ?_ HR.out; rw [HST.out]; first | (simp [mustB, wrapsB]; done) | (simp [mustB, wrapsB, e10]; done) | (simp [mustB, wrapsB, m0, m1, m3]; done) | (simp [mustB, wrapsB, e10, m0, m1, m3]; done), hb3⟩
                     case measure => have := KK.out; simp [intOf]; omega)
                  | (go_roundw
                     case rel => exact ⟨k + 1, es, by have := KK.out; omega, by go_num, by exact ((hown.alloc _).alloc _), by rw [HDK.out]; refine Eq.trans ?_ HR.out; rw [HST.out]; first | (simp [mustB, wrapsB]; done) | (simp [mustB, wrapsB, e10]; done) | (simp [mustB, wrapsB, m0, m1, m3]; done) | (simp [mustB, wrapsB, e10, m0, m1, m3]; done), by repeat (first | exact hb2 | refine below_alloc ?_ _)⟩
                     case measure => have := KK.out; simp [intOf]; omega)
                · rw [hy] at HST
                  have HY := Lib.hid hy
                  clear hy
                  subst h1
                  go_wp2_with (first | (go_at_call 48; refine (rkeeps2_calls _ _).mono ?_; rintro e w' ⟨rfl, rfl⟩) | (go_at_call 51; refine (HLE.out _).mono ?_; rintro e w' ⟨rfl, rfl⟩) | (go_at_call 52; refine (rother_calls _ _).mono ?_; rintro e w' ⟨rfl, rfl⟩) | (at_builtin; refine wpList_append_own _ rfl _ _ 29 rfl wo.heap.size 28 i0 (.agg #[.int .i64 0, .bool false]) 2 16 Try.underlying29 hi hz0 hz1 hz2 rfl (by decide) _ _ _ rfl (((hown.alloc _).alloc _).alloc _) ⟨wr.heap.size + 1 + 1, 0, none⟩ 1 1 [.int .i64 q, .bool true] rfl rfl (cell_two_at _ _ _ _ _ (by simp)) (fun u hu => by simp at hu; rcases hu with rfl | rfl <;> rfl) (by unfold maxLen; omega) (by omega) (by simp; omega) ?_; intro v' w1 hown1 hg _) | (at_builtin; refine wpList_append_own _ rfl _ _ 29 rfl wo.heap.size 28 i0 (.agg #[.int .i64 0, .bool false]) 2 16 Try.underlying29 hi hz0 hz1 hz2 rfl (by decide) _ _ _ rfl (((hown.alloc _).alloc _).alloc _) ⟨wr.heap.size + 1 + 1, 0, none⟩ 1 1 [.int .i64 q, .bool false] rfl rfl (cell_two_at _ _ _ _ _ (by simp)) (fun u hu => by simp at hu; rcases hu with rfl | rfl <;> rfl) (by unfold maxLen; omega) (by omega) (by simp; omega) ?_; intro v' w1 hown1 hg _))
                  first
                  | (have hb3 := below_grown' hown (by repeat (first | exact hb2 | refine below_alloc ?_ _)) hg
                     go_roundw
                     case rel => exact ⟨k + 1, es ++ [(q, _)], by have := KK.out; omega, by go_num, by rw [bcells_snoc, List.length_append]; exact hown1, by rw [List.append_assoc, HDK.out]; refine Eq.trans ?_ HR.out; rw [HST.out]; first | (simp [mustB, wrapsB]; done) | (simp [mustB, wrapsB, e10]; done) | (simp [mustB, wrapsB, m0, m1, m3]; done) | (simp [mustB, wrapsB, e10, m0, m1, m3]; done), hb3⟩
                     case measure => have := KK.out; simp [intOf]; omega)
                  | (go_roundw
                     case rel => exact ⟨k + 1, es, by have := KK.out; omega, by go_num, by exact ((hown.alloc _).alloc _), by rw [HDK.out]; refine Eq.trans ?_ HR.out; rw [HST.out]; first | (simp [mustB, wrapsB]; done) | (simp [mustB, wrapsB, e10]; done) | (simp [mustB, wrapsB, m0, m1, m3]; done) | (simp [mustB, wrapsB, e10, m0, m1, m3]; done), by repeat (first | exact hb2 | refine below_alloc ?_ _)⟩
                     case measure => have := KK.out; simp [intOf]; omega)
                · rw [hy] at HST
                  have HY := Lib.hid hy
                  clear hy
                  subst h1
                  go_wp2_with (first | (go_at_call 48; refine (rkeeps2_calls _ _).mono ?_; rintro e w' ⟨rfl, rfl⟩) | (go_at_call 51; refine (HLE.out _).mono ?_; rintro e w' ⟨rfl, rfl⟩) | (go_at_call 52; refine (rother_calls _ _).mono ?_; rintro e w' ⟨rfl, rfl⟩) | (at_builtin; refine wpList_append_own _ rfl _ _ 29 rfl wo.heap.size 28 i0 (.agg #[.int .i64 0, .bool false]) 2 16 Try.underlying29 hi hz0 hz1 hz2 rfl (by decide) _ _ _ rfl (((hown.alloc _).alloc _).alloc _) ⟨wr.heap.size + 1 + 1, 0, none⟩ 1 1 [.int .i64 q, .bool true] rfl rfl (cell_two_at _ _ _ _ _ (by simp)) (fun u hu => by simp at hu; rcases hu with rfl | rfl <;> rfl) (by unfold maxLen; omega) (by omega) (by simp; omega) ?_; intro v' w1 hown1 hg _) | (at_builtin; refine wpList_append_own _ rfl _ _ 29 rfl wo.heap.size 28 i0 (.agg #[.int .i64 0, .bool false]) 2 16 Try.underlying29 hi hz0 hz1 hz2 rfl (by decide) _ _ _ rfl (((hown.alloc _).alloc _).alloc _) ⟨wr.heap.size + 1 + 1, 0, none⟩ 1 1 [.int .i64 q, .bool false] rfl rfl (cell_two_at _ _ _ _ _ (by simp)) (fun u hu => by simp at hu; rcases hu with rfl | rfl <;> rfl) (by unfold maxLen; omega) (by omega) (by simp; omega) ?_; intro v' w1 hown1 hg _))
                  first
                  | (have hb3 := below_grown' hown (by repeat (first | exact hb2 | refine below_alloc ?_ _)) hg
                     go_roundw
                     case rel => exact ⟨k + 1, es ++ [(q, _)], by have := KK.out; omega, by go_num, by rw [bcells_snoc, List.length_append]; exact hown1, by rw [List.append_assoc, HDK.out]; refine Eq.trans ?_ HR.out; rw [HST.out]; first | (simp [mustB, wrapsB]; done) | (simp [mustB, wrapsB, e10]; done) | (simp [mustB, wrapsB, m0, m1, m3]; done) | (simp [mustB, wrapsB, e10, m0, m1, m3]; done), hb3⟩
                     case measure => have := KK.out; simp [intOf]; omega)
                  | (go_roundw
                     case rel => exact ⟨k + 1, es, by have := KK.out; omega, by go_num, by exact ((hown.alloc _).alloc _), by rw [HDK.out]; refine Eq.trans ?_ HR.out; rw [HST.out]; first | (simp [mustB, wrapsB]; done) | (simp [mustB, wrapsB, e10]; done) | (simp [mustB, wrapsB, m0, m1, m3]; done) | (simp [mustB, wrapsB, e10, m0, m1, m3]; done), by repeat (first | exact hb2 | refine below_alloc ?_ _)⟩
                     case measure => have := KK.out; simp [intOf]; omega)
                · rw [hy] at HST
                  have HY := Lib.hid hy
                  clear hy
                  go_wp2_with (first | (go_at_call 48; refine (rkeeps2_calls _ _).mono ?_; rintro e w' ⟨rfl, rfl⟩) | (go_at_call 51; refine (HLE.out _).mono ?_; rintro e w' ⟨rfl, rfl⟩) | (go_at_call 52; refine (rother_calls _ _).mono ?_; rintro e w' ⟨rfl, rfl⟩) | (at_builtin; refine wpList_append_own _ rfl _ _ 29 rfl wo.heap.size 28 i0 (.agg #[.int .i64 0, .bool false]) 2 16 Try.underlying29 hi hz0 hz1 hz2 rfl (by decide) _ _ _ rfl (((hown.alloc _).alloc _).alloc _) ⟨wr.heap.size + 1 + 1, 0, none⟩ 1 1 [.int .i64 q, .bool true] rfl rfl (cell_two_at _ _ _ _ _ (by simp)) (fun u hu => by simp at hu; rcases hu with rfl | rfl <;> rfl) (by unfold maxLen; omega) (by omega) (by simp; omega) ?_; intro v' w1 hown1 hg _) | (at_builtin; refine wpList_append_own _ rfl _ _ 29 rfl wo.heap.size 28 i0 (.agg #[.int .i64 0, .bool false]) 2 16 Try.underlying29 hi hz0 hz1 hz2 rfl (by decide) _ _ _ rfl (((hown.alloc _).alloc _).alloc _) ⟨wr.heap.size + 1 + 1, 0, none⟩ 1 1 [.int .i64 q, .bool false] rfl rfl (cell_two_at _ _ _ _ _ (by simp)) (fun u hu => by simp at hu; rcases hu with rfl | rfl <;> rfl) (by unfold maxLen; omega) (by omega) (by simp; omega) ?_; intro v' w1 hown1 hg _))
                  first
                  | (have hb3 := below_grown' hown (by repeat (first | exact hb2 | refine below_alloc ?_ _)) hg
                     go_roundw
                     case rel => exact ⟨k + 1, es ++ [(q, _)], by have := KK.out; omega, by go_num, by rw [bcells_snoc, List.length_append]; exact hown1, by rw [List.append_assoc, HDK.out]; refine Eq.trans ?_ HR.out; rw [HST.out]; first | (simp [mustB, wrapsB]; done) | (simp [mustB, wrapsB, e10]; done) | (simp [mustB, wrapsB, m0, m1, m3]; done) | (simp [mustB, wrapsB, e10, m0, m1, m3]; done), hb3⟩
                     case measure => have := KK.out; simp [intOf]; omega)
                  | (go_roundw
                     case rel => exact ⟨k + 1, es, by have := KK.out; omega, by go_num, by exact ((hown.alloc _).alloc _), by rw [HDK.out]; refine Eq.trans ?_ HR.out; rw [HST.out]; first | (simp [mustB, wrapsB]; done) | (simp [mustB, wrapsB, e10]; done) | (simp [mustB, wrapsB, m0, m1, m3]; done) | (simp [mustB, wrapsB, e10, m0, m1, m3]; done), by repeat (first | exact hb2 | refine below_alloc ?_ _)⟩
                     case measure => have := KK.out; simp [intOf]; omega)
                · rw [hy] at HST
                  have HY := Lib.hid hy
                  clear hy
                  go_wp2_with (first | (go_at_call 48; refine (rkeeps2_calls _ _).mono ?_; rintro e w' ⟨rfl, rfl⟩) | (go_at_call 51; refine (HLE.out _).mono ?_; rintro e w' ⟨rfl, rfl⟩) | (go_at_call 52; refine (rother_calls _ _).mono ?_; rintro e w' ⟨rfl, rfl⟩) | (at_builtin; refine wpList_append_own _ rfl _ _ 29 rfl wo.heap.size 28 i0 (.agg #[.int .i64 0, .bool false]) 2 16 Try.underlying29 hi hz0 hz1 hz2 rfl (by decide) _ _ _ rfl (((hown.alloc _).alloc _).alloc _) ⟨wr.heap.size + 1 + 1, 0, none⟩ 1 1 [.int .i64 q, .bool true] rfl rfl (cell_two_at _ _ _ _ _ (by simp)) (fun u hu => by simp at hu; rcases hu with rfl | rfl <;> rfl) (by unfold maxLen; omega) (by omega) (by simp; omega) ?_; intro v' w1 hown1 hg _) | (at_builtin; refine wpList_append_own _ rfl _ _ 29 rfl wo.heap.size 28 i0 (.agg #[.int .i64 0, .bool false]) 2 16 Try.underlying29 hi hz0 hz1 hz2 rfl (by decide) _ _ _ rfl (((hown.alloc _).alloc _).alloc _) ⟨wr.heap.size + 1 + 1, 0, none⟩ 1 1 [.int .i64 q, .bool false] rfl rfl (cell_two_at _ _ _ _ _ (by simp)) (fun u hu => by simp at hu; rcases hu with rfl | rfl <;> rfl) (by unfold maxLen; omega) (by omega) (by simp; omega) ?_; intro v' w1 hown1 hg _))
                  first
                  | (have hb3 := below_grown' hown (by repeat (first | exact hb2 | refine below_alloc ?_ _)) hg
                     go_roundw
                     case rel => exact ⟨k + 1, es ++ [(q, _)], by have := KK.out; omega, by go_num, by rw [bcells_snoc, List.length_append]; exact hown1, by rw [List.append_assoc, HDK.out]; refine Eq.trans ?_ HR.out; rw [HST.out]; first | (simp [mustB, wrapsB]; done) | (simp [mustB, wrapsB, e10]; done) | (simp [mustB, wrapsB, m0, m1, m3]; done) | (simp [mustB, wrapsB, e10, m0, m1, m3]; done), hb3⟩
                     case measure => have := KK.out; simp [intOf]; omega)
                  | (go_roundw
                     case rel => exact ⟨k + 1, es, by have := KK.out; omega, by go_num, by exact ((hown.alloc _).alloc _), by rw [HDK.out]; refine Eq.trans ?_ HR.out; rw [HST.out]; first | (simp [mustB, wrapsB]; done) | (simp [mustB, wrapsB, e10]; done) | (simp [mustB, wrapsB, m0, m1, m3]; done) | (simp [mustB, wrapsB, e10, m0, m1, m3]; done), by repeat (first | exact hb2 | refine below_alloc ?_ _)⟩
                     case measure => have := KK.out; simp [intOf]; omega)
                · rw [hy] at HST
                  have HY := Lib.hid hy
                  clear hy
                  go_wp2_with (first | (go_at_call 48; refine (rkeeps2_calls _ _).mono ?_; rintro e w' ⟨rfl, rfl⟩) | (go_at_call 51; refine (HLE.out _).mono ?_; rintro e w' ⟨rfl, rfl⟩) | (go_at_call 52; refine (rother_calls _ _).mono ?_; rintro e w' ⟨rfl, rfl⟩) | (at_builtin; refine wpList_append_own _ rfl _ _ 29 rfl wo.heap.size 28 i0 (.agg #[.int .i64 0, .bool false]) 2 16 Try.underlying29 hi hz0 hz1 hz2 rfl (by decide) _ _ _ rfl (((hown.alloc _).alloc _).alloc _) ⟨wr.heap.size + 1 + 1, 0, none⟩ 1 1 [.int .i64 q, .bool true] rfl rfl (cell_two_at _ _ _ _ _ (by simp)) (fun u hu => by simp at hu; rcases hu with rfl | rfl <;> rfl) (by unfold maxLen; omega) (by omega) (by simp; omega) ?_; intro v' w1 hown1 hg _) | (at_builtin; refine wpList_append_own _ rfl _ _ 29 rfl wo.heap.size 28 i0 (.agg #[.int .i64 0, .bool false]) 2 16 Try.underlying29 hi hz0 hz1 hz2 rfl (by decide) _ _ _ rfl (((hown.alloc _).alloc _).alloc _) ⟨wr.heap.size + 1 + 1, 0, none⟩ 1 1 [.int .i64 q, .bool false] rfl rfl (cell_two_at _ _ _ _ _ (by simp)) (fun u hu => by simp at hu; rcases hu with rfl | rfl <;> rfl) (by unfold maxLen; omega) (by omega) (by simp; omega) ?_; intro v' w1 hown1 hg _))
                  first
                  | (have hb3 := below_grown' hown (by repeat (first | exact hb2 | refine below_alloc ?_ _)) hg
                     go_roundw
                     case rel => exact ⟨k + 1, es ++ [(q, _)], by have := KK.out; omega, by go_num, by rw [bcells_snoc, List.length_append]; exact hown1, by rw [List.append_assoc, HDK.out]; refine Eq.trans ?_ HR.out; rw [HST.out]; first | (simp [mustB, wrapsB]; done) | (simp [mustB, wrapsB, e10]; done) | (simp [mustB, wrapsB, m0, m1, m3]; done) | (simp [mustB, wrapsB, e10, m0, m1, m3]; done), hb3⟩
                     case measure => have := KK.out; simp [intOf]; omega)
                  | (go_roundw
                     case rel => exact ⟨k + 1, es, by have := KK.out; omega, by go_num, by exact ((hown.alloc _).alloc _), by rw [HDK.out]; refine Eq.trans ?_ HR.out; rw [HST.out]; first | (simp [mustB, wrapsB]; done) | (simp [mustB, wrapsB, e10]; done) | (simp [mustB, wrapsB, m0, m1, m3]; done) | (simp [mustB, wrapsB, e10, m0, m1, m3]; done), by repeat (first | exact hb2 | refine below_alloc ?_ _)⟩
                     case measure => have := KK.out; simp [intOf]; omega)
                · rw [hy] at HST
                  have HY := Lib.hid hy
                  clear hy
                  go_wp2_with (first | (go_at_call 48; refine (rkeeps2_calls _ _).mono ?_; rintro e w' ⟨rfl, rfl⟩) | (go_at_call 51; refine (HLE.out _).mono ?_; rintro e w' ⟨rfl, rfl⟩) | (go_at_call 52; refine (rother_calls _ _).mono ?_; rintro e w' ⟨rfl, rfl⟩) | (at_builtin; refine wpList_append_own _ rfl _ _ 29 rfl wo.heap.size 28 i0 (.agg #[.int .i64 0, .bool false]) 2 16 Try.underlying29 hi hz0 hz1 hz2 rfl (by decide) _ _ _ rfl (((hown.alloc _).alloc _).alloc _) ⟨wr.heap.size + 1 + 1, 0, none⟩ 1 1 [.int .i64 q, .bool true] rfl rfl (cell_two_at _ _ _ _ _ (by simp)) (fun u hu => by simp at hu; rcases hu with rfl | rfl <;> rfl) (by unfold maxLen; omega) (by omega) (by simp; omega) ?_; intro v' w1 hown1 hg _) | (at_builtin; refine wpList_append_own _ rfl _ _ 29 rfl wo.heap.size 28 i0 (.agg #[.int .i64 0, .bool false]) 2 16 Try.underlying29 hi hz0 hz1 hz2 rfl (by decide) _ _ _ rfl (((hown.alloc _).alloc _).alloc _) ⟨wr.heap.size + 1 + 1, 0, none⟩ 1 1 [.int .i64 q, .bool false] rfl rfl (cell_two_at _ _ _ _ _ (by simp)) (fun u hu => by simp at hu; rcases hu with rfl | rfl <;> rfl) (by unfold maxLen; omega) (by omega) (by simp; omega) ?_; intro v' w1 hown1 hg _))
                  first
                  | (have hb3 := below_grown' hown (by repeat (first | exact hb2 | refine below_alloc ?_ _)) hg
                     go_roundw
                     case rel => exact ⟨k + 1, es ++ [(q, _)], by have := KK.out; omega, by go_num, by rw [bcells_snoc, List.length_append]; exact hown1, by rw [List.append_assoc, HDK.out]; refine Eq.trans ?_ HR.out; rw [HST.out]; first | (simp [mustB, wrapsB]; done) | (simp [mustB, wrapsB, e10]; done) | (simp [mustB, wrapsB, m0, m1, m3]; done) | (simp [mustB, wrapsB, e10, m0, m1, m3]; done), hb3⟩
                     case measure => have := KK.out; simp [intOf]; omega)
                  | (go_roundw
                     case rel => exact ⟨k + 1, es, by have := KK.out; omega, by go_num, by exact ((hown.alloc _).alloc _), by rw [HDK.out]; refine Eq.trans ?_ HR.out; rw [HST.out]; first | (simp [mustB, wrapsB]; done) | (simp [mustB, wrapsB, e10]; done) | (simp [mustB, wrapsB, m0, m1, m3]; done) | (simp [mustB, wrapsB, e10, m0, m1, m3]; done), by repeat (first | exact hb2 | refine below_alloc ?_ _)⟩
                     case measure => have := KK.out; simp [intOf]; omega)
                · rw [hy] at HST
                  have HY := Lib.hid hy
                  clear hy
                  go_wp2_with (first | (go_at_call 48; refine (rkeeps2_calls _ _).mono ?_; rintro e w' ⟨rfl, rfl⟩) | (go_at_call 51; refine (HLE.out _).mono ?_; rintro e w' ⟨rfl, rfl⟩) | (go_at_call 52; refine (rother_calls _ _).mono ?_; rintro e w' ⟨rfl, rfl⟩) | (at_builtin; refine wpList_append_own _ rfl _ _ 29 rfl wo.heap.size 28 i0 (.agg #[.int .i64 0, .bool false]) 2 16 Try.underlying29 hi hz0 hz1 hz2 rfl (by decide) _ _ _ rfl (((hown.alloc _).alloc _).alloc _) ⟨wr.heap.size + 1 + 1, 0, none⟩ 1 1 [.int .i64 q, .bool true] rfl rfl (cell_two_at _ _ _ _ _ (by simp)) (fun u hu => by simp at hu; rcases hu with rfl | rfl <;> rfl) (by unfold maxLen; omega) (by omega) (by simp; omega) ?_; intro v' w1 hown1 hg _) | (at_builtin; refine wpList_append_own _ rfl _ _ 29 rfl wo.heap.size 28 i0 (.agg #[.int .i64 0, .bool false]) 2 16 Try.underlying29 hi hz0 hz1 hz2 rfl (by decide) _ _ _ rfl (((hown.alloc _).alloc _).alloc _) ⟨wr.heap.size + 1 + 1, 0, none⟩ 1 1 [.int .i64 q, .bool false] rfl rfl (cell_two_at _ _ _ _ _ (by simp)) (fun u hu => by simp at hu; rcases hu with rfl | rfl <;> rfl) (by unfold maxLen; omega) (by omega) (by simp; omega) ?_; intro v' w1 hown1 hg _))
                  first
                  | (have hb3 := below_grown' hown (by repeat (first | exact hb2 | refine below_alloc ?_ _)) hg
                     go_roundw
                     case rel => exact ⟨k + 1, es ++ [(q, _)], by have := KK.out; omega, by go_num, by rw [bcells_snoc, List.length_append]; exact hown1, by rw [List.append_assoc, HDK.out]; refine Eq.trans ?_ HR.out; rw [HST.out]; first | (simp [mustB, wrapsB]; done) | (simp [mustB, wrapsB, e10]; done) | (simp [mustB, wrapsB, m0, m1, m3]; done) | (simp [mustB, wrapsB, e10, m0, m1, m3]; done), hb3⟩
                     case measure => have := KK.out; simp [intOf]; omega)
                  | (go_roundw
                     case rel => exact ⟨k + 1, es, by have := KK.out; omega, by go_num, by exact ((hown.alloc _).alloc _), by rw [HDK.out]; refine Eq.trans ?_ HR.out; rw [HST.out]; first | (simp [mustB, wrapsB]; done) | (simp [mustB, wrapsB, e10]; done) | (simp [mustB, wrapsB, m0, m1, m3]; done) | (simp [mustB, wrapsB, e10, m0, m1, m3]; done), by repeat (first | exact hb2 | refine below_alloc ?_ _)⟩
                     case measure => have := KK.out; simp [intOf]; omega)
              · skip
                go_wp2_with (first | (go_at_call 48; refine (rkeeps2_calls _ _).mono ?_; rintro e w' ⟨rfl, rfl⟩) | (go_at_call 51; refine (HLE.out _).mono ?_; rintro e w' ⟨rfl, rfl⟩) | (go_at_call 52; refine (rother_calls _ _).mono ?_; rintro e w' ⟨rfl, rfl⟩) | (at_builtin; refine wpList_append_own _ rfl _ _ 29 rfl wo.heap.size 28 i0 (.agg #[.int .i64 0, .bool false]) 2 16 Try.underlying29 hi hz0 hz1 hz2 rfl (by decide) _ _ _ rfl (((hown.alloc _).alloc _).alloc _) ⟨wr.heap.size + 1 + 1, 0, none⟩ 1 1 [.int .i64 q, .bool true] rfl rfl (cell_two_at _ _ _ _ _ (by simp)) (fun u hu => by simp at hu; rcases hu with rfl | rfl <;> rfl) (by unfold maxLen; omega) (by omega) (by simp; omega) ?_; intro v' w1 hown1 hg _) | (at_builtin; refine wpList_append_own _ rfl _ _ 29 rfl wo.heap.size 28 i0 (.agg #[.int .i64 0, .bool false]) 2 16 Try.underlying29 hi hz0 hz1 hz2 rfl (by decide) _ _ _ rfl (((hown.alloc _).alloc _).alloc _) ⟨wr.heap.size + 1 + 1, 0, none⟩ 1 1 [.int .i64 q, .bool false] rfl rfl (cell_two_at _ _ _ _ _ (by simp)) (fun u hu => by simp at hu; rcases hu with rfl | rfl <;> rfl) (by unfold maxLen; omega) (by omega) (by simp; omega) ?_; intro v' w1 hown1 hg _))
                first
                | (have hb3 := below_grown' hown (by repeat (first | exact hb2 | refine below_alloc ?_ _)) hg
                   go_roundw
                   case rel => exact ⟨k + 1, es ++ [(q, _)], by have := KK.out; omega, by go_num, by rw [bcells_snoc, List.length_append]; exact hown1, by rw [List.append_assoc, HDK.out]; refine Eq.trans ?_ HR.out; rw [HST.out]; first | (simp [mustB, wrapsB]; done) | (simp [mustB, wrapsB, e10]; done) | (simp [mustB, wrapsB, m0, m1, m3]; done) | (simp [mustB, wrapsB, e10, m0, m1, m3]; done), hb3⟩
                   case measure => have := KK.out; simp [intOf]; omega)
                | (go_roundw
                   case rel => exact ⟨k + 1, es, by have := KK.out; omega, by go_num, by exact ((hown.alloc _).alloc _), by rw [HDK.out]; refine Eq.trans ?_ HR.out; rw [HST.out]; first | (simp [mustB, wrapsB]; done) | (simp [mustB, wrapsB, e10]; done) | (simp [mustB, wrapsB, m0, m1, m3]; done) | (simp [mustB, wrapsB, e10, m0, m1, m3]; done), by repeat (first | exact hb2 | refine below_alloc ?_ _)⟩
                   case measure => have := KK.out; simp [intOf]; omega)
        · have e : k = ds.length := by omega
          subst e
          have hTT := HR.out
          rw [List.drop_length, HC0.out, List.append_nil] at hTT
          have hbel2 := below_then hbel hb2
          rw [hTT] at hown
          have HO := Lib.hid (own_base (base' := w.heap.size) hown (by omega))
          clear hTT hown
          go_wp2_with fail
          go_ret
          exact ⟨_, rfl, HO.out, hbel2⟩
end Go.Proofs.Ytkppignoomnmdaa
