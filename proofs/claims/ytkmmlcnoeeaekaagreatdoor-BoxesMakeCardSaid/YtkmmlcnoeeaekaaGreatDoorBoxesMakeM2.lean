/- Several texts in one: Boxes, Own, RowList, FragV, OpenLay, LooksPlain. -/
import Derived.Test.YtkmmlcnoeeaekaaGreatDoorBoxesMakeM1
import Derived.Test.YtkmmlcnoeeaekaaGreatDoorRows
import Derived.WalkKit
import Derived.WalkSpells
import Derived.WalkLawsBesides
import Derived.Lib.Hide
import Derived.Outline
import Derived.Deep.MidRow
import Derived.OwnWalk
/- Boxes that came in; contracts of boxes.Check and of the reference's BoxesCheck; the walk of BoxesChecks. -/
namespace Go.Proofs.YtkmmlcnoeeaekaaGreatDoor
open Go.RowKit
set_option linter.unusedVariables false

/-- A box as it lies in memory. -/
structure BoxV where
  kind : Int
  node : Int
  parent : Int
  kidsA : Option Addr
  kids : List Int
  kcap : Nat
  text : ByteArray
def BoxV.zero : BoxV := ⟨0, 0, 0, none, [], 0, ByteArray.empty⟩
def bx (bs : List BoxV) (i : Nat) : BoxV := bs.getD i BoxV.zero
/-- The slice at A holds the boxes bs, below block B. -/
def Boxes (w : World) (B : Nat) (A : Option Addr) (bs : List BoxV) : Prop :=
  ∀ i, i < bs.length → ∃ b off, A = some ⟨b, off, none⟩ ∧ b < B ∧
    w.cell? ⟨b, off + i * 5, none⟩ = some (.int .i64 (bx bs i).kind) ∧ w.cell? ⟨b, off + i * 5 + 1, none⟩ = some (.int .i64 (bx bs i).node) ∧
    w.cell? ⟨b, off + i * 5 + 2, none⟩ = some (.int .i64 (bx bs i).parent) ∧ w.cell? ⟨b, off + i * 5 + 3, none⟩ = some (.slice (bx bs i).kidsA (bx bs i).kids.length (bx bs i).kcap) ∧
    w.cell? ⟨b, off + i * 5 + 4, none⟩ = some (.string (bx bs i).text) ∧ Holds w B (bx bs i).kidsA ((bx bs i).kids.map (Value.int .i64)) ∧ (bx bs i).kids.length ≤ 17592186044404
theorem Boxes.below {w w' : World} {B B' : Nat} {A : Option Addr} {bs : List BoxV} (h : Boxes w B A bs) (hb : Below B' w w') (hB : B ≤ B') : Boxes w' B A bs := fun i hi => by
  obtain ⟨b, off, e, hlt, c0, c1, c2, c3, c4, hk, hl⟩ := h i hi
  have hc : ∀ o, w'.cell? ⟨b, o, none⟩ = w.cell? ⟨b, o, none⟩ := fun o => hb.cell (p := ⟨b, o, none⟩) (by simp; omega)
  exact ⟨b, off, e, hlt, (hc _).trans c0, (hc _).trans c1, (hc _).trans c2, (hc _).trans c3, (hc _).trans c4, hk.below hb hB, hl⟩
/-- The cells of a box; where its kids lie. -/
theorem Boxes.at_ {w : World} {B : Nat} {A : Option Addr} {bs : List BoxV} (h : Boxes w B A bs) {i : Nat} (hi : i < bs.length) : ∃ b off, A = some ⟨b, off, none⟩ ∧ b < B ∧
    w.cell? ⟨b, off + i * 5, none⟩ = some (.int .i64 (bx bs i).kind) ∧ w.cell? ⟨b, off + i * 5 + 1, none⟩ = some (.int .i64 (bx bs i).node) ∧
    w.cell? ⟨b, off + i * 5 + 2, none⟩ = some (.int .i64 (bx bs i).parent) ∧ w.cell? ⟨b, off + i * 5 + 3, none⟩ = some (.slice (bx bs i).kidsA (bx bs i).kids.length (bx bs i).kcap) ∧
    w.cell? ⟨b, off + i * 5 + 4, none⟩ = some (.string (bx bs i).text) ∧ Holds w B (bx bs i).kidsA ((bx bs i).kids.map (Value.int .i64)) ∧ (bx bs i).kids.length ≤ 17592186044404 := h i hi
/-- Are a box's kids in order, within, and its own? -/
def kidsOk (bs : List BoxV) (i : Int) : Int → List Int → Bool
  | _, [] => true
  | last, k :: ks => decide (last < k) && decide (k < bs.length) && decide ((bx bs k.toNat).parent = i) && kidsOk bs i k ks
def boxHead (x : BoxV) (i : Nat) : Prop := 1 ≤ x.kind ∧ x.kind ≤ 9 ∧ -1 ≤ x.node ∧ (i = 0 → x.parent = -1)
def boxOk (bs : List BoxV) (i : Nat) : Prop := boxHead (bx bs i) i ∧ kidsOk bs i i (bx bs i).kids = true
/-- The kids of the first k boxes, as Go adds them up. -/
def ksum (bs : List BoxV) : Nat → Int
  | 0 => 0
  | k + 1 => wrap64 (ksum bs k + ((bx bs k).kids.length : Int))
def BoxesOk (bs : List BoxV) : Prop := (∀ i, i < bs.length → boxOk bs i) ∧ (bs.length = 0 ∨ ksum bs bs.length = (bs.length : Int) - 1)
noncomputable def boxesE (bs : List BoxV) : Int := @ite _ (BoxesOk bs) (Classical.propDecidable _) 0 3
theorem boxesE_no (bs : List BoxV) (h : ¬ BoxesOk bs) : boxesE bs = 3 := by unfold boxesE; rw [if_neg h]
theorem boxesE_yes (bs : List BoxV) (h : BoxesOk bs) : boxesE bs = 0 := by unfold boxesE; rw [if_pos h]
theorem no_of_box (bs : List BoxV) (i : Nat) (hi : i < bs.length) (h : ¬ boxOk bs i) : boxesE bs = 3 := boxesE_no bs fun h' => h (h'.1 i hi)
theorem kidsOk_at (bs : List BoxV) (i last : Int) (ks : List Int) (j : Nat) (h : j < ks.length) : kidsOk bs i last (ks.drop j) = (decide (last < ks.getD j 0) && decide (ks.getD j 0 < bs.length) && decide ((bx bs (ks.getD j 0).toNat).parent = i) && kidsOk bs i (ks.getD j 0) (ks.drop (j + 1))) := by
  rw [List.drop_eq_getElem_cons h]
  simp [kidsOk, List.getD, h]
theorem no_of_kids (bs : List BoxV) (i : Nat) (hi : i < bs.length) (h : kidsOk bs i i (bx bs i).kids = false) : boxesE bs = 3 := no_of_box bs i hi fun h' => by rw [h'.2] at h; cases h
theorem ret_i {a b : Int} (h : a = b) : Ending.returned (.int .i64 a) = .returned (.int .i64 b) := by rw [h]
set_option maxHeartbeats 1000000 in
theorem check_calls (A : Option Addr) (n c B : Nat) (bs : List BoxV) (w : World) (hn : bs.length = n) (h : Boxes w B A bs) (hm : n ≤ 17592186044404) (hB : B ≤ w.heap.size) :
    Calls Tryz.prog 32 #[.slice A n c] w fun e w' => e = .returned (.int .i64 (boxesE bs)) ∧ Below w.heap.size w w' := by
  subst hn
  go_enter Tryz.func32, Tryz.ntmps32
  go_wp2_with fail
  go_loopw [3, 11] (fun s i wr => ∃ k : Nat, k ≤ bs.length ∧ i = .int .i64 k ∧ s = .int .i64 (ksum bs k) ∧ Below w.heap.size w wr ∧ Hid (∀ i, i < k → boxOk bs i)) (fun _ i _ => bs.length - (intOf i).toNat)
  case atStart => exact ⟨0, Nat.zero_le _, rfl, rfl, Below.refl _ _, fun i hi => absurd hi (by omega)⟩
  case round =>
    obtain ⟨k, hk, rfl, rfl, hbel, HALL⟩ := hrel
    by_cases hlt : k < bs.length
    · obtain ⟨b, off, rfl, hb, c0, c1, c2, c3, c4, hkids, hkl⟩ := (h.below hbel hB).at_ hlt
      obtain ⟨x, hx⟩ : ∃ x, x = bx bs k := ⟨_, rfl⟩
      rw [← hx] at c0 c1 c2 c3 c4 hkids hkl
      have HX := Lib.hid hx
      have HBX := Lib.hid (h.below hbel hB)
      have HK := Lib.hid hkids
      clear hx h hkids
      by_cases hh : boxHead x k
      · obtain ⟨h1, h2, h3, h4⟩ := hh
        have hp : ((k : Int) == 0) = true → (x.parent != -1) = false := fun e => by
          have : k = 0 := by simp at e; omega
          rw [h4 this]; rfl
        have H0 := Lib.hid h4
        clear h4
        have hd1 : decide (x.kind < 1) = false := by simp; omega
        have hd2 : decide (9 < x.kind) = false := by simp; omega
        have hd3 : decide (x.node < -1) = false := by simp; omega
        cases e0 : ((k : Int) == 0)
        case' true => have hp1 := hp e0
        all_goals
          clear hp
          go_wp2_with fail
          go_loop [6, 42] (fun l j => ∃ (j' : Nat) (last : Int), j' ≤ x.kids.length ∧ j = .int .i64 j' ∧ l = .int .i64 last ∧ 0 ≤ last ∧ Hid (kidsOk bs k k x.kids = kidsOk bs k last (x.kids.drop j'))) (fun _ j => x.kids.length - (intOf j).toNat)
          case atStart => exact ⟨0, k, by omega, rfl, rfl, by omega, rfl⟩
          case round =>
            clear c0 c1 c2 c3 c4
            obtain ⟨j, last, hj, rfl, rfl, hlast, HKO⟩ := hrel
            have hw := hbel.size
            by_cases hjl : j < x.kids.length
            · have HKA := kidsOk_at bs k last x.kids j hjl
              have hkc := HK.out.ints hjl
              obtain ⟨b', off', hka, hb', hc'⟩ := hkc
              have hb3 : b' < wr.heap.size := by omega
              have hb4 : b < wr.heap.size := by omega
              obtain ⟨z, hz⟩ : ∃ z, z = x.kids.getD j 0 := ⟨_, rfl⟩
              rw [← hz] at HKA hc'
              have HKB := Lib.hid HKA
              clear hz HKA
              by_cases g1 : last < z
              · by_cases g2 : z < bs.length
                · obtain ⟨m, rfl⟩ : ∃ m : Nat, z = m := ⟨z.toNat, by omega⟩
                  have hml : m < bs.length := by omega
                  obtain ⟨b2, off2, hA2, hb2, _, _, d2, _, _, _, _⟩ := HBX.out.at_ hml
                  injection hA2 with hA2
                  injection hA2 with hA2 hA3
                  subst hA2; subst hA3
                  obtain ⟨p, hp⟩ : ∃ p, p = (bx bs m).parent := ⟨_, rfl⟩
                  rw [← hp] at d2
                  have HP := Lib.hid hp
                  clear hp
                  rw [hka]
                  by_cases g3 : p = k
                  · have HN : Hid (kidsOk bs k k x.kids = kidsOk bs k m (x.kids.drop (j + 1))) := by
                      show _ = _
                      rw [HKO.out, HKB.out]
                      have e3 : (bx bs (m : Int).toNat).parent = k := by rw [Int.toNat_natCast, ← HP.out]; exact g3
                      simp only [decide_eq_true g1, decide_eq_true g2, decide_eq_true e3, Bool.true_and]
                    have g3' : (p != (k : Int)) = false := by simp [g3]
                    have G3 := Lib.hid g3
                    clear g3
                    go_wp2_with fail
                    go_round
                    case rel => exact ⟨j + 1, m, by omega, by go_num, rfl, by omega, HN.out⟩
                    case measure => simp [intOf]; omega
                  · have HF : Hid (kidsOk bs k k x.kids = false) := by
                      show _ = _
                      rw [HKO.out, HKB.out]
                      have e3 : ¬ (bx bs (m : Int).toNat).parent = k := by rw [Int.toNat_natCast, ← HP.out]; exact g3
                      simp only [decide_eq_false e3, Bool.and_false, Bool.false_and]
                    have g3' : (p != (k : Int)) = true := by simp [g3]
                    go_wp2_with fail
                    go_ret
                    exact ⟨ret_i (no_of_kids bs k hlt (by rw [← HX.out]; exact HF.out)).symm, below_alloc hbel _⟩
                · have HF : Hid (kidsOk bs k k x.kids = false) := by show _ = _; rw [HKO.out, HKB.out]; simp [g2]
                  rw [hka]
                  go_wp2_with fail
                  go_ret
                  exact ⟨ret_i (no_of_kids bs k hlt (by rw [← HX.out]; exact HF.out)).symm, below_alloc hbel _⟩
              · have HF : Hid (kidsOk bs k k x.kids = false) := by show _ = _; rw [HKO.out, HKB.out]; simp [g1]
                rw [hka]
                go_wp2_with fail
                go_ret
                exact ⟨ret_i (no_of_kids bs k hlt (by rw [← HX.out]; exact HF.out)).symm, below_alloc hbel _⟩
            · have HN : Hid (kidsOk bs k k x.kids = true) := by
                show _ = _
                rw [HKO.out, List.drop_eq_nil_of_le (by omega)]
                rfl
              have HS : Hid (ksum bs (k + 1) = wrap64 (ksum bs k + (x.kids.length : Int))) := by show _ = _; rw [HX.out]; rfl
              have HOK : Hid (boxOk bs k) := ⟨by rw [← HX.out]; exact ⟨h1, h2, h3, H0.out⟩, by rw [← HX.out]; exact HN.out⟩
              go_wp2_with fail
              go_roundw
              case rel => exact ⟨k + 1, by omega, by go_num, by rw [HS.out], below_alloc hbel _, fun i hi => by
                by_cases e : i = k
                · subst e; exact HOK.out
                · exact HALL.out i (by omega)⟩
              case measure => simp [intOf]; omega
      · have HH := Lib.hid hh
        clear hh
        have E0 : Hid ((((k : Int) == 0) = true → k = 0) ∧ (((k : Int) == 0) = false → k ≠ 0)) := ⟨fun e => by simp at e; omega, fun e => by simp at e; omega⟩
        have E1 : Hid (((x.parent != -1) = false → x.parent = -1)) := fun e => by simpa using e
        cases e0 : ((k : Int) == 0) <;> cases e1 : (x.parent != -1)
        all_goals
          go_wp2_with fail
          all_goals first
            | (go_ret; exact ⟨ret_i (no_of_box bs k hlt (fun hb => HH.out (by rw [HX.out]; exact hb.1))).symm, below_alloc hbel _⟩)
            | (exfalso; apply HH.out; refine ⟨by omega, by omega, by omega, ?_⟩; intro h0; first | exact E1.out e1 | exact absurd h0 (E0.out.2 e0))
    · obtain rfl : bs.length = k := by omega
      clear h
      by_cases h0 : bs.length = 0
      · have HY : Hid (boxesE bs = 0) := boxesE_yes bs ⟨HALL.out, .inl h0⟩
        have e0 : decide ((0 : Int) < (bs.length : Int)) = false := decide_eq_false (by omega)
        have e0' : decide (0 < bs.length) = false := decide_eq_false (by omega)
        go_wp2_with fail
        go_ret
        exact ⟨ret_i HY.out.symm, hbel⟩
      · by_cases h1 : ksum bs bs.length = (bs.length : Int) - 1
        · have HY : Hid (boxesE bs = 0) := boxesE_yes bs ⟨HALL.out, .inr h1⟩
          have e1 : (ksum bs bs.length != (bs.length : Int) - 1) = false := by simp [h1]
          have H1 := Lib.hid h1
          clear h1
          go_wp2_with fail
          go_ret
          exact ⟨ret_i HY.out.symm, hbel⟩
        · have HY : Hid (boxesE bs = 3) := boxesE_no bs fun hh => by rcases hh.2 with h | h; exact h0 h; exact h1 h
          have e1 : (ksum bs bs.length != (bs.length : Int) - 1) = true := by simp [h1]
          have H1 := Lib.hid h1
          clear h1
          go_wp2_with fail
          go_ret
          exact ⟨ret_i HY.out.symm, hbel⟩
end Go.Proofs.YtkmmlcnoeeaekaaGreatDoor
/- More words on owned slices: what happens elsewhere leaves them; cut short; one cell of them stored. -/
namespace Go.Proofs.YtkmmlcnoeeaekaaGreatDoor
open Go.RowKit
set_option linter.unusedVariables false
section
variable {w w' : World} {base base' size size' n n' : Nat} {e e' : TypeId} {v v' : Value} {xs xs' : List Value}
theorem own_heap (h : w.ownsRow base e size v n xs) (hw : ∀ g, v.ownBlock = some g → w'.heap[g]? = w.heap[g]?) : w'.ownsRow base e size v n xs := by
  refine ⟨h.1, ?_⟩
  rcases h.2 with h' | ⟨g, cap, cur, rfl, h1, h2, h3⟩
  · exact .inl h'
  · exact .inr ⟨g, cap, cur, rfl, h1, (hw g rfl).trans h2, h3⟩
theorem own_below (h : w.ownsRow base e size v n xs) (hb : Below w.heap.size w w') : w'.ownsRow base e size v n xs :=
  own_heap h fun g hg => hb.block g (h.lt g hg).2
theorem own_far (h : w.ownsRow base e size v n xs) (h' : w.ownsRow base' e' size' v' n' xs') (hne : e ≠ e') : v.ownBlock = none ∨ v.ownBlock ≠ v'.ownBlock := by
  rcases h.2 with ⟨rfl, _⟩ | ⟨g, cap, cur, rfl, h1, h2, _⟩
  · exact .inl rfl
  · rcases h'.2 with ⟨rfl, _⟩ | ⟨g', cap', cur', rfl, h1', h2', _⟩
    · exact .inr (by simp [Value.ownBlock])
    · refine .inr fun hh => ?_
      have hg : g = g' := by simpa [Value.ownBlock] using hh
      subst hg
      rw [h2] at h2'
      injection h2' with h3
      injection h3 with h4 h5
      exact hne h5
theorem own_open (h : w.ownsRow base e size v n xs) : ∃ A c, v = .slice A n c := by
  rcases h.2 with ⟨rfl, rfl⟩ | ⟨g, cap, cur, hv, hb, hh, _⟩
  · exact ⟨_, _, rfl⟩
  · exact ⟨_, _, hv⟩
theorem own_some (h : w.ownsRow base e size v n xs) (hn : 0 < n) : ∃ g cap, v = .slice (some ⟨g, 0, none⟩) n cap ∧ base ≤ g ∧ g < w.heap.size := by
  rcases h.2 with ⟨_, h0⟩ | ⟨g, cap, cur, hv, hb, hh, _⟩
  · omega
  · refine ⟨g, cap, hv, hb, ?_⟩
    rcases Nat.lt_or_ge g w.heap.size with h1 | h1
    · exact h1
    · rw [Array.getElem?_eq_none h1] at hh; cases hh
/-- One cell of the elements stored. -/
theorem own_set {g cap j : Nat} {u : Value} (h : w.ownsRow base e size (.slice (some ⟨g, 0, none⟩) n cap) n xs) : (w.setCell ⟨g, j, none⟩ u).ownsRow base e size (.slice (some ⟨g, 0, none⟩) n cap) n (xs.set j u) := by
  rcases h.2 with ⟨h1, _⟩ | ⟨g', cap', cur, hv, h1, h2, h3, h4, h5, h6⟩
  · cases h1
  · injection hv with hv1 hv2 hv3
    injection hv1 with hv1
    injection hv1 with hv1
    subst hv1; subst hv3
    refine ⟨by rw [List.length_set]; exact h.1, .inr ⟨g, cap, cur.setIfInBounds j u, rfl, h1, heap_setCell_same w g j cur e u h2, h3, h4, by rw [Array.size_setIfInBounds]; exact h5, ?_⟩⟩
    rw [← h6, Array.toList_setIfInBounds, List.take_set]
theorem own_setFar {b j : Nat} {u : Value} (h : w.ownsRow base e size v n xs) (hb : v.ownBlock ≠ some b) : (w.setCell ⟨b, j, none⟩ u).ownsRow base e size v n xs :=
  own_heap h fun g hg => Below.heap_setCell w ⟨b, j, none⟩ u g (fun h' => hb (by rw [hg, h']))
theorem blk_grown {g : Nat} {cs : Array Value} {t : TypeId} {row : Option Nat} (h : Blk w g t cs) (hg : w.grownBy w' row) (hne : row ≠ some g) : Blk w' g t cs :=
  (hg.block g h.lt (fun e => hne e.symm)).trans h
theorem blk_ne {g : Nat} {cs : Array Value} {t : TypeId} (h : Blk w g t cs) (h' : w.ownsRow base e size v n xs) (hne : t ≠ e) : v.ownBlock ≠ some g := by
  rcases h'.2 with ⟨rfl, _⟩ | ⟨g', cap', cur', rfl, h1', h2', _⟩
  · simp [Value.ownBlock]
  · intro hh
    have hg : g' = g := by simpa [Value.ownBlock] using hh
    subst hg
    unfold Blk at h
    rw [h] at h2'
    injection h2' with h3
    injection h3 with h4 h5
    exact hne h5
end
end Go.Proofs.YtkmmlcnoeeaekaaGreatDoor
/- Rows: the cells of a slice of structs, element by element; one element, or one cell of it, stored. -/
namespace Go.Proofs.YtkmmlcnoeeaekaaGreatDoor
open Go.RowKit
set_option linter.unusedVariables false

/-- The cells of n elements. -/
def rows (n : Nat) (f : Nat → List Value) : List Value := (List.range n).flatMap f
theorem rows_succ (n : Nat) (f : Nat → List Value) : rows (n + 1) f = rows n f ++ f n := by simp [rows, List.range_succ]
theorem rows_len {L : Nat} {f : Nat → List Value} (hf : ∀ i, (f i).length = L) (n : Nat) : (rows n f).length = n * L := by
  induction n with
  | zero => simp [rows]
  | succ n ih => rw [rows_succ, List.length_append, ih, hf, Nat.succ_mul]
theorem rows_at {L : Nat} {f : Nat → List Value} (hf : ∀ i, (f i).length = L) {n k j : Nat} (hk : k < n) (hj : j < L) : (rows n f)[k * L + j]? = (f k)[j]? := by
  induction n with
  | zero => omega
  | succ n ih =>
    rw [rows_succ]
    by_cases h : k < n
    · have : (k + 1) * L ≤ n * L := Nat.mul_le_mul_right _ (by omega)
      rw [Nat.succ_mul] at this
      rw [List.getElem?_append_left (by rw [rows_len hf]; omega)]
      exact ih h
    · obtain rfl : k = n := by omega
      rw [List.getElem?_append_right (by rw [rows_len hf]; omega), rows_len hf]
      congr 1; omega
theorem flat_rows {α : Type} (l : List α) (f : α → List Value) (d : α) : l.flatMap f = rows l.length (fun i => f (l.getD i d)) := by
  have e : l = (List.range l.length).map (fun i => l.getD i d) := by
    apply List.ext_getElem
    · simp
    · intro i h1 h2; simp [List.getD, h1]
  conv => lhs; rw [e]
  rw [List.flatMap_map]
  rfl
theorem Holds.flatL {α : Type} {w : World} {B : Nat} {A : Option Addr} {f : α → List Value} {l : List α} (h : Holds w B A (l.flatMap f)) (L : Nat) (hL : ∀ x, (f x).length = L) (h0 : 0 < L) {k : Nat} (d : α) (hk : k < l.length) :
    ∃ b off, A = some ⟨b, off, none⟩ ∧ b < B ∧ ∀ j v, (f (l.getD k d))[j]? = some v → w.cell? ⟨b, off + k * L + j, none⟩ = some v := by
  rw [flat_rows l f d] at h
  have hlen := rows_len (f := fun i => f (l.getD i d)) (L := L) (fun i => hL _) l.length
  have hm : (k + 1) * L ≤ l.length * L := Nat.mul_le_mul_right _ hk
  rw [Nat.succ_mul] at hm
  obtain ⟨b, off, e, hb, hc⟩ := h (by omega)
  refine ⟨b, off, e, hb, fun j v hv => ?_⟩
  have hj : j < L := by
    rcases Nat.lt_or_ge j L with h1 | h1
    · exact h1
    · rw [List.getElem?_eq_none (by rw [hL]; exact h1)] at hv; cases hv
  have h3 := hc (k * L + j) (by omega)
  rw [Nat.add_assoc, h3, List.getD, rows_at (fun i => hL _) hk hj, hv]
  rfl
section
variable {w w' : World} {base size n : Nat} {e : TypeId} {v : Value} {xs : List Value}
theorem own_cell {g cap p : Nat} {u : Value} (h : w.ownsRow base e size (.slice (some ⟨g, 0, none⟩) n cap) n xs) (hu : xs[p]? = some u) : w.cell? ⟨g, p, none⟩ = some u := by
  have h1 := h.cells (g := g) rfl p u hu
  have e1 : (⟨g, 0, none⟩ : Addr).add p = ⟨g, p, none⟩ := by unfold Addr.add; split <;> simp_all
  rwa [e1] at h1
theorem own_free {g cap p : Nat} (h : w.ownsRow base e size (.slice (some ⟨g, 0, none⟩) n cap) n xs) : w.frozen? ⟨g, p, none⟩ = false := by
  rcases h.2 with ⟨h1, _⟩ | ⟨g', cap', cur, hv, h1, h2, h3, h4, h5, h6⟩
  · cases h1
  · injection hv with hv1 hv2 hv3
    injection hv1 with hv1
    injection hv1 with hv1
    subst hv1
    exact frozen_of_row w g p cur e h2
end
end Go.Proofs.YtkmmlcnoeeaekaaGreatDoor
/- Fragments that came in: their cells. -/
namespace Go.Proofs.YtkmmlcnoeeaekaaGreatDoor
open Go.RowKit
set_option linter.unusedVariables false

structure FragV where
  box : Int
  node : Int
  par : Int
  x : Int
  y : Int
  w : Int
  h : Int
  text : ByteArray
def fragC (f : FragV) : Array Value := #[.int .i64 f.box, .int .i64 f.node, .int .i64 f.par, .int .i64 f.x, .int .i64 f.y, .int .i64 f.w, .int .i64 f.h, .string f.text]
def FragV.zero : FragV := ⟨0, 0, 0, 0, 0, 0, 0, ByteArray.empty⟩
def fragF (f : FragV) : List Value := (fragC f).toList
theorem fragF_len (f : FragV) : (fragF f).length = 8 := rfl
def fr (fs : List FragV) (i : Nat) : FragV := fs.getD i FragV.zero
/-- The slice at A holds the fragments fs, below block B. -/
def Frags (w : World) (B : Nat) (A : Option Addr) (fs : List FragV) : Prop := Holds w B A (fs.flatMap fragF)
theorem Frags.below {w w' : World} {B B' : Nat} {A : Option Addr} {fs : List FragV} (h : Frags w B A fs) (hb : Below B' w w') (hB : B ≤ B') : Frags w' B A fs := Holds.below h hb hB
theorem Frags.at_ {w : World} {B : Nat} {A : Option Addr} {fs : List FragV} (h : Frags w B A fs) {k : Nat} (hk : k < fs.length) : ∃ b off, A = some ⟨b, off, none⟩ ∧ b < B ∧
    w.cell? ⟨b, off + k * 8, none⟩ = some (.int .i64 (fr fs k).box) ∧ w.cell? ⟨b, off + k * 8 + 1, none⟩ = some (.int .i64 (fr fs k).node) ∧ w.cell? ⟨b, off + k * 8 + 2, none⟩ = some (.int .i64 (fr fs k).par) ∧
    w.cell? ⟨b, off + k * 8 + 3, none⟩ = some (.int .i64 (fr fs k).x) ∧ w.cell? ⟨b, off + k * 8 + 4, none⟩ = some (.int .i64 (fr fs k).y) ∧ w.cell? ⟨b, off + k * 8 + 5, none⟩ = some (.int .i64 (fr fs k).w) ∧
    w.cell? ⟨b, off + k * 8 + 6, none⟩ = some (.int .i64 (fr fs k).h) ∧ w.cell? ⟨b, off + k * 8 + 7, none⟩ = some (.string (fr fs k).text) := by
  obtain ⟨b, off, e, hb, hc⟩ := Holds.flatL h 8 fragF_len (by decide) FragV.zero hk
  exact ⟨b, off, e, hb, hc 0 _ rfl, hc 1 _ rfl, hc 2 _ rfl, hc 3 _ rfl, hc 4 _ rfl, hc 5 _ rfl, hc 6 _ rfl, hc 7 _ rfl⟩
/-- May a fragment be? -/
def fragOk (bs : List BoxV) (i : Nat) (f : FragV) : Prop := 0 ≤ f.box ∧ f.box < bs.length ∧ f.node = (bx bs f.box.toNat).node ∧ (i = 0 → f.par = -1) ∧ (0 < i → 0 ≤ f.par ∧ f.par < i)
end Go.Proofs.YtkmmlcnoeeaekaaGreatDoor
/- A layout that came in, by value: its slices, its fragments; what its bulk bounds. -/
namespace Go.Proofs.YtkmmlcnoeeaekaaGreatDoor
open Go.ChangeShapes Go.WideShapes Go.Deep
set_option linter.unusedVariables false
section
variable {H : Type} {enc : TypeId × Value → H} {P : Program} {w : World} {base : Nat} {spare : Nat → Bool} {held : Bool}
theorem choose_under {α : Type} [Inhabited α] {n : Nat} {p : Nat → α → Prop} (h : ∀ i, i < n → ∃ x, p i x) : ∃ f : Nat → α, ∀ i, i < n → p i (f i) :=
  ⟨fun i => if hi : i < n then (h i hi).choose else default, fun i hi => by simp only [hi, dif_pos]; exact (h i hi).choose_spec⟩
theorem slice_val {T e : TypeId} {n : Nat} {Ts : List TypeId} {c : Value} (hu : P.underlying T = some (.slice e)) (hf : flat P n e = some Ts) (hC : P.cellsOf e = Ts.length) (h : Leaf enc P w base spare held T c) : ∃ a len cap, c = .slice a len cap := by
  rcases leaf_slice hu hf hC h with rfl | ⟨ka, kl, kc, rfl, _⟩
  · exact ⟨_, _, _, rfl⟩
  · exact ⟨_, _, _, rfl⟩
end
end Go.Proofs.YtkmmlcnoeeaekaaGreatDoor
/- Plain law of P311: looks of boxes. -/
namespace Go.Proofs.YtkmmlcnoeeaekaaGreatDoor
open Go.RowKit
set_option linter.unusedVariables false

def ints (zs : List Int) : List Value := zs.map (Value.int .i64)
end Go.Proofs.YtkmmlcnoeeaekaaGreatDoor
