/- Several texts in one: HitE, HitG, PntV, PaintM. -/
import Derived.Test.YtkmmlcnoeeaekaaGreatDoorPaintListM18
import Derived.Test.YtkmmlcnoeeaekaaGreatDoorPaintListM20
import Derived.Test.YtkmmlcnoeeaekaaGreatDoorPaintListM21
import Derived.Test.YtkmmlcnoeeaekaaGreatDoorPaintListM36
import Derived.Test.YtkmmlcnoeeaekaaGreatDoorPaintListM10
import Derived.Test.YtkmmlcnoeeaekaaGreatDoorPaintListM6
import Derived.Test.YtkmmlcnoeeaekaaGreatDoorPaintListM1
import Derived.Lib.OthersKept
import Derived.OwnWalk
import Derived.Outline
import Derived.Laws.StructEq
/- Who is hit, by a layout, its looks and its steps. -/
namespace Go.Proofs.YtkmmlcnoeeaekaaGreatDoor
open Go.RowKit
set_option linter.unusedVariables false
set_option linter.unusedSimpArgs false

def hF (ns : List (Nat × Nat)) (k : Nat) : Nat := (ns.getD k (0, 0)).1
def fragR (f : FragV) : RectV := ⟨f.x, f.y, f.w, f.h⟩
def hCl (L : LayV) (ns : List (Nat × Nat)) (k : Nat) : Bool := decide (stN (L.st (hF ns k)) 32 = 1) && decide (L.kd (hF ns k) ≠ 3) && decide (L.kd (hF ns k) ≠ 4)
def hIn (L : LayV) (ns : List (Nat × Nat)) (x y : Int) (k : Nat) : Bool := inR (innerR (fr L.fs (hF ns k)) (L.st (hF ns k))) x y
def hIs (L : LayV) (ns : List (Nat × Nat)) (x y : Int) (k : Nat) : Bool := inR (fragR (fr L.fs (hF ns k))) x y && decide (stN (L.st (hF ns k)) 33 ≠ 1) && decide (stN (L.st (hF ns k)) 58 ≠ 1)
def hWho (L : LayV) (ns : List (Nat × Nat)) (k : Nat) : Int := nodeAt L.fs (hF ns k)
def hQ (L : LayV) (ns : List (Nat × Nat)) (x y : Int) : Nat → Bool := hitQ (hCl L ns) (hIs L ns x y) (hIn L ns x y) (endAt ns)
def hits (L : LayV) (ns : List (Nat × Nat)) (x y : Int) (n : Nat) : List Int := hitsN (hWho L ns) (hQ L ns x y) n
/-- A clip's cells. -/
def clipF (L : LayV) (ns : List (Nat × Nat)) (k : Nat) : List Value := (rectC (innerR (fr L.fs (hF ns k)) (L.st (hF ns k)))).toList ++ [.int .i64 (endAt ns k : Nat)]
theorem clipF_len (L : LayV) (ns : List (Nat × Nat)) (k : Nat) : (clipF L ns k).length = 5 := rfl
theorem clipF_one (L : LayV) (ns : List (Nat × Nat)) (k : Nat) : ∀ u ∈ clipF L ns k, u.oneCell' = true := fun u hu => by
  simp [clipF, rectC] at hu
  rcases hu with rfl | rfl | rfl | rfl | rfl <;> rfl
theorem hits_len (L : LayV) (ns : List (Nat × Nat)) (x y : Int) : ∀ n, (hits L ns x y n).length ≤ n
  | 0 => Nat.le_refl _
  | n + 1 => by
    have := hits_len L ns x y n
    unfold hits at *
    rw [hitsN]
    split
    · rw [List.length_cons]; omega
    · omega
theorem alive_len (cl : Nat → Bool) (en : Nat → Nat) (i j : Nat) : (alive cl en i j).length ≤ i := by
  unfold alive
  have := List.length_filter_le (fun k => cl k && decide (j < en k)) (List.range i)
  rw [List.length_range] at this
  exact this
/-- Each step's frag is one of the layout's. -/
theorem tells_mem {P : Nat × Nat → Prop} {g : Nat → Nat → List (Nat × Nat)} : ∀ (ks : List Nat) (b : Nat), (∀ k ∈ ks, ∀ b, ∀ p ∈ g k b, P p) → ∀ p ∈ tells g ks b, P p
  | [], _, _, p, hp => by cases hp
  | k :: ks, b, h, p, hp => by
    rw [tells, List.mem_append] at hp
    rcases hp with hp | hp
    · exact h k (by simp) b p hp
    · exact tells_mem ks _ (fun k' hk' => h k' (by simp [hk'])) p hp
theorem tellN_lt {own : Nat → List Nat} {n : Nat} (ho : ∀ f, ∀ x ∈ own f, x < n) : ∀ (u f b : Nat), f < n → ∀ p ∈ tellN own u f b, p.1 < n
  | 0, _, _, _, p, hp => by cases hp
  | u + 1, f, b, hf, p, hp => by
    rw [tellN, List.mem_cons] at hp
    rcases hp with rfl | hp
    · exact hf
    · exact tells_mem (own f) _ (fun k hk b' => tellN_lt ho u k b' (ho f k hk)) p hp
theorem step_cells {w : World} {B : Nat} {A : Option Addr} {ns : List (Nat × Nat)} (h : Holds w B A (steps ns)) {k : Nat} (hk : k < ns.length) : ∃ b off, A = some ⟨b, off, none⟩ ∧ b < B ∧ w.cell? ⟨b, off + k * 2, none⟩ = some (.int .i64 (hF ns k)) ∧ w.cell? ⟨b, off + k * 2 + 1, none⟩ = some (.int .i64 (endAt ns k)) := by
  obtain ⟨b, off, e, hb, hc⟩ := Holds.flatL h 2 (fun _ => rfl) (by decide) (0, 0) hk
  exact ⟨b, off, e, hb, hc 0 _ rfl, hc 1 _ rfl⟩
end Go.Proofs.YtkmmlcnoeeaekaaGreatDoor
/- What a layout's steps are like. -/
namespace Go.Proofs.YtkmmlcnoeeaekaaGreatDoor
open Go.RowKit
set_option linter.unusedVariables false
set_option linter.unusedSimpArgs false

theorem ownF_lt (L : LayV) (f : Nat) : ∀ x ∈ L.ownF f, x < L.nf := fun x hx => by
  unfold LayV.ownF at hx
  split at hx
  · cases hx
  · unfold ownL at hx
    rw [List.mem_flatMap] at hx
    obtain ⟨p, _, hp⟩ := hx
    exact ((mem_ranked _ _ _ _).1 hp).1
theorem steps_lam (bs : List BoxV) (fs : List FragV) (lk : Nat → List Int) : Lam (stepsOf bs fs lk) 0 := lam_tellN _ _ _ _
theorem steps_in (bs : List BoxV) (fs : List FragV) (lk : Nat → List Int) (h : 0 < fs.length) {k : Nat} (hk : k < (stepsOf bs fs lk).length) : hF (stepsOf bs fs lk) k < fs.length := by
  have h1 := tellN_lt (own := (layV none 0 0 bs none fs.length 0 fs 0 0 0 0 lk).ownF) (n := fs.length) (fun f x hx => ownF_lt _ f x hx) fs.length 0 0 h
  unfold hF
  have h2 : (stepsOf bs fs lk).getD k (0, 0) ∈ stepsOf bs fs lk := by
    rw [List.getD_eq_getElem?_getD, List.getElem?_eq_getElem hk]
    exact List.getElem_mem hk
  exact h1 _ h2
theorem frags_par {bs : List BoxV} {fs : List FragV} (h : LayOk bs fs) : ∀ i, 0 < i → i < fs.length → 0 ≤ (fr fs i).par ∧ (fr fs i).par < i := fun i h0 hi => (h.2.1 i hi).2.2.2.2 h0
theorem frags_root {bs : List BoxV} {fs : List FragV} {nl : Nat} (h : LayOk bs fs) (h2 : LooksOk nl bs) : 0 ≤ (fr fs 0).node := by
  have h3 := h.2.2.1
  have h4 := h.2.1 0 h3
  have h5 := h4.1
  have h6 := h4.2.1
  have h7 := h4.2.2.1
  have h8 := h.2.2.2
  rw [h7, h8]
  have h9 := h2 0 (by omega)
  show 0 ≤ (bx bs (0 : Int).toNat).node
  have e : (0 : Int).toNat = 0 := rfl
  rw [e]
  rcases Classical.em (0 ≤ (bx bs 0).node) with h10 | h10
  · exact h10
  · exact absurd (.inr (.inr (.inl ⟨rfl, .inl (by omega)⟩))) h9
theorem own_baseH {w : World} {base base' : Nat} {e : TypeId} {size n : Nat} {v : Value} {xs : List Value} (h : w.ownsRow base e size v n xs) (hb : base' ≤ base) : w.ownsRow base' e size v n xs := by
  refine ⟨h.1, ?_⟩
  rcases h.2 with h' | ⟨g, cap, cur, hv, h1, h2⟩
  · exact .inl h'
  · exact .inr ⟨g, cap, cur, hv, Nat.le_trans hb h1, h2⟩
def lenV : Value → Nat
  | .slice _ n _ => n
  | _ => 0
theorem flat_len5 (f : Nat → List Value) (hf : ∀ k, (f k).length = 5) : ∀ S : List Nat, (S.flatMap f).length = S.length * 5
  | [] => rfl
  | x :: S => by rw [List.flatMap_cons, List.length_append, hf, flat_len5 f hf S, List.length_cons]; omega
theorem flat_last (f : Nat → List Value) (hf : ∀ k, (f k).length = 5) (T : List Nat) (t : Nat) {j : Nat} (hj : j < 5) : ((T ++ [t]).flatMap f)[T.length * 5 + j]? = (f t)[j]? := by
  rw [List.flatMap_append, List.getElem?_append_right (by rw [flat_len5 f hf]; omega), flat_len5 f hf]
  have e : T.length * 5 + j - T.length * 5 = j := by omega
  rw [e]
  simp
theorem flat_nth (f : Nat → List Value) (hf : ∀ k, (f k).length = 5) : ∀ (S : List Nat) (k j : Nat), k < S.length → j < 5 → (S.flatMap f)[k * 5 + j]? = (f (S.getD k 0))[j]?
  | [], k, j, h, _ => by simp at h
  | x :: S, 0, j, h, hj => by
    rw [List.flatMap_cons, Nat.zero_mul, Nat.zero_add, List.getElem?_append_left (by rw [hf]; exact hj)]
    simp
  | x :: S, k + 1, j, h, hj => by
    rw [List.flatMap_cons, List.getElem?_append_right (by rw [hf]; omega), hf]
    have e : (k + 1) * 5 + j - 5 = k * 5 + j := by omega
    rw [e, flat_nth f hf S k j (by simpa using h) hj]
    simp
theorem flat_take (f : Nat → List Value) (hf : ∀ k, (f k).length = 5) (T : List Nat) (t : Nat) : ((T ++ [t]).flatMap f).take (T.length * 5) = T.flatMap f := by
  rw [List.flatMap_append, List.take_append_of_le_length (by rw [flat_len5 f hf]; omega)]
  rw [← flat_len5 f hf T, List.take_length]
theorem own_popped {w : World} {base : Nat} {e : TypeId} {A : Option Addr} {c : Nat} {T : List Nat} {t : Nat} {f : Nat → List Value} (hf : ∀ k, (f k).length = 5) (h : w.ownsRow base e 5 (.slice A (T ++ [t]).length c) (T ++ [t]).length ((T ++ [t]).flatMap f)) : w.ownsRow base e 5 (.slice A T.length c) T.length (T.flatMap f) ∧ T.length + 1 ≤ c ∧ ∃ g, A = some ⟨g, 0, none⟩ ∧ g < w.heap.size ∧ w.cell? ⟨g, T.length * 5 + 4, none⟩ = (f t)[4]? := by
  have hl : (T ++ [t]).length = T.length + 1 := by simp
  rw [hl] at h
  rcases h.2 with ⟨h1, _⟩ | ⟨g', cap', cur, hv, h1, h2, h3, h4, h5, h6⟩
  · cases h1
  · injection hv with hv1 hv2 hv3
    subst hv1
    subst hv3
    have h7 := own_cut h (m := T.length) (by omega)
    rw [flat_take f hf] at h7
    refine ⟨h7, h3, g', rfl, ?_, ?_⟩
    · rcases Nat.lt_or_ge g' w.heap.size with h8 | h8
      · exact h8
      · rw [Array.getElem?_eq_none h8] at h2; cases h2
    · have h8 := (row_at h).1 (T.length * 5 + 4)
      have h9 := flat_last f hf T t (j := 4) (by omega)
      cases h10 : (f t)[4]? with
      | none => rw [List.getElem?_eq_none_iff] at h10; have := hf t; omega
      | some u => exact h8 u (by rw [h9, h10])
theorem all_take (S : List Nat) (inn : Nat → Bool) {j : Nat} (h : j < S.length) : (S.take (j + 1)).all inn = ((S.take j).all inn && inn (S.getD j 0)) := by
  rw [List.take_succ_eq_append_getElem h, List.all_append]
  simp [List.getD, h]
end Go.Proofs.YtkmmlcnoeeaekaaGreatDoor
/- What came in; a layout's cells. -/
namespace Go.Proofs.YtkmmlcnoeeaekaaGreatDoor
open Go.RowKit
set_option linter.unusedVariables false
set_option linter.unusedSimpArgs false

/-- What came in: a document, styles, a layout. -/
structure InV where
  A : Option Addr
  n : Nat
  c : Nat
  q : Bool
  ns : List NodeV
  Al : Option Addr
  nl : Nat
  cl : Nat
  lz : List Int
  tbl : List Int
  Ab : Option Addr
  nb : Nat
  cb : Nat
  bs : List BoxV
  W1 : Int
  H1 : Int
structure InV.ok (I : InV) (w : World) (B : Nat) : Prop where
  hn0 : I.ns.length = I.n
  nodes : Nodes w B I.A I.ns
  n0 : I.n ≤ 1048576
  hl : I.lz.length = I.nl * 118
  hb : I.bs.length = I.nb
  boxes : Boxes w B I.Ab I.bs
  looks : Holds w B I.Al (ints I.lz)
  tab : TabAt w I.tbl
  pos : 0 < B
  l64 : In64 I.lz
  t64 : In64 I.tbl
  nb0 : I.nb ≤ 1048576
  nl0 : I.nl ≤ 1048576
theorem InV.ok.below {I : InV} {w w' : World} {B B' : Nat} (h : I.ok w B) (hb : Below B' w w') (hB : B ≤ B') : I.ok w' B :=
  { h with nodes := h.nodes.below hb hB, boxes := h.boxes.below hb hB, looks := h.looks.below hb hB, tab := h.tab.below hb (Nat.lt_of_lt_of_le h.pos hB) }
theorem InV.ok.more {I : InV} {w : World} {B B' : Nat} (h : I.ok w B) (hB : B ≤ B') : I.ok w B' :=
  { h with nodes := h.nodes.more hB, boxes := h.boxes.more' hB, looks := h.looks.more hB, pos := Nat.lt_of_lt_of_le h.pos hB }
/-- A layout's frags, bounded. -/
structure FrV where
  Af : Option Addr
  nf : Nat
  cf : Nat
  fs : List FragV
structure FrV.ok (F : FrV) (w : World) (B : Nat) : Prop where
  hf : F.fs.length = F.nf
  frags : Frags w B F.Af F.fs
  nf0 : F.nf ≤ 1048576
  fb : ∀ i, i < F.nf → FragB (fr F.fs i)
theorem FrV.ok.below {F : FrV} {w w' : World} {B B' : Nat} (h : F.ok w B) (hb : Below B' w w') (hB : B ≤ B') : F.ok w' B := { h with frags := h.frags.below hb hB }
theorem FrV.ok.more {F : FrV} {w : World} {B B' : Nat} (h : F.ok w B) (hB : B ≤ B') : F.ok w B' := { h with frags := Holds.more h.frags hB }
def docA (I : InV) : Value := .agg #[.slice I.A I.n I.c, .bool I.q]
def layA (I : InV) (F : FrV) : Value := .agg #[.slice I.Ab I.nb I.cb, .slice F.Af F.nf F.cf, .int .i64 I.W1, .int .i64 I.H1]
def layL (I : InV) (F : FrV) (gL cL : Nat) : LayV := layV I.Ab I.nb I.cb I.bs F.Af F.nf F.cf F.fs I.W1 I.H1 gL cL (lookAt I.lz I.tbl I.bs)
/-- A row laid in a variable of its own. -/
theorem row_laid {T : TypeId} (cs zs : Array Value) (hs : zs.size = cs.size) (w : World) : (w.alloc (.cells cs T)).there w.heap.size 0 zs.size ∧
    ∃ w2, (w.alloc (.cells cs T)).setCells w.heap.size 0 zs.toList = w2 ∧ Blk w2 w.heap.size T zs ∧ Below w.heap.size w w2 :=
  ⟨(Blk.new w T cs).there _ (by rw [hs]; exact Nat.le_refl _), _, rfl, (Blk.new w T cs).setAll zs hs, below_setCells (Nat.le_refl _) _ _ _ (below_alloc (Below.refl _ _) _)⟩
/-- A long load behind a guard that stands. -/
theorem wpList_load_midG {P : Program} {ops : Array Oper} {rest : List Oper} {op : Oper} {a : Act} {w : World} {Q : Exit → Act → World → Prop} (hw : Region.wanted op (yielded ops a.tmps) = true) (ty : TypeId) (x : Operand) (ho : op.op = .load ty x)
    (b o : Nat) (hx : a.eval x = .pointer (some ⟨b, o, none⟩)) (cs : List Value) (d : TypeDesc) (hc : w.rangeAt b o cs)
    (hu : P.underlying ty = some d) (hd : d.isRow = true) (hi : (P.info? ty).map (·.size) = some cs.length)
    (h : wpList P ops Q rest (a.put op.dst (.agg cs.toArray)) w) : wpList P ops Q (op :: rest) a w := by
  unfold wpList
  rw [if_pos hw]
  exact .inl (wp_load_mid ty x ho b o hx cs d hc hu hd hi h)
theorem frag_at {L : LayV} {w : World} {B f bF offF : Nat} (h : L.ok w B) (hA : L.Af = some ⟨bF, offF, none⟩) (hf : f < L.nf) : bF < B ∧ L.bi f < L.nb ∧
    w.cell? ⟨bF, offF + f * 8, none⟩ = some (.int .i64 (L.bi f : Nat)) ∧ w.cell? ⟨bF, offF + f * 8 + 1, none⟩ = some (.int .i64 (fr L.fs f).node) ∧ w.cell? ⟨bF, offF + f * 8 + 2, none⟩ = some (.int .i64 (fr L.fs f).par) ∧
    w.cell? ⟨bF, offF + f * 8 + 3, none⟩ = some (.int .i64 (fr L.fs f).x) ∧ w.cell? ⟨bF, offF + f * 8 + 4, none⟩ = some (.int .i64 (fr L.fs f).y) ∧ w.cell? ⟨bF, offF + f * 8 + 5, none⟩ = some (.int .i64 (fr L.fs f).w) ∧
    w.cell? ⟨bF, offF + f * 8 + 6, none⟩ = some (.int .i64 (fr L.fs f).h) ∧ w.cell? ⟨bF, offF + f * 8 + 7, none⟩ = some (.string (fr L.fs f).text) := by
  obtain ⟨b, off, hA', hb, c0, c1, c2, c3, c4, c5, c6, c7⟩ := Frags.at_ h.frags (k := f) (by rw [h.hf]; exact hf)
  rw [hA] at hA'
  injection hA' with e
  injection e with e1 e2
  subst e1; subst e2
  have hb2 := h.bi_lt hf
  rw [hb2.2] at c0
  exact ⟨hb, hb2.1, c0, c1, c2, c3, c4, c5, c6, c7⟩
theorem box_at {L : LayV} {w : World} {B m bB offB : Nat} (h : L.ok w B) (hA : L.Ab = some ⟨bB, offB, none⟩) (hm : m < L.nb) : bB < B ∧ w.cell? ⟨bB, offB + m * 5, none⟩ = some (.int .i64 (bx L.bs m).kind) := by
  obtain ⟨b, off, hA', hb, c0, _⟩ := Boxes.at_ h.boxes (i := m) (by rw [h.hb]; exact hm)
  rw [hA] at hA'
  injection hA' with e
  injection e with e1 e2
  subst e1; subst e2
  exact ⟨hb, c0⟩
theorem step_at {w : World} {B bS offS : Nat} {ns : List (Nat × Nat)} (h : Holds w B (some ⟨bS, offS, none⟩) (steps ns)) {k : Nat} (hk : k < ns.length) : bS < B ∧ w.cell? ⟨bS, offS + k * 2, none⟩ = some (.int .i64 (hF ns k)) ∧ w.cell? ⟨bS, offS + k * 2 + 1, none⟩ = some (.int .i64 (endAt ns k)) := by
  obtain ⟨b, off, e, hb, c0, c1⟩ := step_cells h hk
  injection e with e
  injection e with e1 e2
  subst e1; subst e2
  exact ⟨hb, c0, c1⟩
end Go.Proofs.YtkmmlcnoeeaekaaGreatDoor
/- What the texts on commands want of slices of structs (where XEqBrk is not in the seat). -/
namespace Go.Proofs.YtkmmlcnoeeaekaaGreatDoor
open Go.RowKit
set_option linter.unusedVariables false
set_option linter.unusedSimpArgs false

theorem flat_len {α : Type} (f : α → List Value) (L : Nat) (hL : ∀ x, (f x).length = L) : ∀ l : List α, (l.flatMap f).length = l.length * L
  | [] => by simp
  | x :: l => by rw [List.flatMap_cons, List.length_append, hL, flat_len f L hL l, List.length_cons, Nat.add_mul, Nat.one_mul, Nat.add_comm]
theorem flat_at {α : Type} (f : α → List Value) (L : Nat) (hL : ∀ x, (f x).length = L) : ∀ (l : List α) (k j : Nat) (d : α), k < l.length → j < L → (l.flatMap f)[k * L + j]? = (f (l.getD k d))[j]?
  | [], k, j, d, h, _ => by simp at h
  | x :: l, 0, j, d, h, hj => by
    rw [List.flatMap_cons, Nat.zero_mul, Nat.zero_add, List.getElem?_append_left (by rw [hL]; exact hj)]
    simp
  | x :: l, k + 1, j, d, h, hj => by
    rw [List.flatMap_cons, List.getElem?_append_right (by rw [hL, Nat.add_mul]; omega), hL]
    rw [show (k + 1) * L + j - L = k * L + j from by rw [Nat.add_mul]; omega]
    rw [flat_at f L hL l k j d (by simpa using h) hj]
    simp
/-- What a slice of structs holds at its k-th element. -/
theorem Holds.flat {α : Type} {w : World} {B : Nat} {A : Option Addr} {f : α → List Value} {l : List α} (h : Holds w B A (l.flatMap f)) (L : Nat) (hL : ∀ x, (f x).length = L) (h0 : 0 < L) {k : Nat} (d : α) (hk : k < l.length) :
    ∃ b off, A = some ⟨b, off, none⟩ ∧ b < B ∧ ∀ j v, (f (l.getD k d))[j]? = some v → w.cell? ⟨b, off + k * L + j, none⟩ = some v := by
  have hlen := flat_len f L hL l
  have hm : k * L + L ≤ l.length * L := by
    have : (k + 1) * L ≤ l.length * L := Nat.mul_le_mul_right _ hk
    rw [Nat.add_mul, Nat.one_mul] at this; exact this
  obtain ⟨b, off, e, hb, hc⟩ := h (by omega)
  refine ⟨b, off, e, hb, fun j v hv => ?_⟩
  have hj : j < L := by
    rcases Nat.lt_or_ge j L with h1 | h1
    · exact h1
    · rw [List.getElem?_eq_none (by rw [hL]; exact h1)] at hv; cases hv
  have := hc (k * L + j) (by omega)
  rw [Nat.add_assoc, this, List.getD, flat_at f L hL l k j d hk hj, hv]
  rfl
theorem own_base {w : World} {base base' : Nat} {e : TypeId} {size n : Nat} {v : Value} {xs : List Value} (h : w.ownsRow base e size v n xs) (hb : base' ≤ base) : w.ownsRow base' e size v n xs := by
  refine ⟨h.1, ?_⟩
  rcases h.2 with h' | ⟨g, cap, cur, hv, h1, h2⟩
  · exact .inl h'
  · exact .inr ⟨g, cap, cur, hv, Nat.le_trans hb h1, h2⟩
theorem own_iter {w : World} {base : Nat} {e : TypeId} {size n : Nat} {v : Value} {xs : List Value} (h : w.ownsRow base e size v n xs) {k : Nat} (hk : k < base) (s : ByteArray) (pos : Nat) : (w.iterAt k s pos).ownsRow base e size v n xs := by
  refine ⟨h.1, ?_⟩
  rcases h.2 with h' | ⟨g, cap, cur, hv, h1, h2, h3⟩
  · exact .inl h'
  · exact .inr ⟨g, cap, cur, hv, h1, (Lib.iterAt_other w k g s pos (by omega)).trans h2, h3⟩
theorem grown_heap {w w1 : World} {e : TypeId} {base size n : Nat} {v : Value} {xs : List Value} (hown : w.ownsRow base e size v n xs) {o : Obj} (hg : (w.alloc o).grownBy w1 v.ownBlock) {k : Nat} (hk : k < base) (hk' : k < w.heap.size) : w1.heap[k]? = w.heap[k]? := by
  have h := hg.block k (by simp; omega) (fun e => by have := (hown.lt k e.symm).1; omega)
  rw [h]
  show (w.heap.push o)[k]? = _
  rw [Array.getElem?_push]
  rw [if_neg (by omega)]
theorem heap_alloc_old (w : World) (o : Obj) {k : Nat} (hk : k < w.heap.size) : (w.alloc o).heap[k]? = w.heap[k]? := by
  show (w.heap.push o)[k]? = _
  rw [Array.getElem?_push, if_neg (by omega)]
end Go.Proofs.YtkmmlcnoeeaekaaGreatDoor
