/- The reference's walk over boxes: what a step is about. -/
import Derived.Test.YtpamfhplklhnpaaDoorItmN
namespace Go.Proofs.YtpamfhplklhnpaaDoor
open Go.RowKit
set_option linter.unusedVariables false
set_option linter.unusedSimpArgs false

def ItemsC (M : MkV) (B : Nat) (G : GR) (u : Nat) : Prop := ∀ (at_ : Nat) (bl : Bool) (v : Value) (xs : List ItemV) (w : World), WSt M B G bl v xs w → at_ < M.nb → M.nb ≤ at_ + 1 + u → xs.length + costL (costB M.bs u) (bx M.bs at_).kids ≤ 4194304 →
  Calls Tryd.prog 27 #[.int .i64 (at_ : Nat), .pointer (some ⟨G.gB, 0, none⟩), .pointer (some ⟨G.gL, 0, none⟩), .pointer (some ⟨G.gR, 0, none⟩), .pointer (some ⟨G.gO, 0, none⟩), .pointer (some ⟨G.gW, 0, none⟩), .pointer (some ⟨G.gK, 0, none⟩)] w (RPost M B G v xs w (walkL (boxW M u) (bx M.bs at_).kids bl))
/-- The closure's state behind the first k kids. -/
structure KR (M : MkV) (B : Nat) (G : GR) (u : Nat) (v : Value) (xs : List ItemV) (ks : List Int) (bl : Bool) (w : World) (k : Nat) (wr : World) : Prop where
  mst : ∃ b out v', WSt M B G b v' out wr ∧ FrR G v w wr ∧ OwnRel v v' w ∧ out ++ (walkL (boxW M u) (ks.drop k) b).1 = xs ++ (walkL (boxW M u) ks bl).1 ∧ (walkL (boxW M u) (ks.drop k) b).2 = (walkL (boxW M u) ks bl).2 ∧ out.length + costL (costB M.bs u) (ks.drop k) ≤ 4194304
section
variable {M : MkV} {B u : Nat} {G : GR} {v : Value} {xs : List ItemV} {ks : List Int} {bl : Bool} {w wr : World} {k : Nat}
theorem KR.start (h : WSt M B G bl v xs w) (hx : xs.length + costL (costB M.bs u) ks ≤ 4194304) : KR M B G u v xs ks bl w 0 w := ⟨bl, xs, v, h, FrR.refl, .inl rfl, rfl, rfl, hx⟩
theorem KR.done (h : KR M B G u v xs ks bl w ks.length wr) : RPost M B G v xs w (walkL (boxW M u) ks bl) (.returned (.tuple #[])) wr := by
  obtain ⟨b, out, v', h1, h2, h3, h4, h5, h6⟩ := h.mst
  rw [List.drop_length] at h4 h5
  simp only [walkL, List.append_nil] at h4 h5
  refine ⟨rfl, v', ?_, h2, h3⟩
  rw [← h4, ← h5]
  exact h1
/-- What the next round starts from, and how it goes on. -/
theorem KR.round (h : KR M B G u v xs ks bl w k wr) (hk : k < ks.length) (z : Nat) (hz : ks.getD k 0 = (z : Int)) :
    ∃ b out v', WSt M B G b v' out wr ∧ out.length + costB M.bs u z ≤ 4194304 ∧ ∀ w', (∃ L b', (boxW M u z b) = (L, b') ∧ RG M B G v' out wr [] L b' w') → KR M B G u v xs ks bl w (k + 1) w' := by
  obtain ⟨b, out, v', h1, h2, h3, h4, h5, h6⟩ := h.mst
  have hd : ks.drop k = (z : Int) :: ks.drop (k + 1) := by
    rw [List.drop_eq_getElem_cons hk]
    congr 1
    simpa [List.getD, hk] using hz
  rw [hd] at h4 h5 h6
  simp only [walkL, costL, Int.toNat_natCast] at h4 h5 h6
  refine ⟨b, out, v', h1, by omega, ?_⟩
  rintro w' ⟨L, b', hL, hG⟩
  obtain ⟨v2, q1, q2, q3⟩ := hG.rst
  have hl := box_len M u z b
  rw [hL] at h4 h5 hl
  refine ⟨_, _, v2, q1, h2.trans h3 q2, h3.trans h2.size q3, ?_, h5, ?_⟩
  · rw [List.append_assoc]; exact h4
  · rw [List.length_append]
    have : (L, b').1.length = L.length := rfl
    omega
end
theorem Boxes.at2 {w : World} {B b off : Nat} {bs : List BoxV} (h : Boxes w B (some ⟨b, off, none⟩) bs) {i : Nat} (hi : i < bs.length) : w.cell? ⟨b, off + i * 5, none⟩ = some (.int .i64 (bx bs i).kind) ∧ w.cell? ⟨b, off + i * 5 + 4, none⟩ = some (.string (bx bs i).text) := by
  obtain ⟨b', off', e, _, c0, _, _, _, c4, _, _⟩ := h i hi
  injection e with e
  injection e with e1 e2
  subst e1; subst e2
  exact ⟨c0, c4⟩
theorem rng_of {w : World} {g : Nat} {T : TypeId} {zs : List Int} (h : Blk w g T (sty zs)) : w.rangeAt g 0 (sty zs).toList := fun j u hu => by
  rw [Nat.zero_add, h.cell]
  simpa using hu
theorem RG.sty0 {M : MkV} {B : Nat} {G : GR} {v : Value} {xs : List ItemV} {w : World} {K : List (Nat × TypeId × Array Value)} {q : Nat × TypeId × Array Value} {L : List ItemV} {b : Bool} {wr : World} (h : RG M B G v xs w (q :: K) L b wr) : Blk wr q.1 q.2.1 q.2.2 := (h.keep q (by simp)).1
theorem XG.sty0 {M : MkV} {B : Nat} {G : GR} {v : Value} {xs : List ItemV} {w : World} {K : List (Nat × TypeId × Array Value)} {q : Nat × TypeId × Array Value} {gX : Nat} {x : ItemV} {L : List ItemV} {b : Bool} {wr : World} (h : XG M B G v xs w (q :: K) gX x L b wr) : Blk wr q.1 q.2.1 q.2.2 := (h.keep q (by simp)).1
theorem RG.room {M : MkV} {B : Nat} {G : GR} {v : Value} {xs : List ItemV} {w : World} {K : List (Nat × TypeId × Array Value)} {L : List ItemV} {b : Bool} {wr : World} (h : RG M B G v xs w K L b wr) : wr.cell? ⟨G.gR, 0, none⟩ = some (.int .i64 M.room) := by
  obtain ⟨v', h1, _⟩ := h.rst
  exact h1.bR.cell 0
theorem RG.less {M : MkV} {B : Nat} {G : GR} {v : Value} {xs : List ItemV} {w : World} {K : List (Nat × TypeId × Array Value)} {L : List ItemV} {b : Bool} {wr : World} (h : RG M B G v xs w K L b wr) : RG M B G v xs w [] L b wr := ⟨h.rst, fun q hq => by simp at hq⟩
theorem XG.less {M : MkV} {B : Nat} {G : GR} {v : Value} {xs : List ItemV} {w : World} {K : List (Nat × TypeId × Array Value)} {gX : Nat} {x : ItemV} {L : List ItemV} {b : Bool} {wr : World} (h : XG M B G v xs w K gX x L b wr) : XG M B G v xs w [] gX x L b wr := ⟨h.rst, h.itm, fun q hq => by simp at hq, h.hX⟩
/-- What holds while three calls and three new blocks are done in whatever order. -/
def tv3 (qm qb qp : Value) (i : Nat) : Value := if i = 2 then qm else if i = 5 then qb else qp
def F11 (wd : World) (qm qb qp : Value) (L : Nat → Prop) (f : Nat → Value) (w' : World) : Prop :=
  Below wd.heap.size wd w' ∧ (∀ i, L i → 9 ≤ i → ∃ g, f i = .pointer (some ⟨g, 0, none⟩) ∧ Blk w' g 66 (quad 0 0 0 0) ∧ wd.heap.size ≤ g) ∧ (∀ i j, L i → L j → 9 ≤ i → 9 ≤ j → i ≠ j → f i ≠ f j) ∧ ∀ i, L i → i < 9 → f i = tv3 qm qb qp i
theorem F11.start (wd : World) (qm qb qp : Value) (f : Nat → Value) : F11 wd qm qb qp (fun _ => False) f wd := ⟨Below.refl _ _, fun _ h => h.elim, fun _ _ h => h.elim, fun _ h => h.elim⟩
section
variable {wd w1 w2 : World} {qm qb qp : Value} {L : Nat → Prop} {f : Nat → Value}
theorem F11.called {i : Nat} {v : Value} (h : F11 wd qm qb qp L f w1) (hi : i < 9) (hv : v = tv3 qm qb qp i) (hb : Below w1.heap.size w1 w2) : F11 wd qm qb qp (fun x => L x ∨ x = i) (updV f i v) w2 := by
  refine ⟨below_then h.1 hb, fun j hj h9 => ?_, fun j k hj hk hj9 hk9 hjk => ?_, fun j hj h9 => ?_⟩
  · rcases hj with hj | rfl
    · obtain ⟨g, a1, a2, a3⟩ := h.2.1 j hj h9
      exact ⟨g, by rw [updV_ne (by omega)]; exact a1, a2.below hb a2.lt, a3⟩
    · omega
  · rw [updV_ne (by omega), updV_ne (by omega)]
    exact h.2.2.1 j k (hj.resolve_right (by omega)) (hk.resolve_right (by omega)) hj9 hk9 hjk
  · by_cases e : j = i
    · subst e; rw [updV_same]; exact hv
    · rw [updV_ne e]; exact h.2.2.2 j (hj.resolve_right e) h9
theorem F11.alloc {i : Nat} (h : F11 wd qm qb qp L f w1) (hi9 : 9 ≤ i) (hn : ¬ L i) : F11 wd qm qb qp (fun x => L x ∨ x = i) (updV f i (.pointer (some ⟨w1.heap.size, 0, none⟩))) (w1.alloc (.cells (quad 0 0 0 0) 66)) := by
  have hb : Below w1.heap.size w1 (w1.alloc (.cells (quad 0 0 0 0) 66)) := below_alloc (Below.refl _ _) _
  have hne : ∀ j, L j → j ≠ i := fun j hj e => hn (e ▸ hj)
  have hfr : ∀ j, L j → 9 ≤ j → f j ≠ .pointer (some ⟨w1.heap.size, 0, none⟩) := fun j hj h5 e => by
    obtain ⟨g, a1, a2, a3⟩ := h.2.1 j hj h5
    rw [a1] at e
    have h1 := a2.lt
    have h2 : g = w1.heap.size := by injection e with e; injection e with e; injection e
    omega
  refine ⟨below_then h.1 hb, fun j hj h5 => ?_, fun j k hj hk hj5 hk5 hjk => ?_, fun j hj h9 => ?_⟩
  · rcases hj with hj | rfl
    · obtain ⟨g, a1, a2, a3⟩ := h.2.1 j hj h5
      exact ⟨g, by rw [updV_ne (hne j hj)]; exact a1, a2.below hb a2.lt, a3⟩
    · exact ⟨_, updV_same _ _ _, Blk.new _ _ _, h.1.size⟩
  · rcases hj with hj | rfl
    · rcases hk with hk | rfl
      · rw [updV_ne (hne j hj), updV_ne (hne k hk)]; exact h.2.2.1 j k hj hk hj5 hk5 hjk
      · rw [updV_ne (hne j hj), updV_same]; exact hfr j hj hj5
    · rcases hk with hk | rfl
      · rw [updV_ne (hne k hk), updV_same]; exact fun e => hfr k hk hk5 e.symm
      · exact absurd rfl hjk
  · rw [updV_ne (by omega)]
    exact h.2.2.2 j (hj.resolve_right (by omega)) h9
theorem F11.fin (h : F11 wd qm qb qp L f w1) (h2 : L 2) (h5 : L 5) (h8 : L 8) (h10 : L 9) (h11 : L 10) (h12 : L 11) : Below wd.heap.size wd w1 ∧
    (∃ g, f 9 = .pointer (some ⟨g, 0, none⟩) ∧ Blk w1 g 66 (quad 0 0 0 0) ∧ wd.heap.size ≤ g) ∧ (∃ g, f 10 = .pointer (some ⟨g, 0, none⟩) ∧ Blk w1 g 66 (quad 0 0 0 0) ∧ wd.heap.size ≤ g) ∧
    (∃ g, f 11 = .pointer (some ⟨g, 0, none⟩) ∧ Blk w1 g 66 (quad 0 0 0 0) ∧ wd.heap.size ≤ g) ∧ f 9 ≠ f 10 ∧ f 9 ≠ f 11 ∧ f 10 ≠ f 11 ∧ f 2 = qm ∧ f 5 = qb ∧ f 8 = qp :=
  ⟨h.1, h.2.1 _ h10 (by decide), h.2.1 _ h11 (by decide), h.2.1 _ h12 (by decide), h.2.2.1 _ _ h10 h11 (by decide) (by decide) (by decide), h.2.2.1 _ _ h10 h12 (by decide) (by decide) (by decide), h.2.2.1 _ _ h11 h12 (by decide) (by decide) (by decide), h.2.2.2 2 h2 (by decide), h.2.2.2 5 h5 (by decide), h.2.2.2 8 h8 (by decide)⟩
end
end Go.Proofs.YtpamfhplklhnpaaDoor
