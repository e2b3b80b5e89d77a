/- Several texts in one: PntG. -/
import Derived.Test.YtkmmlcnoeeaekaaGreatDoorPaintListM3
import Derived.WalkKit
import Derived.Test.YtkmmlcnoeeaekaaGreatDoorRows
import Derived.Test.YtkmmlcnoeeaekaaGreatDoorPaintListM44
import Derived.Maps.OwnRows
import Derived.Maps.OwnOps
import Derived.Maps.AppendAt
import Derived.Maps.Range
import Derived.Maps.Views
import Derived.Deep.MidRow
import Derived.OrdersHeld
/- The map of what ends ahead of each step: looked up in whatever world holds its block; kept where its own blocks are kept; stored into, in a region that draws its order. -/
namespace Go.Proofs.YtkmmlcnoeeaekaaGreatDoor
open Go.RowKit Go.Maps
open Go.WideElems (Fit rd rg pl rd_val elemAt)
set_option linter.unusedVariables false
section
variable {H : Type} {P : Program} {k t E e : TypeId} {q : IntKind} {w w' : World} {base b n : Nat} {D : DataW H} {key : Value} {kl : Lit} {v : Value}

/-- What the look-up gives hangs on the map's block alone. -/
theorem look_same (K : Keyed P k) (ht : P.underlying t = some (.map k E)) {z : Value} (hz : ∀ w, (zeroValue E).run P w = .ok z w) {R : Value → Option (DataW H × List MemPlace)} {es : Array MapEntry} {clock : Nat} (F : Fit P k R es clock)
    (hkey : keyOf P k key = some kl) (hb : w.heap[b]? = some (.map es clock)) (hb' : w'.heap[b]? = some (.map es clock)) (h : (Instr.lookup t (.map (some b)) key false).run P w = .ok v w) :
    (Instr.lookup t (.map (some b)) key false).run P w' = .ok v w' := by
  rcases Maps.fit_look false K ht (hz w) hb F hkey with ⟨h1, h2, _⟩ | ⟨e0, y, hm, hk, h1, _⟩ <;> rcases Maps.fit_look false K ht (hz w') hb' F hkey with ⟨g1, g2, _⟩ | ⟨e1, y', gm, gk, g1, _⟩
  · rw [h] at h1
    injection h1 with h1
    rw [g1, h1]
  · exact absurd gk (h2 e1 gm)
  · exact absurd hk (g2 e0 hm)
  · rw [h] at h1
    injection h1 with h1
    have hn : es.toList.Pairwise (fun x y => x.key ≠ y.key) := ((MapKept.stamped_iff es clock).1 F.stamped).2.2
    have he : e0 = e1 := by
      obtain ⟨i, hi, rfl⟩ := List.mem_iff_getElem.1 hm
      obtain ⟨j, hj, rfl⟩ := List.mem_iff_getElem.1 gm
      rw [List.pairwise_iff_getElem] at hn
      rcases Nat.lt_trichotomy i j with h3 | h3 | h3
      · exact absurd (hk.trans gk.symm) (hn i j hi hj h3)
      · subst h3; rfl
      · exact absurd (gk.trans hk.symm) (hn j i hj hi h3)
    subst he
    rw [g1, h1]
/-- The map and the rows behind it stay where their blocks stay. -/
theorem groups_keep (h : w.ownsGroups P k base e q b n D) (hk : ∀ i, i < w.heap.size → (i = b ∨ ∃ c f, w.heap[i]? = some (.cells c e f)) → w'.heap[i]? = w.heap[i]?) : w'.ownsGroups P k base e q b n D := by
  obtain ⟨es, clock, hb, F, hs, hD, hbb, hlen, hap⟩ := h
  have hlt : ∀ i o, w.heap[i]? = some o → i < w.heap.size := fun i o hi => by
    rcases Nat.lt_or_ge i w.heap.size with h1 | h1
    · exact h1
    · rw [Array.getElem?_eq_none h1] at hi; cases hi
  have keep : ∀ u zs, w.ownsInts base e q u zs → w'.ownsInts base e q u zs := fun u zs ho => by
    refine ⟨⟨ho.1.1, ?_⟩, ho.2⟩
    rcases ho.1.2 with h1 | ⟨g, cap, cur, hv, h1, h2, h3⟩
    · exact .inl h1
    · exact .inr ⟨g, cap, cur, hv, h1, (hk g (hlt _ _ h2) (.inr ⟨_, _, h2⟩)).trans h2, h3⟩
  have stay : ∀ x ∈ es.toList, ∀ z, rowElem (H := H) w base e q x.val = some z → rowElem w' base e q x.val = some z := fun x _ z hz => by
    obtain ⟨zs, ho, rfl⟩ := rowElem_inv hz
    exact rowElem_mk (keep _ _ ho)
  obtain ⟨F2, hmap, _⟩ := F.stay stay
  refine ⟨es, clock, (hk b (hlt _ _ hb) (.inl rfl)).trans hb, F2, hs, by rw [hmap]; exact hD, hbb, fun x hx zs ho => ?_, hap⟩
  obtain ⟨y, hy⟩ := F.reads x hx
  obtain ⟨z, hz, _⟩ := rd_val hy
  obtain ⟨zs0, ho0, _⟩ := rowElem_inv hz
  rw [ho.unique (keep _ _ ho0)]
  exact hlen x hx zs0 ho0
theorem groups_below (h : w.ownsGroups P k base e q b n D) (hb : Below w.heap.size w w') : w'.ownsGroups P k base e q b n D := groups_keep h fun i hi _ => hb.block i hi
theorem groups_set (h : w.ownsGroups P k base e q b n D) {g j : Nat} {cs : Array Value} {t' : TypeId} (hB : Blk w g t' cs) (hne : t' ≠ e) (u : Value) : (w.setCell ⟨g, j, none⟩ u).ownsGroups P k base e q b n D := groups_keep h fun i _ hi => by
  refine Below.heap_setCell w ⟨g, j, none⟩ u i (fun hh => ?_)
  obtain rfl : i = g := hh
  unfold Blk at hB
  rcases hi with rfl | ⟨c, f, hc⟩
  · obtain ⟨es, clock, hb, _⟩ := h
    rw [hB] at hb; cases hb
  · rw [hB] at hc
    injection hc with h1
    injection h1 with h2 h3
    exact hne h3
theorem groups_grown (h : w.ownsGroups P k base e q b n D) {base' size' m : Nat} {e' : TypeId} {u : Value} {xs : List Value} (ho : w.ownsRow base' e' size' u m xs) (hne : e' ≠ e) (hg : w.grownBy w' u.ownBlock) : w'.ownsGroups P k base e q b n D := groups_keep h fun i hi hc => by
  refine hg.block i hi (fun hh => ?_)
  rcases ho.2 with ⟨rfl, _⟩ | ⟨g, cap, cur, rfl, _, h2, _⟩
  · cases hh
  · have hgi : i = g := by simpa [Value.ownBlock] using hh
    subst hgi
    rcases hc with rfl | ⟨c, f, hc⟩
    · obtain ⟨es, clock, hb, _⟩ := h
      rw [h2] at hb; cases hb
    · rw [h2] at hc
      injection hc with h1
      injection h1 with h3 h4
      exact hne h4
theorem groups_base (h : w.ownsGroups P k base e q b n D) : b < base ∧ b < w.heap.size ∧ IsMap D := by
  obtain ⟨es, clock, hb, F, hs, hD, hbb, _⟩ := h
  refine ⟨hbb, ?_, ⟨_, hD⟩⟩
  rcases Nat.lt_or_ge b w.heap.size with h1 | h1
  · exact h1
  · rw [Array.getElem?_eq_none h1] at hb; cases hb
theorem groups_ne (h : w.ownsGroups P k base e q b n D) {g : Nat} {cs : Array Value} {t' : TypeId} (hB : Blk w g t' cs) : g ≠ b := fun hh => by
  subst hh
  obtain ⟨es, clock, hb, _⟩ := h
  unfold Blk at hB
  rw [hB] at hb; cases hb
/-- The look-up, for a region: whatever is done to other blocks, it gives one and the same value. -/
theorem groups_look (h : w.ownsGroups P k base e q b n D) (K : Keyed P k) (ht : P.underlying t = some (.map k E)) (hz : ∀ w, (zeroValue E).run P w = .ok (.slice none 0 0) w) (hn : n < maxLen) (hkey : keyOf P k key = some kl) :
    ∃ v zs, (∀ w', w'.heap[b]? = w.heap[b]? → (Instr.lookup t (.map (some b)) key false).run P w' = .ok v w') ∧ D.atKey kl .nil = rowDatum q v zs ∧ w.ownsInts base e q v zs ∧ zs.length ≤ n ∧ w.groupBack P t k base e q b n D key kl v := by
  obtain ⟨v, zs, h1, h2, h3, h4, h5⟩ := h.at K ht (hz w) hn hkey
  obtain ⟨es, clock, hb, F, _⟩ := h
  exact ⟨v, zs, fun w' hw => look_same K ht hz F hkey hb (hw.trans hb) h1, h2, h3, h4, h5⟩
theorem yieldsIf_look {ops : Array Oper} {S : World → Prop} {o : Oper} {a : Act} (hw : Region.wanted o (yielded ops a.tmps) = true) (m x : Operand) (hop : o.op = Op.lookup t m x false) (hm : a.eval m = .map (some b)) (hx : a.eval x = key)
    (hS : ∀ w, S w → (Instr.lookup t (.map (some b)) key false).run P w = .ok v w) : YieldsIf P ops S o v a :=
  .inl ⟨hw, fun w hw' => by
    unfold execOp
    simp only [hop, hm, hx, Sem.run_bind, hS w hw', Result.andThen_ok, Sem.run_pure]⟩
theorem wp_mapUpdate_back {o : Oper} {a : Act} {Kc : Act → World → Prop} {Q : Exit → Act → World → Prop} (m x y : Operand) (hop : o.op = Op.mapUpdate t m x y)
    {w0 : World} {u v' : Value} {zs' : List Int} (hback : w0.groupBack P t k base e q b n D key kl u) (hm : a.eval m = .map (some b)) (hx : a.eval x = key) (hv : a.eval y = v')
    (hgr : w0.grownBy w u.ownBlock) (hown' : w.ownsInts base e q v' zs') (hl' : zs'.length ≤ n + 1) (hloc : v'.ownBlock = u.ownBlock ∨ ∃ g, v'.ownBlock = some g ∧ w0.heap.size ≤ g)
    (hK : ∀ w2, w2.ownsGroups P k base e q b (n + 1) (D.put kl (rowDatum q v' zs')) → w.grownBy w2 (some b) → Kc (a.put o.dst undef) w2) : o.wp P a w Kc Q := by
  obtain ⟨w2, hrun, r1, r2⟩ := hback w v' zs' hgr hown' hl' hloc
  unfold Oper.wp
  simp [execOp, hop, hm, hx, hv, hrun, Result.andThen]
  exact hK w2 r1 r2
end

/-- The numbers that a datum holds. -/
def datZ : DataW Unit → List Int
  | .slice es _ => es.map fun | .lit (.int _ z) => z | _ => 0
  | _ => []
theorem datZ_row {w : World} {base : Nat} {e : TypeId} {q : IntKind} {v : Value} {zs : List Int} (h : w.ownsInts base e q v zs) : datZ (rowDatum q v zs) = zs := by
  rcases h.datum (H := Unit) with ⟨h1, h2⟩ | h1
  · rw [h1, h2]; rfl
  · rw [h1]
    show ((ChangeShapes.lits q zs).map _) = zs
    unfold ChangeShapes.lits
    rw [List.map_map]
    exact List.map_id' zs
/-- What the map says is E. -/
def EndsIs (D : DataW Unit) (E : Nat → List Int) : Prop := ∀ j : Nat, datZ (D.atKey (.int .i64 (j : Int)) .nil) = E j
theorem ends_made : EndsIs (.map []) (fun _ => []) := fun j => rfl
theorem ends_at {D : DataW Unit} {E : Nat → List Int} (h : EndsIs D E) {w : World} {base : Nat} {e : TypeId} {q : IntKind} {v : Value} {zs : List Int} {j : Nat} (ho : w.ownsInts base e q v zs) (ha : D.atKey (.int .i64 (j : Int)) .nil = rowDatum q v zs) : zs = E j := by
  rw [← h j, ha, datZ_row ho]
theorem ends_put {D : DataW Unit} {E : Nat → List Int} (h : EndsIs D E) (hD : IsMap D) {w : World} {base : Nat} {e : TypeId} {q : IntKind} {v : Value} {zs : List Int} {i : Nat} (ho : w.ownsInts base e q v zs) : EndsIs (D.put (.int .i64 (i : Int)) (rowDatum q v zs)) (upd E i zs) := fun j => by
  by_cases hj : j = i
  · subst hj
    rw [upd_same, Maps.atKey_put_same hD (by trivial), datZ_row ho]
  · rw [upd_other _ _ hj, Maps.atKey_put_other (fun hh => hj (by injection hh with h1 h2; omega)), h j]
theorem underlyingEnds : Tryz.prog.underlying 108 = some (.map 3 44) := Tryz.underlying108
theorem endsLaw : Keyed Tryz.prog 3 := int_keyed Tryz.underlying3
theorem endsZero (w : World) : (zeroValue 44).run Tryz.prog w = .ok (.slice none 0 0) w := by kernel_rfl
end Go.Proofs.YtkmmlcnoeeaekaaGreatDoor
