/- The stable sort of the table's cells: what it leaves is the cells span by span. -/
import Derived.Test.YtkppignoomnmdaaStabD
import Derived.Test.YtkppignoomnmdaaColB
import Derived.Test.YtkppignoomnmdaaTabS
namespace Go.Proofs.Ytkppignoomnmdaa
open Go.Shelf Go.RowKit Go.Lib Go.Sort
set_option linter.unusedVariables false
set_option linter.unusedSimpArgs false

theorem flatMap_cong {α β : Type} {f g : α → List β} : ∀ (l : List α), (∀ x ∈ l, f x = g x) → l.flatMap f = l.flatMap g
  | [], _ => rfl
  | a :: l, h => by rw [List.flatMap_cons, List.flatMap_cons, h a List.mem_cons_self, flatMap_cong l (fun x hx => h x (List.mem_cons_of_mem _ hx))]
/-! The plain part: what is sorted and alike, is the cells span by span. -/
theorem filt_list (v : Nat) (d : Array CellV) : ∀ n, n ≤ d.size → filt keyC v (getA d) 0 n = (d.toList.take n).filter (fun c => keyC c == v)
  | 0, _ => by simp [filt]
  | n + 1, h => by
    have hn : n < d.toList.length := by simp; omega
    rw [filt, filt_list v d n (by omega), List.take_succ_eq_append_getElem hn, List.filter_append]
    congr 1
    have e : getA d (0 + n) = d.toList[n] := by unfold getA; rw [Nat.zero_add, getElem!_pos d n (by omega)]; simp
    rw [e]
    by_cases c : keyC d.toList[n] = v
    · rw [if_pos c, List.filter_cons_of_pos (by simpa using c)]; rfl
    · rw [if_neg c, List.filter_cons_of_neg (by simpa using c)]; rfl
theorem split_low (lo : Nat) : ∀ (L : List CellV), L.Pairwise (fun x y => keyC x ≤ keyC y) → (∀ c ∈ L, lo ≤ keyC c) → L = L.filter (fun c => keyC c == lo) ++ L.filter (fun c => !(keyC c == lo))
  | [], _, _ => rfl
  | a :: L, h, hb => by
    rw [List.pairwise_cons] at h
    by_cases e : keyC a = lo
    · rw [List.filter_cons_of_pos (by simpa using e), List.filter_cons_of_neg (by simpa using e), List.cons_append, ← split_low lo L h.2 (fun c hc => hb c (List.mem_cons_of_mem _ hc))]
    · have ha := hb a List.mem_cons_self
      have e1 : (a :: L).filter (fun c => keyC c == lo) = [] := by
        rw [List.filter_eq_nil_iff]
        intro c hc
        rcases List.mem_cons.1 hc with rfl | hc
        · simpa using e
        · have := h.1 c hc; simp; omega
      have e2 : (a :: L).filter (fun c => !(keyC c == lo)) = a :: L := by
        rw [List.filter_eq_self]
        intro c hc
        rcases List.mem_cons.1 hc with rfl | hc
        · simpa using e
        · have := h.1 c hc; simp; omega
      rw [e1, e2, List.nil_append]
theorem by_spans : ∀ (n lo : Nat) (L : List CellV), L.Pairwise (fun x y => keyC x ≤ keyC y) → (∀ c ∈ L, lo ≤ keyC c ∧ keyC c < lo + n) → L = (List.range n).flatMap (fun s => L.filter (fun c => keyC c == lo + s))
  | 0, lo, L, _, hb => by
    rcases L with _ | ⟨a, L⟩
    · rfl
    · have := hb a List.mem_cons_self; omega
  | n + 1, lo, L, h, hb => by
    have e := split_low lo L h (fun c hc => (hb c hc).1)
    have ih := by_spans n (lo + 1) (L.filter (fun c => !(keyC c == lo))) (h.sublist (List.filter_sublist)) (fun c hc => by
      have := hb c (List.mem_filter.1 hc).1
      have h2 := (List.mem_filter.1 hc).2
      simp at h2; omega)
    rw [List.range_succ_eq_map, List.flatMap_cons, List.flatMap_map, Nat.add_zero]
    conv => lhs; rw [e, ih]
    congr 1
    refine flatMap_cong _ (fun s hs => ?_)
    rw [List.filter_filter]
    congr 1
    funext c
    rw [Bool.eq_iff_iff]
    simp
    omega
theorem spans_bucket {L L' : List CellV} (hk : ∀ c ∈ L, 1 ≤ c.span ∧ c.span ≤ 50) (hs : L'.Pairwise (fun x y => keyC x ≤ keyC y)) (hf : ∀ v, L'.filter (fun c => keyC c == v) = L.filter (fun c => keyC c == v)) : L' = bucket L := by
  have hmem : ∀ c ∈ L', c ∈ L := fun c hc => by
    have : c ∈ L'.filter (fun x => keyC x == keyC c) := List.mem_filter.2 ⟨hc, by simp⟩
    rw [hf] at this
    exact (List.mem_filter.1 this).1
  have hkey : ∀ c ∈ L, keyC c = c.span := fun c hc => by unfold keyC; have := hk c hc; omega
  rw [by_spans 50 1 L' hs (fun c hc => by have h1 := hkey c (hmem c hc); have := hk c (hmem c hc); omega)]
  unfold bucket
  refine flatMap_cong _ (fun s hs => ?_)
  rw [hf]
  refine List.filter_congr (fun c hc => ?_)
  rw [hkey c hc, Nat.add_comm 1 s]
theorem sim_bucket {d d' : Array CellV} (hk : ∀ c ∈ d.toList, 1 ≤ c.span ∧ c.span ≤ 50) (hs : d'.size = d.size) (h1 : Sim keyC 0 d.size (getA d) (getA d')) (h2 : Srt keyC (getA d') 0 d.size) : d'.toList = bucket d.toList := by
  refine spans_bucket hk ?_ (fun v => ?_)
  · rw [List.pairwise_iff_getElem]
    intro i j hi hj hij
    have := h2 i j (Nat.zero_le _) (Nat.le_of_lt hij) (by simp at hj; omega)
    unfold getA at this
    rw [getElem!_pos d' i (by simpa using hi), getElem!_pos d' j (by simpa using hj)] at this
    simpa using this
  · have := h1.2 v
    rw [Nat.sub_zero, filt_list v d' _ (by omega), filt_list v d _ (Nat.le_refl _), List.take_of_length_le (by simp; omega), List.take_of_length_le (by simp)] at this
    exact this
theorem bucket_len {L : List CellV} (hk : ∀ c ∈ L, 1 ≤ c.span ∧ c.span ≤ 50) : (bucket L).length = L.length := by
  obtain ⟨h1, h2, h3⟩ := ins_sim (key := keyC) (lt := ltOf cfC) (fun x y => by unfold ltOf; rw [decide_eq_true_iff]; exact cfC_lt) L.toArray 0 L.toArray.size (Nat.zero_le _) (Nat.le_refl _)
  have := sim_bucket (d := L.toArray) (by simpa using hk) h3 h1 h2
  simp only at this
  rw [← this]
  simpa using h3

/-! The program's own: what the walks asked. -/
theorem info_tcell : (Try.prog.info? 107).map (fun i => (i.zero, i.size, i.bytes)) = some (some (.agg (cellF CellV.zero).toArray), 4, 32) := by kernel_rfl
theorem laysC : LaysC Try.prog 4 := {
  mixed := by kernel_rfl
  fa := Try.func149
  fb := Try.func134
  fc := Try.func116
  fd := Try.func115
  fe := Try.func102
  ff := Try.func75
  tT0 := Try.underlying0
  aT0 := Try.isAgg0
  zT0 := Try.sizeOf0
  vT0 := Try.zeroValue0
  tT1 := Try.underlying3
  aT1 := Try.isAgg3
  zT1 := Try.sizeOf3
  vT1 := Try.zeroValue3
  tT2 := Try.underlying4
  aT2 := Try.isAgg4
  zT2 := Try.sizeOf4
  vT2 := Try.zeroValue4
  tT3 := Try.underlying142
  aT3 := Try.isAgg142
  zT3 := Try.sizeOf142
  vT3 := Try.zeroValue142
  tT4 := Try.underlying102
  aT4 := Try.isAgg102
  zT4 := Try.sizeOf102
  vT4 := Try.zeroValue102
  tT5 := Try.underlying108
  aT5 := Try.isAgg108
  zT5 := Try.sizeOf108
  vT5 := Try.zeroValue108
  aE := Try.isAgg107
  zE := Try.sizeOf107
}
set_option maxRecDepth 100000 in
set_option maxHeartbeats 2000000 in
theorem cmpW_calls (a0 a1 b0 b1 : Int) (a2 a3 b2 b3 : Nat) (w : World) (ha : a3 ≤ 100) (hb : b3 ≤ 100) :
    Calls Try.prog 76 #[.agg #[.int .i64 a0, .int .i64 a1, .int .i64 a2, .int .i64 a3], .agg #[.int .i64 b0, .int .i64 b1, .int .i64 b2, .int .i64 b3]] w fun e w' => e = .returned (.int .i64 ((a3 : Int) - (b3 : Int))) ∧ w' = (w.alloc (.cells #[.int .i64 a0, .int .i64 a1, .int .i64 a2, .int .i64 a3] 107)).alloc (.cells #[.int .i64 b0, .int .i64 b1, .int .i64 b2, .int .i64 b3] 107) := by
  go_enter Try.func76, Try.ntmps76
  go_wp2_with fail
  go_ret
  exact ⟨rfl, rfl⟩
theorem cmpC_calls (x y : CellV) (w : World) : Calls Try.prog 76 #[.agg (encC x).toArray, .agg (encC y).toArray] w fun e w' => e = .returned (.int .i64 (cfC x y)) ∧ ∃ q os', w' = grow (w.drewN q) os' := by
  have b1 : keyC x ≤ 50 := by unfold keyC; omega
  have b2 : keyC y ≤ 50 := by unfold keyC; omega
  refine (cmpW_calls x.least x.most y.least y.most x.pos (keyC x) y.pos (keyC y) w (by omega) (by omega)).mono ?_
  rintro e w' ⟨rfl, h⟩
  exact ⟨rfl, 0, _, by rw [h, alloc_eq_grow, alloc_eq_grow, grow_grow]; rfl⟩

/-! Between the two vocabularies. -/
theorem flat4 (f : CellV → List Value) (hf : ∀ x, (f x).length = 4) : ∀ (L : List CellV) (t : Nat), t < L.length * 4 → (L.flatMap f)[t]? = (f (L.getD (t / 4) CellV.zero))[t % 4]?
  | [], t, h => by simp at h
  | a :: L, t, h => by
    rw [List.flatMap_cons]
    by_cases c : t < 4
    · rw [List.getElem?_append_left (by rw [hf]; exact c), show t / 4 = 0 by omega, show t % 4 = t by omega]; rfl
    · rw [List.getElem?_append_right (by rw [hf]; omega), hf, flat4 f hf L (t - 4) (by simp at h; omega), show t / 4 = (t - 4) / 4 + 1 by omega, show t % 4 = (t - 4) % 4 by omega]; rfl
theorem flat4_len (f : CellV → List Value) (hf : ∀ x, (f x).length = 4) : ∀ (L : List CellV), (L.flatMap f).length = L.length * 4
  | [] => rfl
  | a :: L => by rw [List.flatMap_cons, List.length_append, hf, flat4_len f hf L, List.length_cons]; omega
theorem encC_len (x : CellV) : (encC x).length = 4 := rfl
theorem flatK_list (d : Array CellV) : (flatK encC 4 d).toList = d.toList.flatMap encC := by
  apply List.ext_getElem?
  intro t
  by_cases h : t < d.size * 4
  · rw [flat4 encC encC_len d.toList t (by simpa using h)]
    have h1 : (flatK encC 4 d)[t]! = (encC d[t / 4]!)[t % 4]! := get_flatK encC 4 d t h
    have h2 : t < (flatK encC 4 d).size := by rw [size_flatK]; exact h
    rw [getElem!_pos _ t h2] at h1
    rw [Array.getElem?_toList, Array.getElem?_eq_getElem h2, h1]
    have h3 : t / 4 < d.size := by omega
    have h4 : t % 4 < (encC d[t / 4]!).length := by rw [encC_len]; omega
    rw [getElem!_pos _ (t % 4) h4, getElem!_pos d (t / 4) h3]
    simp [List.getD, h3]
    exact (List.getElem?_eq_getElem _).symm
  · rw [List.getElem?_eq_none (by simp; omega), List.getElem?_eq_none (by rw [flat4_len encC encC_len]; simpa using h)]
theorem encC_cellF {L : List CellV} (h : ∀ c ∈ L, c.span ≤ 50) : L.flatMap encC = L.flatMap cellF :=
  flatMap_cong L (fun c hc => by have e : keyC c = c.span := by unfold keyC; have := h c hc; omega
                                 unfold encC cellF; rw [e])
theorem take_putId (cur F : Array Value) (h : F.size ≤ cur.size) : (putCells id 0 F cur).toList.take F.size = F.toList := by
  apply List.ext_getElem?
  intro j
  by_cases hj : j < F.size
  · rw [List.getElem?_take_of_lt hj, Array.getElem?_toList, Array.getElem?_toList]
    simp [putCells, hj, show j < cur.size by omega]
  · rw [List.getElem?_take_eq_none (by omega), List.getElem?_eq_none (by simp; omega)]
theorem holdsK_own {w : World} {g : Nat} {cur : Array Value} {L : List CellV} (hb : w.heap[g]? = some (.cells cur 107 (0, 0))) (ht : cur.toList.take (L.length * 4) = L.flatMap encC) : HoldsK encC 4 w g 0 L.toArray := by
  intro j hj
  have hj' : j < L.length * 4 := by simpa using hj
  refine ⟨?_, by simp [World.frozen?, hb]⟩
  have h1 : (cur.toList.take (L.length * 4))[j]? = (flatK encC 4 L.toArray).toList[j]? := by rw [ht, flatK_list]
  rw [List.getElem?_take_of_lt hj'] at h1
  simp only [World.cell?, hb, Nat.zero_add]
  simp only [Option.isSome_none, Bool.false_eq_true, if_false]
  rw [← Array.getElem?_toList, h1, Array.getElem?_toList, Array.getElem?_eq_getElem hj, getElem!_pos _ j hj]
  rfl
theorem heap_put {w : World} {g n : Nat} {os : Array Obj} {cur : Array Value} {e : TypeId} {fr : Nat × Nat} (F : Array Value) (hb : w.heap[g]? = some (.cells cur e fr)) :
    (grow (putRow id (Sort.ahead w n) g 0 F) os).heap[g]? = some (.cells (putCells id 0 F cur) e fr) := by
  have hg : g < w.heap.size := (Array.getElem?_eq_some_iff.1 hb).1
  rw [heap_grow_old _ _ (by simpa using hg)]
  simp [putRow, mapBlock, Sort.ahead, Array.getElem?_modify, hb, onCells]
theorem grownBy_put {w : World} {g n : Nat} {os : Array Obj} (F : Array Value) : w.grownBy (grow (putRow id (Sort.ahead w n) g 0 F) os) (some g) := by
  refine ⟨rfl, rfl, rfl, by simp, fun k hk hne => ?_⟩
  rw [heap_grow_old _ _ (by simpa using hk)]
  have : g ≠ k := fun e => hne (by rw [e])
  simp [putRow, mapBlock, Sort.ahead, Array.getElem?_modify, this]
theorem oneC (x : CellV) : ∀ v ∈ encC x, v.oneCell' = true := by
  intro v hv
  unfold encC at hv
  simp only [List.mem_cons, List.not_mem_nil, or_false] at hv
  rcases hv with rfl | rfl | rfl | rfl <;> rfl
/-- The sort leaves the cells span by span. -/
theorem sortsTo_bucket (L : List CellV) (hk : ∀ c ∈ L, 1 ≤ c.span ∧ c.span ≤ 50) (hm : L.length ≤ 1000000) : SortsTo L (bucket L) := by
  intro w base A c h
  have hbl := bucket_len hk
  rw [hbl] at h ⊢
  rcases h.2 with ⟨h1, h2⟩ | ⟨g, cap, cur, hv, hbase, hb, hn, hcap, hcur, ht⟩
  · have e : L = [] := List.length_eq_zero_iff.1 h2
    subst e
    have := sortsTo_sorted [] (fun i hi => by simp at hi) (fun c hc => by cases hc) (by simp) w base A c h
    exact this
  · have ec := encC_cellF (fun c hc => (hk c hc).2)
    injection hv with hv1 hv2 hv3
    subst hv1
    subst hv3
    have hH : HoldsK encC 4 w g 0 L.toArray := holdsK_own hb (by rw [ec]; exact ht)
    have hg : g < w.heap.size := (Array.getElem?_eq_some_iff.1 hb).1
    have R : RowK encC 4 w g 0 L.toArray := ⟨encC_len, oneC, hH, hg⟩
    have eg : ∀ args w, (callFunc 76 args).run Try.prog w = .ok (.enter 76 args) w := enters_of Try.func76 (by kernel_rfl) rfl
    have hcmp : CmpLays Try.prog 76 #[] encC 4 cfC g 0 L.toArray.size w := fun m os dk _ x y => cmpC_calls x y _
    have hs0 : L.toArray.size = L.length := by simp
    refine (sortStable_calls laysC 76 #[] eg g 0 c L.length L.toArray w hcmp R hs0 hm L.toArray w hs0 (SWK.start hH)).mono ?_
    rintro e w' ⟨rfl, d', hd', h3, h4, n, os, rfl⟩
    have hL' : d'.toList = bucket L := sim_bucket (d := L.toArray) (by simpa using hk) (by rw [hd', hs0]) (by rw [hs0]; exact h3) (by rw [hs0]; exact h4)
    have eb : (bucket L).flatMap encC = (bucket L).flatMap cellF := encC_cellF (fun c hc => (hk c (bucket_mem hc)).2)
    have hF : (flatK encC 4 d').size = L.length * 4 := by rw [size_flatK, hd']
    refine ⟨rfl, ⟨by rw [flat4_len cellF (fun _ => rfl), hbl], .inr ⟨g, c, _, rfl, hbase, heap_put (flatK encC 4 d') hb, hn, hcap, by simp [putCells, hcur], ?_⟩⟩, grownBy_put _⟩
    have := take_putId cur (flatK encC 4 d') (by rw [hF, hcur]; exact Nat.mul_le_mul_right 4 hn)
    rw [hF, flatK_list, hL', eb] at this
    exact this
end Go.Proofs.Ytkppignoomnmdaa
