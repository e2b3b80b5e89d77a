/- Several texts in one: BxSz, BxFl. -/
import Derived.Test.YtkmmlcnoeeaekaaGreatDoorBoxesMakeM4
import Derived.Test.YtkmmlcnoeeaekaaGreatDoorBoxesMakeM31
import Derived.Test.YtkmmlcnoeeaekaaGreatDoorBoxesMakeM27
/- Plain law: how many boxes a document comes to. -/
namespace Go.Proofs.YtkmmlcnoeeaekaaGreatDoor
set_option linter.unusedVariables false

mutual
/-- The boxes of a tree. -/
def tsz : TreeV → Nat
  | .mk _ _ _ ks => 1 + tszs ks
def tszs : List TreeV → Nat
  | [] => 0
  | t :: ts => tsz t + tszs ts
end
theorem tszs_nil : tszs [] = 0 := by rw [tszs]
theorem tszs_cons (t : TreeV) (ts : List TreeV) : tszs (t :: ts) = tsz t + tszs ts := by rw [tszs]
theorem tsz_mk (k n : Int) (tx : ByteArray) (ks : List TreeV) : tsz (.mk k n tx ks) = 1 + tszs ks := by rw [tsz]
theorem tszs_app : ∀ (ts us : List TreeV), tszs (ts ++ us) = tszs ts + tszs us
  | [], us => by rw [List.nil_append, tszs_nil]; omega
  | t :: ts, us => by rw [List.cons_append, tszs_cons, tszs_cons, tszs_app ts us]; omega
theorem tszs_map {α : Type} (f : α → TreeV) (l : List α) : tszs (l.map f) = (l.map fun x => tsz (f x)).sum := by
  induction l with
  | nil => rw [List.map_nil, tszs_nil]; rfl
  | cons x l ih => rw [List.map_cons, tszs_cons, ih, List.map_cons, List.sum_cons]
mutual
theorem flatP_size : ∀ (t : TreeV) (p : Int) (S : List PBox), (flatP t p S).length = S.length + tsz t
  | .mk k n tx ks, p, S => by rw [flatP, flatPs_size ks, tsz_mk, List.length_append, List.length_singleton]; omega
theorem flatPs_size : ∀ (ts : List TreeV) (a : Nat) (S : List PBox), (flatPs ts a S).length = S.length + tszs ts
  | [], _, S => by rw [flatPs, tszs_nil]; omega
  | t :: ts, a, S => by rw [flatPs, flatPs_size ts, flatP_size t, addKid_len, tszs_cons]; omega
end
theorem flatR_size (t : TreeV) (p : Int) (S : List PBox) : (flatR t p S).length = S.length + tsz t := by
  unfold flatR
  rw [flatP_size]
  split
  · rw [addKid_len]
  · rfl
theorem sum_le {α : Type} {f g : α → Nat} : ∀ (l : List α), (∀ x ∈ l, f x ≤ g x) → (l.map f).sum ≤ (l.map g).sum
  | [], _ => Nat.le_refl _
  | x :: l, h => by
    rw [List.map_cons, List.map_cons, List.sum_cons, List.sum_cons]
    have h1 := h x (by simp)
    have h2 := sum_le l fun y hy => h y (by simp [hy])
    omega
theorem sum_flat {α β : Type} {f : α → List β} {g : β → Nat} {w : α → Nat} : ∀ (l : List α), (∀ x ∈ l, ((f x).map g).sum ≤ w x) → ((l.flatMap f).map g).sum ≤ (l.map w).sum
  | [], _ => Nat.le_refl _
  | x :: l, h => by
    rw [List.flatMap_cons, List.map_append, List.sum_append, List.map_cons, List.sum_cons]
    have h1 := h x (by simp)
    have h2 := sum_flat l fun y hy => h y (by simp [hy])
    omega
theorem sum_mul {α : Type} (c : Nat) (g : α → Nat) : ∀ (l : List α), (l.map fun x => c * g x).sum = c * (l.map g).sum
  | [] => by simp
  | x :: l => by rw [List.map_cons, List.map_cons, List.sum_cons, List.sum_cons, sum_mul c g l, Nat.mul_add]
theorem sum_more {α : Type} {f g : α → Nat} {d : Nat} : ∀ {l : List α}, l ≠ [] → (∀ x ∈ l, f x + d ≤ g x) → (l.map f).sum + d ≤ (l.map g).sum
  | [], h, _ => absurd rfl h
  | x :: l, _, h => by
    rw [List.map_cons, List.map_cons, List.sum_cons, List.sum_cons]
    have h1 := h x (by simp)
    have h2 := sum_le (f := f) (g := g) l fun y hy => by have := h y (by simp [hy]); omega
    omega
theorem pieces_size {α : Type} {alone : α → Bool} {one : α → TreeV} {run : List α → TreeV} {told : List α → Bool} (g : α → Nat) (h0 : told [] = false) : ∀ (l now : List α), (∀ x ∈ l, alone x = true → tsz (one x) ≤ g x) → (∀ r : List α, r ≠ [] → (∀ x ∈ r, x ∈ now ∨ x ∈ l) → tsz (run r) ≤ (r.map g).sum) → tszs (pieces alone one run told now l) ≤ (now.map g).sum + (l.map g).sum
  | [], now, _, h2 => by
    rw [pieces]
    split
    · rename_i ht
      have hn : now ≠ [] := fun e => by rw [e, h0] at ht; cases ht
      have h3 := h2 now hn (fun x hx => .inl hx)
      rw [tszs_cons, tszs_nil]
      omega
    · rw [tszs_nil]; omega
  | x :: l, now, h1, h2 => by
    have hx := h1 x (by simp)
    have e1 := pieces_size g h0 l [] (fun y hy => h1 y (by simp [hy])) (fun r hr hm => h2 r hr (fun y hy => (hm y hy).elim (fun h => by cases h) (fun h => .inr (by simp [h]))))
    have e2 := pieces_size g h0 l (now ++ [x]) (fun y hy => h1 y (by simp [hy])) (fun r hr hm => h2 r hr (fun y hy => (hm y hy).elim (fun h => by
      rcases List.mem_append.1 h with h | h
      · exact .inl h
      · simp at h; subst h; exact .inr (by simp)) (fun h => .inr (by simp [h]))))
    rw [List.map_append, List.sum_append, List.map_cons, List.map_nil, List.sum_cons, List.sum_nil] at e2
    rw [List.map_nil, List.sum_nil] at e1
    rw [pieces, List.map_cons, List.sum_cons]
    split
    · rename_i ha
      have h3 := hx ha
      rw [tszs_app, tszs_cons]
      have h4 : tszs (if told now = true then [run now] else []) ≤ (now.map g).sum := by
        split
        · rename_i ht
          have hn : now ≠ [] := fun e => by rw [e, h0] at ht; cases ht
          have h5 := h2 now hn (fun x hx => .inl hx)
          rw [tszs_cons, tszs_nil]
          omega
        · rw [tszs_nil]; omega
      omega
    · omega
namespace DocB
variable (X : DocB)
def wF : Nat → Nat → Nat
  | 0, _ => 1
  | u + 1, n => 1 + ((X.kid n).map (wF u)).sum
/-- The nodes from one on, itself too. -/
def wt (n : Nat) : Nat := X.wF (X.rank n) n
theorem kid_none {n : Nat} (h : X.rank n = 0) : X.kid n = [] := by
  cases hk : X.kid n with
  | nil => rfl
  | cons k l => have := X.deep n k (by rw [hk]; simp); omega
theorem wF_fuel : ∀ (d u n : Nat), X.rank n ≤ d → X.rank n ≤ u → X.wF u n = X.wF d n := by
  intro d
  induction d with
  | zero =>
    intro u n hd hu
    cases u with
    | zero => rfl
    | succ u =>
      show X.wF (u + 1) n = 1
      rw [wF, X.kid_none (by omega)]; rfl
  | succ d ih =>
    intro u n hd hu
    cases u with
    | zero =>
      show 1 = X.wF (d + 1) n
      rw [wF, X.kid_none (by omega)]; rfl
    | succ u =>
      rw [wF, wF]
      congr 2
      exact List.map_congr_left fun k hk => ih u k (by have := X.deep n k hk; omega) (by have := X.deep n k hk; omega)
theorem wt_eq (n : Nat) : X.wt n = 1 + ((X.kid n).map X.wt).sum := by
  have h : X.wt n = X.wF (X.rank n + 1) n := X.wF_fuel (X.rank n + 1) (X.rank n) n (by omega) (Nat.le_refl _)
  rw [h, wF]
  congr 2
  exact List.map_congr_left fun k hk => by have hd := X.deep n k hk; exact X.wF_fuel (X.rank k) (X.rank n) k (Nat.le_refl _) (by omega)
theorem content_wt : ∀ (r n : Nat), X.rank n < r → ((X.content n).map X.wt).sum + 1 ≤ X.wt n
  | 0, _, h => by omega
  | r + 1, n, h => by
    rw [X.content_eq, X.wt_eq n]
    have h1 := sum_flat (g := X.wt) (w := X.wt) (f := fun k => if X.nk k = 3 then [k] else if X.nk k ≠ 2 ∨ X.is k = 0 then [] else if X.is k = 9 then X.content k else [k]) (X.kid n) fun k hk => by
      have hd := X.deep n k hk
      have h2 := content_wt r k (by omega)
      split
      · simp
      · split
        · simp
        · split
          · omega
          · simp
    omega
theorem content_w (n : Nat) : ((X.content n).map X.wt).sum + 1 ≤ X.wt n := X.content_wt _ n (Nat.lt_succ_self _)
theorem row_size (alone : TreeV → Bool) (ts : List TreeV) : tszs (X.rowT alone ts) ≤ (ts.map fun t => tsz t + 1).sum := by
  have h := pieces_size (alone := alone) (one := id) (run := linesT) (told := fun r => !X.idleT r) (fun t => tsz t + 1) rfl ts [] (fun x _ _ => by show tsz x ≤ _; omega) (fun r hr _ => by
    unfold linesT
    rw [tsz_mk]
    have h1 := sum_more (f := tsz) (g := fun t => tsz t + 1) (d := 1) hr (fun x _ => Nat.le_refl _)
    have h2 := tszs_map id r
    rw [List.map_id] at h2
    have h3 : (r.map fun x => tsz (id x)) = r.map tsz := rfl
    rw [h2, h3]
    omega)
  rw [List.map_nil, List.sum_nil, Nat.zero_add] at h
  exact h
theorem container_size (nd : Int) (ts : List TreeV) : tsz (X.containerT nd ts) ≤ 1 + (ts.map fun t => tsz t + 1).sum := by
  unfold containerT
  split
  · rw [tsz_mk]
    have := X.row_size (X.blockyT 1) ts
    omega
  · rw [tsz_mk]
    have h2 := tszs_map id ts
    rw [List.map_id] at h2
    have h1 := sum_le (f := fun t => tsz (id t)) (g := fun t => tsz t + 1) ts (fun x _ => by show tsz x ≤ _; omega)
    omega
section
variable (B : Nat → TreeV)
theorem cell_size (nd : Int) (l : List Nat) : tsz (X.cellT B nd l) ≤ 2 + (l.map fun k => tsz (B k) + 1).sum := by
  unfold cellT
  rw [tsz_mk, tszs_cons, tszs_nil]
  have := X.container_size (-1) (l.map B)
  rw [List.map_map] at this
  have e : (l.map ((fun t => tsz t + 1) ∘ B)) = l.map fun k => tsz (B k) + 1 := rfl
  rw [e] at this
  omega
theorem sum_fit {l : List Nat} (h : ∀ k ∈ l, tsz (B k) + 4 ≤ 8 * X.wt k) : (l.map fun k => tsz (B k) + 1).sum ≤ 8 * (l.map X.wt).sum := by
  rw [← sum_mul]
  exact sum_le l fun k hk => by have := h k hk; omega
theorem sum_fit3 {l : List Nat} (hl : l ≠ []) (h : ∀ k ∈ l, tsz (B k) + 4 ≤ 8 * X.wt k) : (l.map fun k => tsz (B k) + 1).sum + 3 ≤ 8 * (l.map X.wt).sum := by
  rw [← sum_mul]
  exact sum_more hl fun k hk => by have := h k hk; omega
theorem cells_size {l : List Nat} {r : Nat} (hl : ∀ k ∈ l, X.rank k < r) (h : ∀ k, X.rank k < r → tsz (B k) + 4 ≤ 8 * X.wt k) : tszs (X.cellsT B l) ≤ 8 * (l.map X.wt).sum := by
  unfold cellsT
  have h1 := pieces_size (alone := X.named 7) (one := fun n => X.cellT B n (X.content n)) (run := fun r => X.cellT B (-1) r) (told := fun r => !X.idleT (r.map B)) (fun k => 8 * X.wt k) rfl l [] (fun k hk _ => by
    have h2 := X.cell_size B k (X.content k)
    have h3 := X.sum_fit B (l := X.content k) fun j hj => h j (by have := X.content_deep hj; have := hl k hk; omega)
    have h4 := X.content_w k
    show tsz (X.cellT B k (X.content k)) ≤ 8 * X.wt k
    omega) (fun q hq hm => by
    have h2 := X.cell_size B (-1) q
    have h3 := X.sum_fit3 B hq fun j hj => h j (hl j ((hm j hj).elim (fun h => by cases h) id))
    show tsz (X.cellT B (-1) q) ≤ _
    rw [sum_mul]
    omega)
  rw [List.map_nil, List.sum_nil, Nat.zero_add, sum_mul] at h1
  exact h1
theorem rows_size {l : List Nat} {r : Nat} (hl : ∀ k ∈ l, X.rank k < r) (h : ∀ k, X.rank k < r → tsz (B k) + 4 ≤ 8 * X.wt k) : tszs (X.rowsT B l) ≤ 8 * (l.map X.wt).sum := by
  unfold rowsT
  have h1 := pieces_size (alone := X.named 6) (one := fun n => .mk 8 n noS (X.cellsT B (X.content n))) (run := fun r => .mk 8 (-1) noS [X.cellT B (-1) r]) (told := fun r => !X.idleT (r.map B)) (fun k => 8 * X.wt k) rfl l [] (fun k hk _ => by
    have h3 := X.cells_size B (l := X.content k) (r := X.rank k) (fun j hj => X.content_deep hj) (fun j hj => h j (by have := hl k hk; omega))
    have h4 := X.content_w k
    show tsz (.mk 8 k noS (X.cellsT B (X.content k))) ≤ 8 * X.wt k
    rw [tsz_mk]
    omega) (fun q hq hm => by
    have h2 := X.cell_size B (-1) q
    have h3 := X.sum_fit3 B hq fun j hj => h j (hl j ((hm j hj).elim (fun h => by cases h) id))
    show tsz (.mk 8 (-1) noS [X.cellT B (-1) q]) ≤ _
    rw [sum_mul, tsz_mk, tszs_cons, tszs_nil]
    omega)
  rw [List.map_nil, List.sum_nil, Nat.zero_add, sum_mul] at h1
  exact h1
theorem boxB_size {n : Nat} (h : ∀ k, X.rank k < X.rank n → tsz (B k) + 4 ≤ 8 * X.wt k) : tsz (X.boxB B n) + 4 ≤ 8 * X.wt n := by
  have hc : ∀ k ∈ X.content n, X.rank k < X.rank n := fun k hk => X.content_deep hk
  have hw := X.content_w n
  have hs := X.sum_fit B (l := X.content n) fun k hk => h k (hc k hk)
  have hr := X.rows_size B hc h
  have hm : ∀ nd : Int, tsz (X.containerT nd ((X.content n).map B)) ≤ 1 + (((X.content n)).map fun k => tsz (B k) + 1).sum := fun nd => by
    have := X.container_size nd ((X.content n).map B)
    rw [List.map_map] at this
    exact this
  have hro : tszs (X.rowT X.flexAlone ((X.content n).map B)) ≤ (((X.content n)).map fun k => tsz (B k) + 1).sum := by
    have := X.row_size X.flexAlone ((X.content n).map B)
    rw [List.map_map] at this
    exact this
  have hk : tszs ((X.content n).map B) ≤ (((X.content n)).map fun k => tsz (B k) + 1).sum := by
    rw [tszs_map]
    exact sum_le _ fun k _ => by omega
  unfold boxB
  split
  · rw [tsz_mk, tszs_nil]; omega
  · split
    · rw [tsz_mk, tszs_nil]; omega
    · split
      · rw [tsz_mk]; omega
      · split
        · rw [tsz_mk, tszs_cons, tszs_nil]
          have := hm (-1)
          omega
        · split
          · rw [tsz_mk]; omega
          · split
            · rw [tsz_mk]; omega
            · have := hm n
              omega
end
theorem box_sizeF : ∀ (r n : Nat), X.rank n < r → tsz (X.box n) + 4 ≤ 8 * X.wt n
  | 0, _, h => by omega
  | r + 1, n, h => by
    rw [X.box_eq]
    exact X.boxB_size X.box fun k hk => box_sizeF r k (by omega)
theorem box_size (n : Nat) : tsz (X.box n) + 4 ≤ 8 * X.wt n := X.box_sizeF _ n (Nat.lt_succ_self _)
/-- The root's. -/
def rootT (n : Nat) : TreeV := X.containerT n ((X.content n).map X.box)
theorem root_size (n : Nat) : tsz (X.rootT n) ≤ 8 * X.wt n := by
  have h1 := X.container_size n ((X.content n).map X.box)
  rw [List.map_map] at h1
  have h2 := X.sum_fit X.box (l := X.content n) fun k _ => X.box_size k
  have h3 := X.content_w n
  have h4 : ((X.content n).map ((fun t => tsz t + 1) ∘ X.box)).sum = ((X.content n).map fun k => tsz (X.box k) + 1).sum := rfl
  unfold rootT
  omega
end DocB
end Go.Proofs.YtkmmlcnoeeaekaaGreatDoor
/- Contract of boxes.flat: the flat list of a tree. -/
namespace Go.Proofs.YtkmmlcnoeeaekaaGreatDoor
open Go.RowKit
set_option linter.unusedVariables false
set_option linter.unusedSimpArgs false

theorem info_boxB : (Tryz.prog.info? 72).map (fun i => (i.zero, i.size, i.bytes)) = some (some (.agg #[.int .i64 0, .int .i64 0, .int .i64 0, .slice none 0 0, .string ⟨#[]⟩]), 5, 64) := by kernel_rfl
theorem tszs_len : ∀ (ts : List TreeV), ts.length ≤ tszs ts
  | [] => Nat.zero_le _
  | .mk _ _ _ ks :: ts => by rw [List.length_cons, tszs_cons, tsz_mk]; have := tszs_len ts; omega
/-- What flat answers. -/
def FlatSays (t : TreeV) (p : Int) (base : Nat) (rs : List RowB) (w : World) (e : Ending) (w' : World) : Prop := ∃ A' n' c' rs', e = .returned (.slice A' n' c') ∧ rs'.length = n' ∧ BoxL w' base (.slice A' n' c') rs' ∧ FewS rs' ∧ rs'.map (·.1) = flatP t p (rs.map (·.1)) ∧ Below base w w'
set_option maxRecDepth 100000 in
set_option maxHeartbeats 8000000 in
theorem flat_step (u : Nat) (IH : ∀ (t : TreeV) (A : Option Addr) (m c : Nat) (p : Int) (Q : Nat → Prop) (base : Nat) (Av : Option Addr) (n cv : Nat) (rs : List RowB) (w : World), tsz t ≤ u → (∀ b, Q b → b < base) → base ≤ w.heap.size → KidsAt w Q t.kids A m → BoxL w base (.slice Av n cv) rs → rs.length = n → FewW rs → n + tsz t ≤ 2000 →
      Calls Tryz.prog 28 #[.slice Av n cv, .agg (treeC t A m c).toArray, .int .i64 p] w (FlatSays t p base rs w))
    (kd nd : Int) (tx : ByteArray) (ks : List TreeV) (A : Option Addr) (m c : Nat) (p : Int) (Q : Nat → Prop) (base : Nat) (Av : Option Addr) (n cv : Nat) (rs : List RowB) (w : World) (hu : tszs ks ≤ u) (hQ : ∀ b, Q b → b < base) (hbs : base ≤ w.heap.size) (hK : KidsAt w Q ks A m) (hL : BoxL w base (.slice Av n cv) rs) (hn : rs.length = n) (hF : FewW rs) (hsz : n + 1 + tszs ks ≤ 2000) :
    Calls Tryz.prog 28 #[.slice Av n cv, .agg #[.int .i64 kd, .int .i64 nd, .int .i64 0, .slice none 0 0, .string tx, .slice A m c], .int .i64 p] w (FlatSays (.mk kd nd tx ks) p base rs w) := by
  obtain ⟨iB, hiB, hzB0, hzB1, hzB2⟩ := info_partsK info_boxB
  obtain ⟨iI, hiI, hzI0, hzI1, hzI2⟩ := info_partsK info_intB
  have hkm : ks.length = m := hK.1
  have hkl := tszs_len ks
  have HB := Lib.hid ((Below.refl base w).alloc hbs (.cells #[.int .i64 kd, .int .i64 nd, .int .i64 p, .slice none 0 0, .string tx, .slice A m c] 75))
  have HT := Lib.hid (Blk.new w 75 #[.int .i64 kd, .int .i64 nd, .int .i64 p, .slice none 0 0, .string tx, .slice A m c])
  have HL := Lib.hid (hL.below (below_alloc (Below.refl w.heap.size w) (.cells #[.int .i64 kd, .int .i64 nd, .int .i64 p, .slice none 0 0, .string tx, .slice A m c] 75)))
  have HK := Lib.hid hK
  have HQ := Lib.hid hQ
  have HN := Lib.hid hn
  have HIH := Lib.hid IH
  have HF := Lib.hid hF
  have HU := Lib.hid hu
  have HSZ := Lib.hid hsz
  have HKM := Lib.hid hkm
  have hm2 : m ≤ 2000 := by omega
  have hn2 : n ≤ 2000 := by omega
  have HBS := Lib.hid hbs
  unfold FlatSays
  obtain ⟨TOT, hTOT⟩ : ∃ TOT, TOT = flatP (.mk kd nd tx ks) p (rs.map (·.1)) := ⟨_, rfl⟩
  have HTOT : Hid (TOT = flatPs ks n (rs.map (·.1) ++ [⟨kd, nd, p, [], tx⟩])) := by
    show _ = _
    rw [hTOT, flatP, List.length_map, hn]
  have HTL : Hid (TOT.length ≤ 2000) := by
    show _ ≤ _
    rw [hTOT, flatP_size, tsz_mk, List.length_map, hn]; omega
  rw [← hTOT]
  clear hTOT hK hL hQ hn hF IH hu hsz hkm hkl hbs
  go_enter Tryz.func28, Tryz.ntmps28
  go_upto_region 3 with fail
  generalize World.alloc w _ = w1 at HB HT HL ⊢
  generalize w.heap.size = g at HT ⊢
  have t0 : w1.cell? ⟨g, 0, none⟩ = some (.int .i64 kd) := HT.out.cell 0
  have t1 : w1.cell? ⟨g, 1, none⟩ = some (.int .i64 nd) := HT.out.cell 1
  have t2 : w1.cell? ⟨g, 2, none⟩ = some (.int .i64 p) := HT.out.cell 2
  have t3 : w1.cell? ⟨g, 3, none⟩ = some (.slice none 0 0) := HT.out.cell 3
  have t4 : w1.cell? ⟨g, 4, none⟩ = some (.string tx) := HT.out.cell 4
  have HBA := Lib.hid (HB.out.alloc (Nat.le_trans HBS.out HB.out.size) (.cells #[.int .i64 kd, .int .i64 nd, .int .i64 p, .slice none 0 0, .string tx] 72))
  have HLA := Lib.hid (HL.out.below (below_alloc (Below.refl w1.heap.size w1) (.cells #[.int .i64 kd, .int .i64 nd, .int .i64 p, .slice none 0 0, .string tx] 72)))
  have HTA := Lib.hid (HT.out.alloc (.cells #[.int .i64 kd, .int .i64 nd, .int .i64 p, .slice none 0 0, .string tx] 72))
  have HNB := Lib.hid (Blk.new w1 72 #[.int .i64 kd, .int .i64 nd, .int .i64 p, .slice none 0 0, .string tx])
  have HOA := Lib.hid HLA.out.own
  rw [HN.out] at HOA
  go_upto_region 5 with (at_builtin; refine wpList_append_any rfl _ _ 26 rfl base 72 iB (.agg #[.int .i64 0, .int .i64 0, .int .i64 0, .slice none 0 0, .string ⟨#[]⟩]) 5 64 Tryz.underlying26 hiB hzB0 hzB1 hzB2 rfl (by decide) (.slice Av n cv) n (rs.flatMap boxC) rfl HOA.out (some ⟨w1.heap.size, 0, none⟩) 1 1 (boxC (⟨kd, nd, p, [], tx⟩, none, 0)) rfl rfl (.inl ⟨w1.heap.size, 0, rfl, fun j u hj => by rw [Nat.zero_add, HNB.out.cell j]; simpa [boxC, kidV] using hj⟩) (boxC_one _) (by unfold maxLen; omega) (by omega) (Nat.le_trans HBS.out HBA.out.size) ?_; intro A9 c9 w9 ho9 hg9 hat9; have HL9 := Lib.hid (BoxL.app HLA.out HN.out (by simpa using ho9) hg9); have HB9 := Lib.hid (HBA.out.grown hg9 (Nat.le_trans HBS.out HBA.out.size) (fun q hq => (HOA.out.lt q hq).1)); have t5 : w9.cell? ⟨g, 5, none⟩ = some (.slice A m c) := (blk_grown HTA.out hg9 (blk_ne HTA.out HOA.out (by decide))).cell 5; clear ho9 hg9 hat9)
  go_loopw [0, 23] (fun vo vi wr => ∃ (j : Nat) (A2 : Option Addr) (n2 c2 : Nat) (rs2 : List RowB), j ≤ m ∧ vi = .int .i64 (j : Nat) ∧ vo = .slice A2 n2 c2 ∧ n < n2 ∧ Hid (rs2.length = n2) ∧ Hid (FewS rs2) ∧ Hid (BoxL wr base (.slice A2 n2 c2) rs2) ∧ Hid (Below base w wr) ∧ Hid (TOT = flatPs (ks.drop j) n (rs2.map (·.1)))) (fun _ i _ => m - (intOf i).toNat)
  case atStart => exact ⟨0, A9, n + 1, c9, _, Nat.zero_le _, rfl, rfl, Nat.lt_succ_self _, by show _ = _; rw [List.length_append, HN.out]; rfl, HF.out.app _ _ _ _ _ _, HL9.out, HB9.out, by show _ = _; rw [HTOT.out, List.map_append]; rfl⟩
  case round =>
    obtain ⟨j, A2, n2, c2, rs2, hj, rfl, rfl, hnn, HN2, HF2, HL2, HB2, HT2⟩ := hrel
    by_cases hlt : j < m
    · obtain ⟨g2, cp2, hA2, _, _⟩ := own_some (HL2.out.ownN HN2.out) (by omega)
      injection hA2 with hA2 hn9 hc2
      clear hn9
      subst hA2; subst hc2
      obtain ⟨b, off, hA, hqb, A7, m7, c7, hcl, hk7⟩ := (HK.out.mono fun b hq => ⟨hq, HB2.out.block b (HQ.out b hq)⟩).at_ hlt
      subst hA
      obtain ⟨tk, htk⟩ : ∃ tk, tk = ks.getD j (.mk 0 0 noS []) := ⟨_, rfl⟩
      rw [← htk] at hcl hk7
      have hjl : j < ks.length := by rw [HKM.out]; exact hlt
      have hD : ks.drop j = tk :: ks.drop (j + 1) := by
        rw [List.drop_eq_getElem_cons hjl, htk, List.getD_eq_getElem?_getD, List.getElem?_eq_getElem hjl]; rfl
      have HT3 : Hid (TOT = flatPs (ks.drop (j + 1)) n (flatP tk n (addKid (rs2.map (·.1)) n n2))) := by
        show _ = _
        rw [HT2.out, hD, flatPs, List.length_map, HN2.out]
      have HSK : Hid (tsz tk ≤ u) := by
        have h1 := tszs_app (ks.take j) (ks.drop j)
        rw [List.take_append_drop, hD, tszs_cons] at h1
        have := HU.out
        show _ ≤ _; omega
      have HSK2 : Hid (n2 + tsz tk ≤ 2000) := by
        have h1 := HTL.out
        rw [HT3.out, flatPs_size, flatP_size, addKid_len, List.length_map, HN2.out] at h1
        show _ ≤ _; omega
      have hn22 : n2 ≤ 2000 := by have := HSK2.out; omega
      clear htk hjl hD
      obtain ⟨kk, kn, ktx, kks⟩ := tk
      have c0 : wr.cell? ⟨b, off + j * 6, none⟩ = some (.int .i64 kk) := hcl 0 _ rfl
      have c1 : wr.cell? ⟨b, off + j * 6 + 1, none⟩ = some (.int .i64 kn) := hcl 1 _ rfl
      have c2' : wr.cell? ⟨b, off + j * 6 + 2, none⟩ = some (.int .i64 0) := hcl 2 _ rfl
      have c3 : wr.cell? ⟨b, off + j * 6 + 3, none⟩ = some (.slice none 0 0) := hcl 3 _ rfl
      have c4 : wr.cell? ⟨b, off + j * 6 + 4, none⟩ = some (.string ktx) := hcl 4 _ rfl
      have c5 : wr.cell? ⟨b, off + j * 6 + 5, none⟩ = some (.slice A7 m7 c7) := hcl 5 _ rfl
      have HK7 := Lib.hid (hk7.mono (w' := wr) (Q' := Q) fun b hq => ⟨hq, rfl⟩)
      have HN3 := Lib.hid (Blk.new wr 75 #[.int .i64 kk, .int .i64 kn, .int .i64 0, .slice none 0 0, .string ktx, .slice A7 m7 c7])
      have HB3 := Lib.hid (HB2.out.alloc (Nat.le_trans HBS.out HB2.out.size) (.cells #[.int .i64 kk, .int .i64 kn, .int .i64 0, .slice none 0 0, .string ktx, .slice A7 m7 c7] 75))
      have HL3 := Lib.hid (HL2.out.below (below_alloc (Below.refl wr.heap.size wr) (.cells #[.int .i64 kk, .int .i64 kn, .int .i64 0, .slice none 0 0, .string ktx, .slice A7 m7 c7] 75)))
      have HI : Hid (n < rs2.length) := by show _ < _; rw [HN2.out]; exact hnn
      clear hcl hk7 hqb
      go_upto_region 7 with fail
      have HKS : Hid (∀ b, Q b → b < wr.heap.size) := fun b hq => Nat.lt_of_lt_of_le (HQ.out b hq) (Nat.le_trans HBS.out HB2.out.size)
      have HK3 := Lib.hid (HK7.out.below (below_alloc (Below.refl wr.heap.size wr) (.cells #[.int .i64 kk, .int .i64 kn, .int .i64 0, .slice none 0 0, .string ktx, .slice A7 m7 c7] 75)) HKS.out)
      generalize World.alloc wr _ = w3 at HN3 HB3 HL3 HK3 ⊢
      generalize wr.heap.size = g3 at HN3 ⊢
      obtain ⟨R, hR⟩ : ∃ R, R = rs2[n]'(HI.out) := ⟨_, rfl⟩
      have hRm : R ∈ rs2 := by rw [hR]; exact List.getElem_mem _
      have k3 : w3.cell? ⟨g2, n * 5 + 3, none⟩ = some (.slice R.2.1 R.1.kids.length R.2.2) := HL3.out.cells HI.out (by rw [← hR]; rfl)
      have HKO := Lib.hid (HL3.out.kids R hRm)
      have HKL : Hid (R.1.kids.length ≤ 2000) := by have := HF2.out R hRm; have h2 := HN2.out; show _ ≤ _; omega
      have HRE := Lib.hid hR
      have HRM := Lib.hid hRm
      clear hR hRm
      have HNE : Hid ((kidV R).ownBlock ≠ some g2) := fun e => HL3.out.ne HRM.out e rfl
      have HFW : Hid (∀ (A8 : Option Addr) (c8 : Nat), FewW (rs2.set n ({ R.1 with kids := R.1.kids ++ [n2] }, A8, c8))) := fun A8 c8 => by rw [HRE.out]; exact HF2.out.kid HI.out _ _ _
      have HFS : Hid (∀ (A8 : Option Addr) (c8 : Nat), (rs2.set n ({ R.1 with kids := R.1.kids ++ [n2] }, A8, c8)).map (·.1) = addKid (rs2.map (·.1)) n n2) := fun A8 c8 => by rw [HRE.out]; exact kid_fst _ _ _ HI.out _ _
      obtain ⟨Rb, RA, Rc⟩ := R
      unfold kidV at HKO HNE
      dsimp only at k3 HKO HKL HNE HFW HFS
      obtain ⟨mk, hmk⟩ : ∃ mk, mk = Rb.kids.length := ⟨_, rfl⟩
      rw [← hmk] at k3 HKO HKL HNE
      have HMK := Lib.hid hmk
      clear hmk
      have f3 : w3.frozen? ⟨g2, n * 5 + 3, none⟩ = false := own_free (HL3.out.ownN HN2.out)
      have HKM2 : mk ≤ 2000 := HKL.out
      have HKX := Lib.hid (below_alloc (Below.refl w3.heap.size w3) (.cells #[.int .i64 (n2 : Nat)] 3))
      have HLA := Lib.hid (HL3.out.below HKX.out)
      have HOA := Lib.hid (own_below HKO.out HKX.out)
      have HNI := Lib.hid (Blk.new w3 3 #[.int .i64 (n2 : Nat)])
      have HBA := Lib.hid (HB3.out.alloc (Nat.le_trans HBS.out HB3.out.size) (.cells #[.int .i64 (n2 : Nat)] 3))
      have HTA := Lib.hid (HN3.out.alloc (.cells #[.int .i64 (n2 : Nat)] 3))
      have HKA := Lib.hid (show KidsAt (w3.alloc (.cells #[.int .i64 (n2 : Nat)] 3)) Q kks A7 m7 from HK3.out.below HKX.out (fun b hq => Nat.lt_of_lt_of_le (HQ.out b hq) (Nat.le_trans HBS.out HB3.out.size)))
      go_upto_region 8 with (at_builtin; refine wpList_append_any rfl _ _ 44 rfl base 3 iI (.int .i64 0) 1 8 Tryz.underlying44 hiI hzI0 hzI1 hzI2 rfl (by decide) (.slice RA mk Rc) mk (nums Rb.kids) rfl HOA.out (some ⟨w3.heap.size, 0, none⟩) 1 1 [.int .i64 (n2 : Nat)] rfl rfl (.inl ⟨w3.heap.size, 0, rfl, fun j u hj => by rw [Nat.zero_add, HNI.out.cell j]; simpa using hj⟩) (by intro u hu; simp at hu; subst hu; rfl) (by unfold maxLen; omega) (by omega) (Nat.le_trans HBS.out HBA.out.size) ?_; intro A9 c9 w9 ho9 hg9 hat9; have HO9 := Lib.hid ho9; have HG9 := Lib.hid hg9; have HAT9 := Lib.hid hat9; have hw9 := hg9.block g2 (HLA.out.own.lt g2 rfl).2 (fun e => HNE.out e.symm); have k9 : w9.cell? ⟨g2, n * 5 + 3, none⟩ = some (.slice RA mk Rc) := (cell_same hw9).trans ((HKX.out.cell (p := ⟨g2, n * 5 + 3, none⟩) (HL3.out.own.lt g2 rfl).2).trans k3); have f9 : w9.frozen? ⟨g2, n * 5 + 3, none⟩ = false := own_free (own_heap (HLA.out.ownN HN2.out) (fun q hq => hg9.block q (HLA.out.own.lt q hq).2 (fun e => HNE.out (e.symm.trans hq.symm)))); clear ho9 hg9 hat9 hw9)
      have HL5 := Lib.hid (BoxL.kid' HLA.out HN2.out HI.out HRE.out.symm HMK.out.symm HO9.out HG9.out HAT9.out)
      have HB9 := Lib.hid (HBA.out.grown HG9.out (Nat.le_trans HBS.out HBA.out.size) (fun q hq => (HOA.out.lt q hq).1))
      have HB5 := Lib.hid (HB9.out.setCell (p := ⟨g2, n * 5 + 3, none⟩) (HLA.out.own.lt g2 rfl).1 (.slice A9 (mk + 1) c9))
      have HT5 := Lib.hid (Blk.far (blk_grown HTA.out HG9.out (blk_ne HTA.out HOA.out (by decide))) (fun e => blk_ne HTA.out HLA.out.own (by decide) (congrArg some e.symm)) (b := g2) (i := n * 5 + 3) (.slice A9 (mk + 1) c9))
      have HK5 := Lib.hid (HKA.out.mono (w' := w9.setCell ⟨g2, n * 5 + 3, none⟩ (.slice A9 (mk + 1) c9)) (Q' := Q) fun b hq => ⟨hq, (Below.heap_setCell w9 ⟨g2, n * 5 + 3, none⟩ _ b (fun e => by
        have e : b = g2 := e
        have h1 := HQ.out b hq
        have h2 := (HLA.out.own.lt g2 rfl).1
        omega)).trans (HG9.out.block b (Nat.lt_of_lt_of_le (HQ.out b hq) (Nat.le_trans HBS.out HBA.out.size)) (fun e => by
        have h1 := HQ.out b hq
        have h2 := (HOA.out.lt b e.symm).1
        omega))⟩)
      have HB5S : Hid (base ≤ (w9.setCell ⟨g2, n * 5 + 3, none⟩ (.slice A9 (mk + 1) c9)).heap.size) := Nat.le_trans HBS.out HB5.out.size
      clear f3 f9 k3 k9 c0 c1 c2' c3 c4 c5
      generalize World.setCell w9 _ _ = w5 at HL5 HB5 HT5 HK5 HB5S ⊢
      have d0 : w5.cell? ⟨g3, 0, none⟩ = some (.int .i64 kk) := HT5.out.cell 0
      have d1 : w5.cell? ⟨g3, 1, none⟩ = some (.int .i64 kn) := HT5.out.cell 1
      have d2 : w5.cell? ⟨g3, 2, none⟩ = some (.int .i64 0) := HT5.out.cell 2
      have d3 : w5.cell? ⟨g3, 3, none⟩ = some (.slice none 0 0) := HT5.out.cell 3
      have d4 : w5.cell? ⟨g3, 4, none⟩ = some (.string ktx) := HT5.out.cell 4
      have d5 : w5.cell? ⟨g3, 5, none⟩ = some (.slice A7 m7 c7) := HT5.out.cell 5
      have HCL := Lib.hid (HIH.out (.mk kk kn ktx kks) A7 m7 c7 (n : Int) Q base (some ⟨g2, 0, none⟩) n2 c2 (rs2.set n ({ Rb with kids := Rb.kids ++ [n2] }, A9, c9)) w5 HSK.out HQ.out HB5S.out HK5.out HL5.out (by rw [List.length_set]; exact HN2.out) (HFW.out A9 c9) HSK2.out)
      unfold FlatSays treeC at HCL
      rw [HFS.out A9 c9] at HCL
      clear HIH HLA HOA HNI HBA HTA HKA HKX
      go_wp2_with (go_at_call 28; refine HCL.out.mono ?_; rintro e w6 ⟨A6, n6, c6, rs6, rfl, hn6, hl6, hf6, hm6, hb6⟩; have HN6 := Lib.hid hn6; have HL6 := Lib.hid hl6; have HF6 := Lib.hid hf6; have HM6 := Lib.hid hm6; have HB6 := Lib.hid (HB5.out.trans hb6); clear hn6 hl6 hf6 hm6 hb6)
      go_round
      case rel =>
        refine ⟨j + 1, A6, n6, c6, rs6, by omega, by go_num, rfl, ?_, HN6.out, HF6.out, HL6.out, HB6.out, ?_⟩
        · have h1 := congrArg List.length HM6.out
          rw [List.length_map, HN6.out, flatP_size, addKid_len, List.length_map, HN2.out] at h1
          omega
        · show _ = _
          rw [HT3.out, HM6.out]
      case measure => simp [intOf]; omega
    · obtain rfl : j = m := by omega
      have HE : Hid (rs2.map (·.1) = TOT) := by
        show _ = _
        rw [HT2.out, ← HKM.out, List.drop_length, flatPs]
      go_wp2_with fail
      go_ret
      exact ⟨A2, n2, c2, rs2, rfl, HN2.out, HL2.out, HF2.out, HE.out, HB2.out⟩
theorem flat_calls : ∀ (u : Nat) (t : TreeV) (A : Option Addr) (m c : Nat) (p : Int) (Q : Nat → Prop) (base : Nat) (Av : Option Addr) (n cv : Nat) (rs : List RowB) (w : World), tsz t ≤ u → (∀ b, Q b → b < base) → base ≤ w.heap.size → KidsAt w Q t.kids A m → BoxL w base (.slice Av n cv) rs → rs.length = n → FewW rs → n + tsz t ≤ 2000 →
      Calls Tryz.prog 28 #[.slice Av n cv, .agg (treeC t A m c).toArray, .int .i64 p] w (FlatSays t p base rs w)
  | 0, .mk _ _ _ ks, _, _, _, _, _, _, _, _, _, _, _, h, _, _, _, _, _, _, _ => by rw [tsz_mk] at h; omega
  | u + 1, .mk kd nd tx ks, A, m, c, p, Q, base, Av, n, cv, rs, w, h, hQ, hbs, hK, hL, hn, hF, hsz =>
    flat_step u (flat_calls u) kd nd tx ks A m c p Q base Av n cv rs w (by rw [tsz_mk] at h; omega) hQ hbs hK hL hn hF (by rw [tsz_mk] at hsz; omega)
end Go.Proofs.YtkmmlcnoeeaekaaGreatDoor
