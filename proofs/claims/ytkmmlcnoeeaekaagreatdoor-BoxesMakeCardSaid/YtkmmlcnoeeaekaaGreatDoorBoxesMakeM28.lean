/- Several texts in one: BxM, BxO, BxP. -/
import Derived.Test.YtkmmlcnoeeaekaaGreatDoorBoxesMakeM27
/- Contracts: row, container. -/
namespace Go.Proofs.YtkmmlcnoeeaekaaGreatDoor
open Go.RowKit
set_option linter.unusedVariables false
set_option linter.unusedSimpArgs false

set_option maxRecDepth 100000 in
set_option maxHeartbeats 4000000 in
theorem rowM_calls (I : BxV) (hc : DocOk I.ns) (f g : Nat) (p : TreeV → Bool) (hf : f = 61 ∨ f = 111) (ts : List TreeV) (A : Option Addr) (n c : Nat) (Q : Nat → Prop) (w : World) (hm : n ≤ 1000) (hcap : n ≤ c) (h : I.ok w w.heap.size)
    (hK : KidsAt w Q ts A n) (hQ : ∀ b, Q b → b < w.heap.size) (hn : ∀ t ∈ ts, TreeOk I t) (HP : SaysT f g p ts w) :
    Calls Tryz.prog 64 #[mkA I, .slice A n c, .func (.func f) #[] #[.pointer (some ⟨g, 0, none⟩)]] w fun e w' => ∃ A9 n9 c9, e = .returned (.slice A9 n9 c9) ∧ KidsAt w' (fun b => Q b ∨ MadeQ w w' b) ((docB I hc).rowT p ts) A9 n9 ∧ Below w.heap.size w w' := by
  have hba := below_alloc (Below.refl w.heap.size w) (.cells #[.slice I.A I.n I.c, .slice I.Al I.nl I.cl] 69)
  have HC := Lib.hid (splitT_calls I hc f g p hf ts A n c Q _ hm hcap ((h.below hba (Nat.le_refl _)).more hba.size) (hK.below hba hQ) (fun b hq => Nat.lt_of_lt_of_le (hQ b hq) hba.size) hn (HP.sub (fun t ht => ht) hba))
  have HB := Lib.hid hba
  have HQ := Lib.hid hQ
  generalize (docB I hc).rowT p ts = TOT at HC ⊢
  clear h hba hK hQ hn HP
  unfold mkA at HC ⊢
  go_enter Tryz.func64, Tryz.ntmps64
  go_wp2_with (go_at_call 106; refine HC.out.mono ?_; rintro e w3 ⟨A9, n9, c9, rfl, hn9, hk9, hb3⟩; have HB3 := Lib.hid hb3; have HK9 := Lib.hid hk9; clear hb3 hk9)
  go_ret
  refine ⟨A9, n9, c9, rfl, HK9.out.mono fun b hq => ⟨?_, rfl⟩, below_then HB.out HB3.out⟩
  rcases hq with hq | hq
  · exact .inl hq
  · exact .inr ⟨Nat.le_trans HB.out.size hq.1, hq.2⟩
theorem setCells_far {b g : Nat} (hb : b ≠ g) : ∀ (vs : List Value) (o : Nat) (w : World), (w.setCells g o vs).heap[b]? = w.heap[b]?
  | [], _, _ => rfl
  | v :: r, o, w => by rw [World.setCells, setCells_far hb r]; exact Below.heap_setCell w ⟨g, o, none⟩ v b (fun e => hb e)
theorem setCells_size (g : Nat) : ∀ (vs : List Value) (o : Nat) (w : World), w.heap.size ≤ (w.setCells g o vs).heap.size
  | [], _, _ => Nat.le_refl _
  | v :: r, o, w => by rw [World.setCells]; exact Nat.le_trans (by simp) (setCells_size g r _ _)
theorem MkR.far {I : BxV} {w0 : World} {gM gR : Nat} {cs : Array Value} {w : World} (h : MkR I w0 gM gR cs w) {g : Nat} (hg : w0.heap.size ≤ g) (h1 : gM ≠ g) (h2 : gR ≠ g) (i : Nat) (u : Value) : MkR I w0 gM gR cs (w.setCell ⟨g, i, none⟩ u) :=
  { h with bel := below_set h.bel hg u, mkb := Blk.far h.mkb h1 u, res := Blk.far h.res h2 u }
theorem KidsAt.far {w : World} {Q : Nat → Prop} {ts : List TreeV} {A : Option Addr} {n : Nat} (h : KidsAt w Q ts A n) {g : Nat} (hg : ∀ b, Q b → b ≠ g) (i : Nat) (u : Value) : KidsAt (w.setCell ⟨g, i, none⟩ u) Q ts A n :=
  h.mono fun b hq => ⟨hq, Below.heap_setCell w ⟨g, i, none⟩ u b (fun e => hg b hq e)⟩
/-- What comes back: a tree's cells, its kids in blocks that were there or are new. -/
def GotT (Q : Nat → Prop) (w : World) (t : TreeV) (e : Ending) (w' : World) : Prop := ∃ A9 m9 c9, e = .returned (.agg (treeC t A9 m9 c9).toArray) ∧ KidsAt w' (fun b => Q b ∨ MadeQ w w' b) t.kids A9 m9 ∧ Below w.heap.size w w'
theorem got_tree {fn : Func} {p : Tmp} {gR : Nat} {Q : Nat → Prop} {w w' : World} {t : TreeV} {A9 : Option Addr} {m9 c9 : Nat} (hres : fn.results = #[.cell p 75]) (tmps : Array Value) (hp : tmps.getD p undef = .pointer (some ⟨gR, 0, none⟩)) (hb : Blk w' gR 75 (treeC t A9 m9 c9).toArray) (hk : KidsAt w' (fun b => Q b ∨ MadeQ w w' b) t.kids A9 m9) (hw : Below w.heap.size w w') :
    bodyPost Tryz.prog fn (fun e w' => GotT Q w t e w') .ret { tmps := tmps, defers := [] } w' :=
  bodyPost_ret (ret_tree hres _ _ gR _ hp hb rfl) rfl ⟨A9, m9, c9, rfl, hk, hw⟩
set_option maxRecDepth 100000 in
set_option maxHeartbeats 4000000 in
theorem container_calls (I : BxV) (hc : DocOk I.ns) (nd : Int) (ts : List TreeV) (A : Option Addr) (n c : Nat) (Q : Nat → Prop) (w : World) (hm : n ≤ 1000) (hcap : n ≤ c) (h : I.ok w w.heap.size)
    (hK : KidsAt w Q ts A n) (hQ : ∀ b, Q b → b < w.heap.size) (hn : ∀ t ∈ ts, TreeOk I t) :
    Calls Tryz.prog 29 #[mkA I, .int .i64 nd, .slice A n c] w (GotT Q w ((docB I hc).containerT nd ts)) := by
  have HR0 := MkR.new I w #[.int .i64 0, .int .i64 0, .int .i64 0, .slice none 0 0, .string ⟨#[]⟩, .slice none 0 0] rfl
  have hT := Blk.new ((w.alloc (.cells #[.slice I.A I.n I.c, .slice I.Al I.nl I.cl] 69)).alloc (.cells #[.int .i64 0, .int .i64 0, .int .i64 0, .slice none 0 0, .string ⟨#[]⟩, .slice none 0 0] 75)) 75 #[.int .i64 2, .int .i64 nd, .int .i64 0, .slice none 0 0, .string ⟨#[]⟩, .slice A n c]
  rw [alloc_size, alloc_size] at hT
  have HT := Lib.hid hT
  have HR := Lib.hid (HR0.alloc (.cells #[.int .i64 2, .int .i64 nd, .int .i64 0, .slice none 0 0, .string ⟨#[]⟩, .slice A n c] 75))
  have hQ' : ∀ w', Below w.heap.size w w' → ∀ b, Q b → b < w'.heap.size := fun w' hb b hq => Nat.lt_of_lt_of_le (hQ b hq) hb.size
  have HCN := Lib.hid (fun w' (hb : Below w.heap.size w w') (hM : MkB I w.heap.size w') => containsT_calls 61 w.heap.size ((docB I hc).blockyT 1) ts A n c Q w' hm (.inl rfl) (hK.below hb hQ) (hQ' w' hb) (says_cont I hc w.heap.size ts w' ((h.below hb (Nat.le_refl _)).more hb.size) hM hn))
  have HRW := Lib.hid (fun w' (hb : Below w.heap.size w w') (hM : MkB I w.heap.size w') => rowM_calls I hc 61 w.heap.size ((docB I hc).blockyT 1) (.inl rfl) ts A n c Q w' hm hcap ((h.below hb (Nat.le_refl _)).more hb.size) (hK.below hb hQ) (hQ' w' hb) hn (says_cont I hc w.heap.size ts w' ((h.below hb (Nat.le_refl _)).more hb.size) hM hn))
  have HV : Hid ((docB I hc).containerT nd ts = if ts.any ((docB I hc).blockyT 1) = true then TreeV.mk 1 nd noS ((docB I hc).rowT ((docB I hc).blockyT 1) ts) else TreeV.mk 2 nd noS ts) := rfl
  have HK := Lib.hid hK
  have HQ := Lib.hid hQ
  generalize ts.any ((docB I hc).blockyT 1) = any at HCN HV
  generalize (docB I hc).rowT ((docB I hc).blockyT 1) ts = RT at HRW HV
  generalize (docB I hc).containerT nd ts = TR at HV ⊢
  clear h hK hQ hn HR0 hT hQ'
  unfold mkA at HRW ⊢
  go_enter Tryz.func29, Tryz.ntmps29
  go_upto_region 3 with fail
  generalize World.alloc (World.alloc (World.alloc w _) _) _ = w1 at HR HT ⊢
  cases any with
  | false =>
    have HE : Hid (TR = TreeV.mk 2 nd noS ts) := by show _ = _; rw [HV.out]; rfl
    go_upto_region 5 with (go_at_call 63; refine (HCN.out _ HR.out.bel HR.out.mkb).mono ?_; rintro e w3 ⟨rfl, hb3⟩; replace HT := Lib.hid (HT.out.below hb3 HT.out.lt); replace HR := Lib.hid (HR.out.call hb3); clear hb3)
    have t0 : w3.cell? ⟨w.heap.size + 1 + 1, 0, none⟩ = some (.int .i64 2) := HT.out.cell 0
    have t1 : w3.cell? ⟨w.heap.size + 1 + 1, 1, none⟩ = some (.int .i64 nd) := HT.out.cell 1
    have t2 : w3.cell? ⟨w.heap.size + 1 + 1, 2, none⟩ = some (.int .i64 0) := HT.out.cell 2
    have t3 : w3.cell? ⟨w.heap.size + 1 + 1, 3, none⟩ = some (.slice none 0 0) := HT.out.cell 3
    have t4 : w3.cell? ⟨w.heap.size + 1 + 1, 4, none⟩ = some (.string ⟨#[]⟩) := HT.out.cell 4
    have t5 : w3.cell? ⟨w.heap.size + 1 + 1, 5, none⟩ = some (.slice A n c) := HT.out.cell 5
    go_wp2_with (refine wpList_store_mid rfl _ _ _ rfl (w.heap.size + 1) 0 #[.int .i64 2, .int .i64 nd, .int .i64 0, .slice none 0 0, .string ⟨#[]⟩, .slice A n c] rfl rfl (HR.out.set _ rfl).1 (by kernel_rfl) (by kernel_rfl) ?_; obtain ⟨w5, hw5, hr5⟩ := (HR.out.set #[.int .i64 2, .int .i64 nd, .int .i64 0, .slice none 0 0, .string ⟨#[]⟩, .slice A n c] rfl).2; rw [hw5]; clear hw5; have HR5 := Lib.hid hr5; clear hr5)
    rw [HE.out]
    exact got_tree Tryz.results29 _ rfl HR5.out.res ((HK.out.below HR5.out.bel HQ.out).mono fun b hq => ⟨.inl hq, rfl⟩) HR5.out.bel
  | true =>
    have HE : Hid (TR = TreeV.mk 1 nd noS RT) := by show _ = _; rw [HV.out]; rfl
    go_upto_region 4 with (go_at_call 63; refine (HCN.out _ HR.out.bel HR.out.mkb).mono ?_; rintro e w3 ⟨rfl, hb3⟩; replace HT := Lib.hid (HT.out.below hb3 HT.out.lt); replace HR := Lib.hid (HR.out.call hb3); clear hb3)
    have m0 : w3.cell? ⟨w.heap.size, 0, none⟩ = some (.slice I.A I.n I.c) := HR.out.s.1
    have m1 : w3.cell? ⟨w.heap.size, 1, none⟩ = some (.slice I.Al I.nl I.cl) := HR.out.s.2
    go_upto_region 5 with (go_at_call 64; refine (HRW.out _ HR.out.bel HR.out.mkb).mono ?_; rintro e w4 ⟨A9, n9, c9, rfl, hk9, hb4⟩; have HK9 := Lib.hid hk9; have HT4 := Lib.hid (HT.out.below hb4 HT.out.lt); have HR4 := Lib.hid (HR.out.call hb4); have y0 : w4.frozen? ⟨w.heap.size + 1 + 1, 0, none⟩ = false := HT4.out.free 0; have y5 : w4.frozen? ⟨w.heap.size + 1 + 1, 5, none⟩ = false := HT4.out.free 5; have t0 : w4.cell? ⟨w.heap.size + 1 + 1, 0, none⟩ = some (.int .i64 2) := HT4.out.cell 0; have t5 : w4.cell? ⟨w.heap.size + 1 + 1, 5, none⟩ = some (.slice A n c) := HT4.out.cell 5; clear hk9 m0 m1)
    have HT5 : Hid (Blk ((w4.setCell ⟨w.heap.size + 1 + 1, 0, none⟩ (.int .i64 1)).setCell ⟨w.heap.size + 1 + 1, 5, none⟩ (.slice A9 n9 c9)) (w.heap.size + 1 + 1) 75 #[.int .i64 1, .int .i64 nd, .int .i64 0, .slice none 0 0, .string ⟨#[]⟩, .slice A9 n9 c9]) := (HT4.out.stored 0 (.int .i64 1)).stored 5 (.slice A9 n9 c9)
    have HR5 := Lib.hid ((HR4.out.far (g := w.heap.size + 1 + 1) (by omega) (by omega) (by omega) 0 (.int .i64 1)).far (g := w.heap.size + 1 + 1) (by omega) (by omega) (by omega) 5 (.slice A9 n9 c9))
    have hg8 : ∀ b, Q b ∨ MadeQ w3 w4 b → b ≠ w.heap.size + 1 + 1 := fun b hq e => by
      have h8 := HT.out.lt
      rcases hq with hq | hq
      · have := HQ.out b hq; omega
      · have := hq.1; omega
    have HK5 := Lib.hid ((HK9.out.far hg8 0 (.int .i64 1)).far hg8 5 (.slice A9 n9 c9))
    have HKK : Hid (∀ b, Q b ∨ MadeQ w3 w4 b → Q b ∨ MadeQ w w4 b) := fun b hq => hq.elim .inl fun h => .inr ⟨Nat.le_trans HR.out.bel.size h.1, h.2⟩
    have hsz : ((w4.setCell ⟨w.heap.size + 1 + 1, 0, none⟩ (.int .i64 1)).setCell ⟨w.heap.size + 1 + 1, 5, none⟩ (.slice A9 n9 c9)).heap.size = w4.heap.size := by simp
    have HSZ := Lib.hid hsz
    clear y0 y5 t0 t5 hg8 hsz hb4
    generalize World.setCell (World.setCell w4 _ _) _ _ = w5 at HT5 HR5 HK5 HSZ ⊢
    have t0 : w5.cell? ⟨w.heap.size + 1 + 1, 0, none⟩ = some (.int .i64 1) := HT5.out.cell 0
    have t1 : w5.cell? ⟨w.heap.size + 1 + 1, 1, none⟩ = some (.int .i64 nd) := HT5.out.cell 1
    have t2 : w5.cell? ⟨w.heap.size + 1 + 1, 2, none⟩ = some (.int .i64 0) := HT5.out.cell 2
    have t3 : w5.cell? ⟨w.heap.size + 1 + 1, 3, none⟩ = some (.slice none 0 0) := HT5.out.cell 3
    have t4 : w5.cell? ⟨w.heap.size + 1 + 1, 4, none⟩ = some (.string ⟨#[]⟩) := HT5.out.cell 4
    have t5 : w5.cell? ⟨w.heap.size + 1 + 1, 5, none⟩ = some (.slice A9 n9 c9) := HT5.out.cell 5
    go_wp2_with (refine wpList_store_mid rfl _ _ _ rfl (w.heap.size + 1) 0 #[.int .i64 1, .int .i64 nd, .int .i64 0, .slice none 0 0, .string ⟨#[]⟩, .slice A9 n9 c9] rfl rfl (HR5.out.set _ rfl).1 (by kernel_rfl) (by kernel_rfl) ?_; obtain ⟨w6, hw6, hr6⟩ := (HR5.out.set #[.int .i64 1, .int .i64 nd, .int .i64 0, .slice none 0 0, .string ⟨#[]⟩, .slice A9 n9 c9] rfl).2; have HW6 := Lib.hid hw6; rw [hw6]; clear hw6; have HR6 := Lib.hid hr6; clear hr6)
    rw [HE.out]
    refine got_tree Tryz.results29 _ rfl HR6.out.res ?_ HR6.out.bel
    have hb56 : ∀ b, b ≠ w.heap.size + 1 → w6.heap[b]? = w5.heap[b]? := fun b hb => by rw [← HW6.out]; exact setCells_far hb _ _ _
    refine HK5.out.mono fun b hq => ⟨?_, hb56 b (fun e => ?_)⟩
    · rcases HKK.out b hq with h | h
      · exact .inl h
      · refine .inr ⟨h.1, Nat.lt_of_lt_of_le h.2 ?_⟩
        rw [← HSZ.out, ← HW6.out]; exact setCells_size _ _ _ _
    · rcases hq with h | h
      · have := HQ.out b h; omega
      · have h8 := HR.out.res.lt; have := h.1; omega
end Go.Proofs.YtkmmlcnoeeaekaaGreatDoor
/- Contracts: content, by both; a node's box may be. -/
namespace Go.Proofs.YtkmmlcnoeeaekaaGreatDoor
open Go.RowKit
set_option linter.unusedVariables false
set_option linter.unusedSimpArgs false

theorem content_callsB (I : BxV) (hc : checkE I.ns = 0) : ∀ (r n : Nat) (w : World), rankN I.ns n < r → I.ok w w.heap.size → n < I.n →
    Calls Tryz.prog 31 #[mkA I, .int .i64 (n : Nat)] w fun e w2 => ∃ A' c', e = .returned (.slice A' ((docB I (docOk hc)).content n).length c') ∧ w2.ownsRow w.heap.size 3 1 (.slice A' ((docB I (docOk hc)).content n).length c') ((docB I (docOk hc)).content n).length (nums ((docB I (docOk hc)).content n)) ∧ Below w.heap.size w w2
  | 0, _, _, h, _, _ => by omega
  | r + 1, n, w, hr, h, hn => content_step I hc n w h hn fun k w' hk h' => content_callsB I hc r k w' (by have := rank_deep (docOk hc) n k hk; omega) h' (by have := kid_lt (docOk hc) hk; rw [h.hn] at this; exact this)
theorem rcontent_callsB (I : BxV) (hc : checkE I.ns = 0) (gM : Nat) : ∀ (r n : Nat) (w : World), rankN I.ns n < r → I.ok w w.heap.size → MkAt I gM w → n < I.n →
    Calls Tryz.prog 35 #[.pointer (some ⟨gM, 0, none⟩), .int .i64 (n : Nat)] w fun e w2 => ∃ A' c', e = .returned (.slice A' ((docB I (docOk hc)).content n).length c') ∧ w2.ownsRow w.heap.size 3 1 (.slice A' ((docB I (docOk hc)).content n).length c') ((docB I (docOk hc)).content n).length (nums ((docB I (docOk hc)).content n)) ∧ Below w.heap.size w w2
  | 0, _, _, h, _, _, _ => by omega
  | r + 1, n, w, hr, h, hM, hn => rcontent_step I hc gM n w h hM hn fun k w' hk h' hM' => rcontent_callsB I hc gM r k w' (by have := rank_deep (docOk hc) n k hk; omega) h' hM' (by have := kid_lt (docOk hc) hk; rw [h.hn] at this; exact this)
/-- What content answers. -/
def ContSays (X : DocB) (n : Nat) (w : World) (e : Ending) (w2 : World) : Prop := ∃ A' c', e = .returned (.slice A' (X.content n).length c') ∧ (X.content n).length ≤ c' ∧ Holds w2 w2.heap.size A' (nums (X.content n)) ∧ Below w.heap.size w w2
theorem content_says (I : BxV) (hc : checkE I.ns = 0) (n : Nat) (w : World) (h : I.ok w w.heap.size) (hn : n < I.n) :
    Calls Tryz.prog 31 #[mkA I, .int .i64 (n : Nat)] w (ContSays (docB I (docOk hc)) n w) :=
  (content_callsB I hc _ n w (Nat.lt_succ_self _) h hn).mono fun e w2 ⟨A', c', he, ho, hb⟩ => ⟨A', c', he, own_leT ho, Holds.of_own ho, hb⟩
theorem text_le {ns : List NodeV} (h : DocOk ns) {k : Nat} (hk : k < ns.length) : (nd ns k).text.size ≤ 400 := by
  have h1 := h.one k hk
  unfold nodeE at h1
  split at h1
  · unfold oneE at h1
    split at h1
    · cases h1
    · split at h1
      · cases h1
      · split at h1
        · rename_i h2; exact absurd h1 h2
        · split at h1
          · cases h1
          · omega
  · cases h1
theorem turn_size (m : Int) (s : ByteArray) : (turnS m s).size = s.size := by
  unfold turnS
  show (s.data.toList.map (turnB m)).toArray.size = s.data.size
  simp
theorem box_ok (I : BxV) (h : DocOk I.ns) (hn : I.ns.length = I.n) {k : Nat} (hk : k < I.n) : TreeOk I ((docB I h).box k) := by
  refine ⟨by rw [DocB.box_node]; omega, fun h4 => ⟨by rw [DocB.box_node]; omega, ?_⟩⟩
  rw [DocB.box_eq] at h4 ⊢
  unfold DocB.boxB DocB.containerT at h4 ⊢
  repeat' split at h4
  all_goals first | (exfalso; revert h4; simp [TreeV.kind]; done) | skip
  · rename_i h3
    rw [if_pos h3]
    show (turnS _ _).size ≤ 400
    rw [turn_size]
    exact text_le h (by omega)
  · rename_i h3 h5
    rw [if_neg h3, if_pos h5]
    exact (by decide : nlS.size ≤ 400)
theorem boxes_ok (I : BxV) (h : DocOk I.ns) (hn : I.ns.length = I.n) {l : List Nat} (hl : ∀ k ∈ l, k < I.n) : ∀ t ∈ l.map (docB I h).box, TreeOk I t := fun t ht => by
  obtain ⟨k, hk, rfl⟩ := List.mem_map.1 ht
  exact box_ok I h hn (hl k hk)
/-- What comes back where all is new. -/
def MadeT (w : World) (t : TreeV) (e : Ending) (w' : World) : Prop := ∃ A m c, e = .returned (.agg (treeC t A m c).toArray) ∧ KidsAt w' (MadeQ w w') t.kids A m ∧ Below w.heap.size w w'
theorem KidsAt.step {w1 w w' : World} {ts : List TreeV} {A : Option Addr} {n : Nat} (h : KidsAt w (MadeQ w1 w) ts A n) (hb : Below w.heap.size w w') : KidsAt w' (MadeQ w1 w') ts A n :=
  h.mono fun b hq => ⟨⟨hq.1, Nat.lt_of_lt_of_le hq.2 hb.size⟩, hb.block b hq.2⟩
theorem KidsAt.earlier {w0 w1 w : World} {ts : List TreeV} {A : Option Addr} {n : Nat} (h : KidsAt w (MadeQ w1 w) ts A n) (hb : w0.heap.size ≤ w1.heap.size) : KidsAt w (MadeQ w0 w) ts A n :=
  h.mono fun b hq => ⟨⟨Nat.le_trans hb hq.1, hq.2⟩, rfl⟩
/-- A list of one, just laid. -/
theorem kids_one {w : World} {Q : Nat → Prop} {t : TreeV} {A : Option Addr} {m c : Nat} (h : KidsAt w Q t.kids A m) (hQ : ∀ b, Q b → b < w.heap.size) : KidsAt (w.alloc (.cells (treeC t A m c).toArray 75)) (fun b => Q b ∨ b = w.heap.size) [t] (some ⟨w.heap.size, 0, none⟩) 1 := by
  refine ⟨rfl, .inr ⟨w.heap.size, 0, rfl, .inr rfl, ?_⟩⟩
  rw [TsAt]
  have hb := below_alloc (Below.refl w.heap.size w) (.cells (treeC t A m c).toArray 75)
  refine ⟨⟨A, m, c, fun j u hu => ?_, tAt_kids.2 (h.mono fun b hq => ⟨.inl hq, hb.block b (hQ b hq)⟩)⟩, by rw [TsAt]; trivial⟩
  rw [Nat.zero_add, (Blk.new w 75 (treeC t A m c).toArray).cell j]
  simpa using hu
theorem kids_one1 {w1 w : World} {t : TreeV} {A : Option Addr} {m c : Nat} (h : KidsAt w (MadeQ w1 w) t.kids A m) (h1 : w1.heap.size ≤ w.heap.size) : KidsAt (w.alloc (.cells (treeC t A m c).toArray 75)) (MadeQ w1 (w.alloc (.cells (treeC t A m c).toArray 75))) [t] (some ⟨w.heap.size, 0, none⟩) 1 :=
  (kids_one h fun b hq => hq.2).mono fun b hq => ⟨by
    unfold MadeQ
    rw [alloc_size]
    rcases hq with hq | hq
    · exact ⟨hq.1, by have := hq.2; omega⟩
    · omega, rfl⟩
theorem GotT.made {Q : Nat → Prop} {w1 w : World} {t : TreeV} {e : Ending} {w' : World} (h : GotT Q w t e w') (hq : ∀ b, Q b → w1.heap.size ≤ b ∧ b < w.heap.size) (h1 : w1.heap.size ≤ w.heap.size) : ∃ A9 m9 c9, e = .returned (.agg (treeC t A9 m9 c9).toArray) ∧ KidsAt w' (MadeQ w1 w') t.kids A9 m9 ∧ Below w.heap.size w w' := by
  obtain ⟨A9, m9, c9, he, hk, hb⟩ := h
  refine ⟨A9, m9, c9, he, hk.mono fun b hb' => ⟨?_, rfl⟩, hb⟩
  rcases hb' with hb' | hb'
  · exact ⟨(hq b hb').1, Nat.lt_of_lt_of_le (hq b hb').2 hb.size⟩
  · exact ⟨Nat.le_trans h1 hb'.1, hb'.2⟩
end Go.Proofs.YtkmmlcnoeeaekaaGreatDoor
/- Contracts: cell, idleNodes; the closures of cells. -/
namespace Go.Proofs.YtkmmlcnoeeaekaaGreatDoor
open Go.RowKit
set_option linter.unusedVariables false
set_option linter.unusedSimpArgs false

theorem MkR.ok {I : BxV} {w0 : World} {gM gR : Nat} {cs : Array Value} {w : World} (h : MkR I w0 gM gR cs w) (hok : I.ok w0 w0.heap.size) : I.ok w w.heap.size := (hok.below h.bel (Nat.le_refl _)).more h.bel.size
theorem MkR.set2 {I : BxV} {w0 : World} {gM gR : Nat} {cs : Array Value} {w : World} (h : MkR I w0 gM gR cs w) (vals : Array Value) (hs : vals.size = 6) : w.there gR 0 vals.size ∧ ∃ w2, w.setCells gR 0 vals.toList = w2 ∧ MkR I w0 gM gR vals w2 ∧ w.heap.size ≤ w2.heap.size ∧ ∀ b, b ≠ gR → w2.heap[b]? = w.heap[b]? := by
  obtain ⟨h1, w2, h2, h3⟩ := h.set vals hs
  exact ⟨h1, w2, h2, h3, by rw [← h2]; exact setCells_size _ _ _ _, fun b hb => by rw [← h2]; exact setCells_far hb _ _ _⟩
theorem KidsAt.moved {w1 w w2 : World} {gR : Nat} {ts : List TreeV} {A : Option Addr} {n : Nat} (h : KidsAt w (MadeQ w1 w) ts A n) (hg : gR < w1.heap.size) (hs : w.heap.size ≤ w2.heap.size ∧ ∀ b, b ≠ gR → w2.heap[b]? = w.heap[b]?) : KidsAt w2 (MadeQ w1 w2) ts A n :=
  h.mono fun b hq => ⟨⟨hq.1, Nat.lt_of_lt_of_le hq.2 hs.1⟩, hs.2 b (fun e => by have := hq.1; omega)⟩
set_option maxRecDepth 100000 in
set_option maxHeartbeats 4000000 in
theorem cellM_calls (I : BxV) (hc : DocOk I.ns) (nd : Int) (l : List Nat) (Al : Option Addr) (nl cl : Nat) (w : World) (h : I.ok w w.heap.size) (hl : l.length = nl) (hL : Holds w w.heap.size Al (nums l)) (hm : nl ≤ 200) (hlt : ∀ k ∈ l, k < I.n)
    (IH : ∀ k ∈ l, ∀ w' : World, I.ok w' w'.heap.size → BoxSays (docB I hc) I k w') :
    Calls Tryz.prog 161 #[mkA I, .int .i64 nd, .slice Al nl cl] w (MadeT w ((docB I hc).cellT (docB I hc).box nd l)) := by
  have HR := Lib.hid (MkR.new I w #[.int .i64 0, .int .i64 0, .int .i64 0, .slice none 0 0, .string ⟨#[]⟩, .slice none 0 0] rfl)
  have HBX := Lib.hid (fun w' (hb : Below w.heap.size w w') => boxesB_calls (docB I hc) I l Al nl cl w' ((h.below hb (Nat.le_refl _)).more hb.size) hl ((hL.below hb (Nat.le_refl _)).more hb.size) hm IH)
  have HCT := Lib.hid (fun (A : Option Addr) (c : Nat) (Q : Nat → Prop) w' (hb : Below w.heap.size w w') (hcap : nl ≤ c) (hk : KidsAt w' Q ((l.map (docB I hc).box)) A nl) (hq : ∀ b, Q b → b < w'.heap.size) => container_calls I hc (-1) (l.map (docB I hc).box) A nl c Q w' (by omega) hcap ((h.below hb (Nat.le_refl _)).more hb.size) hk hq (boxes_ok I hc h.hn hlt))
  have HV : Hid ((docB I hc).cellT (docB I hc).box nd l = TreeV.mk 9 nd noS [(docB I hc).containerT (-1) (l.map (docB I hc).box)]) := rfl
  rw [HV.out]
  generalize (docB I hc).containerT (-1) (l.map (docB I hc).box) = CT at HCT ⊢
  generalize l.map (docB I hc).box = TS at HBX HCT
  clear h hl hL IH HV hlt
  unfold mkA at HCT HBX ⊢
  go_enter Tryz.func161, Tryz.ntmps161
  go_upto_region 1 with fail
  have HZ := Lib.hid (show ((w.alloc (.cells #[.slice I.A I.n I.c, .slice I.Al I.nl I.cl] 69)).alloc (.cells #[.int .i64 0, .int .i64 0, .int .i64 0, .slice none 0 0, .string ⟨#[]⟩, .slice none 0 0] 75)).heap.size = w.heap.size + 2 by simp)
  generalize World.alloc (World.alloc w _) _ = w1 at HR HZ ⊢
  have hS0 : (fun w' => w'.cell? ⟨w.heap.size, 0, none⟩ = some (.slice I.A I.n I.c) ∧ w'.cell? ⟨w.heap.size, 1, none⟩ = some (.slice I.Al I.nl I.cl)) w1 := HR.out.s
  obtain ⟨ck, cn, ctx, cks⟩ := CT
  have HS1 := Lib.hid (Nat.le_refl w1.heap.size)
  refine wp_region_noPanic ?_
  refine region_M (S := fun w' => w'.cell? ⟨w.heap.size, 0, none⟩ = some (.slice I.A I.n I.c) ∧ w'.cell? ⟨w.heap.size, 1, none⟩ = some (.slice I.Al I.nl I.cl)) (T := []) (by kernel_rfl) ?_
  refine anyM_free (i := 0) (oi := { dst := some 7, op := _, type := _, pos := _, after := _, guard := _ }) (v := ?_) rfl (by kernel_rfl) (fun _ _ _ h => h) (Or.inl ⟨by kernel_rfl, ?_⟩) (fun _ => hS0) ?_
  rotate_left 1
  · (intro w hSw; (try dsimp only at hSw); go_simp; try with_reducible rfl)
  try simp only [Act.put, Array.toArray_toList, List.setIfInBounds_toArray, List.set_cons_zero, List.set_cons_succ]
  refine anyM_free (i := 1) (oi := { dst := some 8, op := _, type := _, pos := _, after := _, guard := _ }) (v := ?_) rfl (by kernel_rfl) (fun _ _ _ h => h) (Or.inl ⟨by kernel_rfl, ?_⟩) (fun _ => hS0) ?_
  rotate_left 1
  · (intro w hSw; (try dsimp only at hSw); go_simp; try with_reducible rfl)
  try simp only [Act.put, Array.toArray_toList, List.setIfInBounds_toArray, List.set_cons_zero, List.set_cons_succ]
  refine anyM_take (i := 2) (oi := { dst := some 9, op := _, type := _, pos := _, after := _, guard := _ }) (v := ?_) rfl (by kernel_rfl) (fun _ _ _ h => h) (Or.inl ⟨by kernel_rfl, ?_⟩) hS0 ?_
  rotate_left 1
  · (intro w hSw; (try dsimp only at hSw); go_simp; try with_reducible rfl)
  try simp only [Act.put, Array.toArray_toList, List.setIfInBounds_toArray, List.set_cons_zero, List.set_cons_succ]
  refine anyM_take (i := 3) (oi := { dst := some 10, op := _, type := _, pos := _, after := _, guard := _ }) (v := ?_) rfl (by kernel_rfl) (fun _ _ _ h => h) (Or.inl ⟨by kernel_rfl, ?_⟩) hS0 ?_
  rotate_left 1
  · (intro w hSw; (try dsimp only at hSw); go_simp; try with_reducible rfl)
  try simp only [Act.put, Array.toArray_toList, List.setIfInBounds_toArray, List.set_cons_zero, List.set_cons_succ]
  refine anyM_free (i := 4) (oi := { dst := some 11, op := _, type := _, pos := _, after := _, guard := _ }) (v := ?_) rfl (by kernel_rfl) (fun _ _ _ h => h) (Or.inl ⟨by kernel_rfl, ?_⟩) (fun _ => hS0) ?_
  rotate_left 1
  · (intro w hSw; (try dsimp only at hSw); go_simp; try with_reducible rfl)
  try simp only [Act.put, Array.toArray_toList, List.setIfInBounds_toArray, List.set_cons_zero, List.set_cons_succ]
  refine anyM_one (i := 5) (by kernel_rfl) rfl (fun K hK => ?_)
  go_simp
  refine Calls.mono (HBX.out _ (by first | exact HR.out.bel | exact HR.out.drew.bel)) ?_
  rintro e wa ⟨Ab, cb, rfl, hcb, hkwa, hbwa⟩
  have hsa9 : w1.heap.size ≤ wa.heap.size := hbwa.size
  have HCB := Lib.hid hcb
  have KA := Lib.hid (show KidsAt wa (MadeQ w1 wa) _ _ _ from KidsAt.earlier hkwa (by first | exact Nat.le_refl _ | exact HS1.out))
  replace HR := Lib.hid (by first | exact HR.out.call hbwa | exact HR.out.drew.call hbwa)
  clear hkwa hbwa hcb
  have HSA := Lib.hid (show w1.heap.size ≤ wa.heap.size from hsa9)
  have hS0 := HR.out.s
  refine hK.out _ _ (fun _ => hS0) ?_
  clear hK K
  try simp only [Act.put, Array.toArray_toList, List.setIfInBounds_toArray, List.set_cons_zero, List.set_cons_succ]
  refine anyM_one (i := 6) (by kernel_rfl) rfl (fun K hK => ?_)
  go_simp
  refine Calls.mono (HCT.out _ _ (MadeQ w1 wa) _ (by first | exact HR.out.bel | exact HR.out.drew.bel) HCB.out (by first | exact KA.out | exact KA.out) (fun b hq => hq.2)) ?_
  rintro e wb hgt
  obtain ⟨A9, m9, c9, he, hk9, hb9⟩ := GotT.made (w1 := w1) hgt (fun b hq => hq) HSA.out
  obtain rfl : e = .returned (.agg #[.int .i64 ck, .int .i64 cn, .int .i64 0, .slice none 0 0, .string ctx, .slice A9 m9 c9]) := he
  have HK9 := Lib.hid hk9
  have HSB := Lib.hid (Nat.le_trans HSA.out hb9.size)
  replace HR := Lib.hid (by first | exact HR.out.call hb9 | exact HR.out.drew.call hb9)
  clear hgt hk9 hb9
  have hS0 := HR.out.s
  refine hK.out _ _ (fun _ => hS0) ?_
  clear hK K
  try simp only [Act.put, Array.toArray_toList, List.setIfInBounds_toArray, List.set_cons_zero, List.set_cons_succ]
  refine anyM_one (i := 7) (by kernel_rfl) rfl (fun K hK => ?_)
  go_simp
  replace HR := Lib.hid (HR.out.alloc (.cells #[.int .i64 ck, .int .i64 cn, .int .i64 0, .slice none 0 0, .string ctx, .slice A9 m9 c9] 75))
  have HK1 := Lib.hid (kids_one1 (t := .mk ck cn ctx cks) (c := c9) HK9.out HSB.out)
  have hS0 := HR.out.s
  refine hK.out _ _ (fun _ => hS0) ?_
  clear hK K
  try simp only [Act.put, Array.toArray_toList, List.setIfInBounds_toArray, List.set_cons_zero, List.set_cons_succ]
  refine anyM_free (i := 8) (oi := { dst := some 15, op := _, type := _, pos := _, after := _, guard := _ }) (v := ?_) rfl (by kernel_rfl) (fun _ _ _ h => h) (Or.inl ⟨by kernel_rfl, ?_⟩) (fun _ => hS0) ?_
  rotate_left 1
  · (intro w hSw; (try dsimp only at hSw); go_simp; try with_reducible rfl)
  try simp only [Act.put, Array.toArray_toList, List.setIfInBounds_toArray, List.set_cons_zero, List.set_cons_succ]
  refine anyM_one (i := 9) (by kernel_rfl) rfl (fun K hK => ?_)
  rw [if_pos (by kernel_rfl)]
  refine wp_store_mid _ _ _ rfl (w.heap.size + 1) 0 #[.int .i64 9, .int .i64 nd, .int .i64 0, .slice none 0 0, .string ⟨#[]⟩, .slice (some ⟨wb.heap.size, 0, none⟩) 1 1] rfl rfl (by first | exact (HR.out.set2 #[.int .i64 9, .int .i64 nd, .int .i64 0, .slice none 0 0, .string ⟨#[]⟩, .slice (some ⟨wb.heap.size, 0, none⟩) 1 1] rfl).1 | exact (HR.out.drew.set2 #[.int .i64 9, .int .i64 nd, .int .i64 0, .slice none 0 0, .string ⟨#[]⟩, .slice (some ⟨wb.heap.size, 0, none⟩) 1 1] rfl).1) (by kernel_rfl) (by kernel_rfl) ?_
  first | (obtain ⟨wd, hwwd, hrwd, hzwd⟩ := (HR.out.set2 #[.int .i64 9, .int .i64 nd, .int .i64 0, .slice none 0 0, .string ⟨#[]⟩, .slice (some ⟨wb.heap.size, 0, none⟩) 1 1] rfl).2; rw [hwwd]; clear hwwd; replace HR := Lib.hid hrwd; have HZS := Lib.hid hzwd; clear hrwd hzwd) | (obtain ⟨wd, hwwd, hrwd, hzwd⟩ := (HR.out.drew.set2 #[.int .i64 9, .int .i64 nd, .int .i64 0, .slice none 0 0, .string ⟨#[]⟩, .slice (some ⟨wb.heap.size, 0, none⟩) 1 1] rfl).2; rw [hwwd]; clear hwwd; replace HR := Lib.hid hrwd; have HZS := Lib.hid hzwd; clear hrwd hzwd)
  change K (Act.put _ none undef) _
  have hS0 := HR.out.s
  refine hK.out _ _ (fun _ => hS0) ?_
  clear hK K
  try simp only [Act.put, Array.toArray_toList, List.setIfInBounds_toArray, List.set_cons_zero, List.set_cons_succ]
  refine anyM_done (by kernel_rfl) ?_ _
  refine NoPanic.normal ?_
  go_wp2_with fail
  exact bodyPost_ret (ret_tree Tryz.results161 _ _ (w.heap.size + 1) _ rfl HR.out.res rfl) rfl ⟨_, _, _, rfl, KidsAt.earlier (KidsAt.moved (w1 := w1) HK1.out (by have := HZ.out; omega) HZS.out) (by have := HZ.out; omega), HR.out.bel⟩

end Go.Proofs.YtkmmlcnoeeaekaaGreatDoor
