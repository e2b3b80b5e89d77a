/- Several texts in one: BxRv. -/
import Derived.Test.YtkmmlcnoeeaekaaGreatDoorBoxesMakeM40
/- Contract of the reference's runs. -/
namespace Go.Proofs.YtkmmlcnoeeaekaaGreatDoor
open Go.RowKit Go.Maps
set_option linter.unusedVariables false
set_option linter.unusedSimpArgs false

theorem RSB.grown {X : DocB} {I : BxV} {base gM bK : Nat} {O : Nat → Prop} {w w' : World} {S : List PBox} {row : Option Nat} (h : RSB X I base gM bK O w S) (hg : w.grownBy w' row) (hrow : ∀ b, row = some b → ¬ O b ∧ base ≤ b) : RSB X I base gM bK O w' S := by
  obtain ⟨A, n, c, rs, D, h, hS⟩ := h
  have hk : ∀ b, O b → w'.heap[b]? = w.heap[b]? := fun b ho => hg.block b (h.rng b ho).2 (fun e => (hrow b e.symm).1 ho)
  have hb : Below base w w' := (Below.refl base w).grown hg h.bw (fun q hq => (hrow q hq).2)
  exact ⟨A, n, c, rs, D, { h with ok := h.ok.below hb (Nat.le_refl _), bw := Nat.le_trans h.bw hg.size, blk := (hk gM h.ownM).trans h.blk, out := h.out.keep fun b ho => hk b (h.ownL b ho), map := map_blk h.map (hk bK h.ownK), rng := fun b ho => ⟨(h.rng b ho).1, Nat.lt_of_lt_of_le (h.rng b ho).2 hg.size⟩ }, hS⟩
theorem TurnW.grown {O O' : Nat → Prop} {w w' w'' : World} {row : Option Nat} (h : TurnW O w O' w') (hg : w'.grownBy w'' row) (hrow : ∀ b, row = some b → w.heap.size ≤ b) : TurnW O w O' w'' where
  os := hg.os.trans h.os
  tape := hg.tape.trans h.tape
  output := hg.output.trans h.output
  size := Nat.le_trans h.size hg.size
  kept b hb ho := (hg.block b (Nat.lt_of_lt_of_le hb h.size) (fun e => by have := hrow b e.symm; omega)).trans (h.kept b hb ho)
  own := h.own
theorem BlkF.farSet {O : Nat → Prop} {w : World} {g b : Nat} {t : TypeId} {cs : Array Value} (h : BlkF O w g t cs) (hne : g ≠ b) (i : Nat) (u : Value) : BlkF O (w.setCell ⟨b, i, none⟩ u) g t cs := ⟨h.1.far hne u, h.2⟩
/-- The closures that ask. -/
def AloneR (X : DocB) (I : BxV) (base gM bK fa : Nat) (av : Nat → Array Value) (L : List (Nat × TypeId × Array Value)) (p : Nat → Bool) (l : List Nat) : Prop := ∀ k ∈ l, ∀ (O : Nat → Prop) (S : List PBox) (w : World), RSB X I base gM bK O w S → EnvL L O w → Calls Tryz.prog fa (av k) w (Tells X I base gM bK (.bool (p k)) O S w)
/-- The closures of those that stand alone. -/
def OneR (X : DocB) (I : BxV) (base gM bK fo g1 g2 at_ : Nat) (L : List (Nat × TypeId × Array Value)) (one : Nat → TreeV) (l : List Nat) : Prop := ∀ k ∈ l, ∀ (O : Nat → Prop) (S : List PBox) (w : World), RSB X I base gM bK O w S → EnvL L O w → at_ < S.length → (flatR (one k) at_ S).length ≤ 2000 →
  Calls Tryz.prog fo #[.int .i64 (k : Nat), .pointer (some ⟨g1, 0, none⟩), .pointer (some ⟨g2, 0, none⟩)] w (Puts X I base gM bK (flatR (one k) at_ S) O w)
/-- Which closures go together. -/
inductive Trio (g1 q1 q2 : Nat) : Nat → (Nat → Array Value) → Array Value → Nat → Nat → Prop
  | cont : Trio g1 q1 q2 71 (fun k => #[.int .i64 (k : Nat), .pointer (some ⟨g1, 0, none⟩)]) #[.pointer (some ⟨g1, 0, none⟩)] 73 75
  | flex : Trio g1 q1 q2 117 (fun k => #[.int .i64 (k : Nat), .pointer (some ⟨g1, 0, none⟩)]) #[.pointer (some ⟨g1, 0, none⟩)] 118 119
  | rows : Trio g1 q1 q2 166 (fun k => #[.int .i64 (k : Nat), .pointer (some ⟨q1, 0, none⟩), .pointer (some ⟨q2, 0, none⟩)]) #[.pointer (some ⟨q1, 0, none⟩), .pointer (some ⟨q2, 0, none⟩)] 121 125
  | cells : Trio g1 q1 q2 166 (fun k => #[.int .i64 (k : Nat), .pointer (some ⟨q1, 0, none⟩), .pointer (some ⟨q2, 0, none⟩)]) #[.pointer (some ⟨q1, 0, none⟩), .pointer (some ⟨q2, 0, none⟩)] 122 124
theorem Trio.run {g1 q1 q2 fa fo fr : Nat} {av : Nat → Array Value} {ca : Array Value} (h : Trio g1 q1 q2 fa av ca fo fr) : IsRun fr := by
  cases h
  · exact .inl rfl
  · exact .inr (.inl rfl)
  · exact .inr (.inr (.inl rfl))
  · exact .inr (.inr (.inr rfl))
/-- The row of those that wait, in a run. -/
structure NowI (w0 : World) (g10 : Nat) (now : List Nat) (An : Option Addr) (mn cn : Nat) (O : Nat → Prop) (w : World) : Prop where
  len : now.length = mn
  blk : BlkF O w g10 44 #[.slice An mn cn]
  own : w.ownsRow w0.heap.size 3 1 (.slice An mn cn) mn (nums now)
  free : ∀ b, (Value.slice An mn cn).ownBlock = some b → ¬ O b
theorem NowI.turn {w0 : World} {g10 : Nat} {now : List Nat} {An : Option Addr} {mn cn : Nat} {O O' : Nat → Prop} {w w' : World} (h : NowI w0 g10 now An mn cn O w) (ht : TurnW O w O' w') : NowI w0 g10 now An mn cn O' w' :=
  ⟨h.len, h.blk.turn ht, own_heap h.own fun g hg => ht.kept g (h.own.lt g hg).2 (h.free g hg), fun b hb ho => (ht.own b ho).elim (h.free b hb) fun h2 => by have := (h.own.lt b hb).2; omega⟩
theorem NowI.held {w0 : World} {g10 : Nat} {now : List Nat} {An : Option Addr} {mn cn : Nat} {O : Nat → Prop} {w : World} (h : NowI w0 g10 now An mn cn O w) : Held O w An now := Held.of (Holds.of_own h.own) fun b off hA => h.free b (by rw [hA]; rfl)
theorem NowI.fresh {w0 : World} {g10 : Nat} {An : Option Addr} {mn cn : Nat} {now : List Nat} {O : Nat → Prop} {w : World} (h : NowI w0 g10 now An mn cn O w) : NowI w0 g10 [] none 0 0 O (w.setCell ⟨g10, 0, none⟩ (.slice none 0 0)) :=
  ⟨rfl, ⟨h.blk.1.stored 0 (.slice none 0 0), h.blk.2⟩, World.ownsRow_nil _ _ _ _, fun b hb => by simp [Value.ownBlock] at hb⟩
theorem BlkF.grown {O : Nat → Prop} {w w' : World} {g : Nat} {t : TypeId} {cs : Array Value} {row : Option Nat} (h : BlkF O w g t cs) (hg : w.grownBy w' row) (hne : row ≠ some g) : BlkF O w' g t cs := ⟨blk_grown h.1 hg hne, h.2⟩
theorem EnvL.grown {L : List (Nat × TypeId × Array Value)} {O : Nat → Prop} {w w' : World} {row : Option Nat} (h : EnvL L O w) (hg : w.grownBy w' row) (hne : ∀ x ∈ L, row ≠ some x.1) : EnvL L O w' := fun x hx => (h x hx).grown hg (hne x hx)
theorem Held.grown {O : Nat → Prop} {w w' : World} {A : Option Addr} {l : List Nat} {row : Option Nat} (h : Held O w A l) (hg : w.grownBy w' row) (hne : ∀ b off, A = some ⟨b, off, none⟩ → 0 < l.length → row ≠ some b) : Held O w' A l := fun hn => by
  obtain ⟨b, off, hA, hb, ho, hc⟩ := h hn
  exact ⟨b, off, hA, Nat.lt_of_lt_of_le hb hg.size, ho, fun j hj => (cell_same (hg.block b hb (fun e => hne b off hA hn e.symm))).trans (hc j hj)⟩
theorem NowI.app {w0 : World} {g10 : Nat} {now : List Nat} {An A9 : Option Addr} {mn cn c9 t : Nat} {O : Nat → Prop} {w w9 : World} (h : NowI w0 g10 now An mn cn O w) (hf : ∀ b, w.heap.size ≤ b → ¬ O b)
    (ho : w9.ownsRow w0.heap.size 3 1 (.slice A9 (mn + 1) c9) (mn + 1) (nums now ++ [.int .i64 (t : Nat)])) (hg : w.grownBy w9 (Value.slice An mn cn).ownBlock) (hat : (Value.slice A9 (mn + 1) c9).ownBlock = (Value.slice An mn cn).ownBlock ∨ (Value.slice A9 (mn + 1) c9).ownBlock = some w.heap.size) :
    NowI w0 g10 (now ++ [t]) A9 (mn + 1) c9 O (w9.setCell ⟨g10, 0, none⟩ (.slice A9 (mn + 1) c9)) := by
  have hb9 : Blk w9 g10 44 #[.slice An mn cn] := blk_grown h.blk.1 hg (blk_ne h.blk.1 h.own (by decide))
  have e : nums now ++ [.int .i64 (t : Nat)] = nums (now ++ [t]) := by simp [nums]
  rw [e] at ho
  refine ⟨by rw [List.length_append, h.len]; rfl, ⟨hb9.stored 0 _, h.blk.2⟩, own_setFar ho (blk_ne hb9 ho (by decide)), fun b hb => ?_⟩
  rcases hat with h1 | h1
  · exact h.free b (h1.symm.trans hb)
  · rw [h1] at hb; injection hb with hb; exact hf b (by omega)
set_option maxRecDepth 100000 in
set_option maxHeartbeats 8000000 in
theorem runs_calls (I : BxV) (hc : checkE I.ns = 0) (base gM bK fa fo fr g1 g2 q1 q2 at_ : Nat) (av : Nat → Array Value) (ca : Array Value) (htr : Trio g1 q1 q2 fa av ca fo fr) (L : List (Nat × TypeId × Array Value)) (p : Nat → Bool) (one : Nat → TreeV) (run : List Nat → TreeV) (l : List Nat) (A : Option Addr) (n c : Nat) (O : Nat → Prop) (S : List PBox) (w : World)
    (h : RSB (docB I (docOk hc)) I base gM bK O w S) (hE : EnvL L O w) (hl : l.length = n) (hL : Held O w A l) (hm : n ≤ 1000) (hat : at_ < S.length) (hlt : ∀ k ∈ l, k < I.n)
    (hsz : (flatPs (pieces p one run (fun r => !(docB I (docOk hc)).idleT (r.map (docB I (docOk hc)).box)) [] l) at_ S).length ≤ 2000)
    (HA : AloneR (docB I (docOk hc)) I base gM bK fa av L p l) (HO : OneR (docB I (docOk hc)) I base gM bK fo g1 g2 at_ L one l) (HR : RunR (docB I (docOk hc)) I base gM bK fr g1 g2 at_ L run l) :
    Calls Tryz.prog 70 #[.pointer (some ⟨gM, 0, none⟩), .slice A n c, .func (.func fa) #[] ca, .func (.func fo) #[] #[.pointer (some ⟨g1, 0, none⟩), .pointer (some ⟨g2, 0, none⟩)], .func (.func fr) #[] #[.pointer (some ⟨g1, 0, none⟩), .pointer (some ⟨g2, 0, none⟩)]] w
      (Puts (docB I (docOk hc)) I base gM bK (flatPs (pieces p one run (fun r => !(docB I (docOk hc)).idleT (r.map (docB I (docOk hc)).box)) [] l) at_ S) O w) := by
  obtain ⟨iI, hiI, hzI0, hzI1, hzI2⟩ := info_partsK info_intB
  have hfr := htr.run
  obtain ⟨X, hX⟩ : ∃ X, X = docB I (docOk hc) := ⟨_, rfl⟩
  have HEND := Lib.hid (fun (us : List Nat) (An : Option Addr) (mn cn : Nat) (O' : Nat → Prop) (S' : List PBox) (w' : World) (g5 g9 g10 : Nat) (hr : RSB (docB I (docOk hc)) I base gM bK O' w' S') (he : EnvL L O' w') (h5 : BlkF O' w' g5 81 #[.pointer (some ⟨gM, 0, none⟩)]) (h9 : BlkF O' w' g9 131 #[.func (.func fr) #[] #[.pointer (some ⟨g1, 0, none⟩), .pointer (some ⟨g2, 0, none⟩)]]) (hn : NowI w g10 us An mn cn O' w')
    (hus : ∀ k ∈ us, k ∈ l) (hml : mn ≤ l.length) (hmm : mn ≤ 1000) (ha : at_ < S'.length) (hz : (if (docB I (docOk hc)).idleT (us.map (docB I (docOk hc)).box) = true then S' else flatR (run us) at_ S').length ≤ 2000) =>
      runsEnd_calls I hc base gM bK fr g1 g2 at_ g5 g9 g10 hfr L run l us An mn cn O' S' w' hr he h5 h9 hn.blk hus hn.len hml hn.held hmm ha hlt hz HR)
  rw [← hX] at h hsz HA HO HR HEND ⊢
  obtain ⟨told, htold⟩ : ∃ told : List Nat → Bool, told = fun r => !X.idleT (r.map X.box) := ⟨_, rfl⟩
  obtain ⟨TOT, hTOT⟩ : ∃ TOT, TOT = flatPs (pieces p one run (fun r => !X.idleT (r.map X.box)) [] l) at_ S := ⟨_, rfl⟩
  rw [← hTOT] at hsz ⊢
  rw [← htold] at hTOT
  have htv : ∀ us : List Nat, told us = !X.idleT (us.map X.box) := fun us => by rw [htold]
  have HTV := Lib.hid htv
  have HTOT := Lib.hid hTOT
  have HSZ := Lib.hid hsz
  have HLB : Hid (∀ b off, A = some ⟨b, off, none⟩ → 0 < l.length → b < w.heap.size) := fun b off hA hn => by
    obtain ⟨b', off', hA', hb, _⟩ := hL hn
    rw [hA] at hA'
    injection hA' with hA'
    injection hA' with e1 e2
    omega
  have HGB : Hid (∀ x ∈ L, x.1 < w.heap.size) := fun x hx => (hE x hx).1.lt
  have HBW := Lib.hid h.bw
  have HN := Lib.hid hl
  have HAA := Lib.hid HA
  have HOO := Lib.hid HO
  have HAT := Lib.hid hat
  have hf : ∀ j, w.heap.size ≤ j → ¬ O j := fun j hj => h.fresh hj
  -- what is laid at the start
  have hb3 := below_alloc (below_alloc (below_alloc (Below.refl w.heap.size w) (.cells #[.pointer (some ⟨gM, 0, none⟩)] 81)) (.cells #[.func (.func fr) #[] #[.pointer (some ⟨g1, 0, none⟩), .pointer (some ⟨g2, 0, none⟩)]] 131)) (.cells #[.slice none 0 0] 44)
  have k5 := ((Blk.new w 81 #[.pointer (some ⟨gM, 0, none⟩)]).alloc (.cells #[.func (.func fr) #[] #[.pointer (some ⟨g1, 0, none⟩), .pointer (some ⟨g2, 0, none⟩)]] 131)).alloc (.cells #[.slice none 0 0] 44)
  have k9 := (Blk.new (w.alloc (.cells #[.pointer (some ⟨gM, 0, none⟩)] 81)) 131 #[.func (.func fr) #[] #[.pointer (some ⟨g1, 0, none⟩), .pointer (some ⟨g2, 0, none⟩)]]).alloc (.cells #[.slice none 0 0] 44)
  have k10 := Blk.new ((w.alloc (.cells #[.pointer (some ⟨gM, 0, none⟩)] 81)).alloc (.cells #[.func (.func fr) #[] #[.pointer (some ⟨g1, 0, none⟩), .pointer (some ⟨g2, 0, none⟩)]] 131)) 44 #[.slice none 0 0]
  rw [alloc_size] at k9
  rw [alloc_size, alloc_size] at k10
  have H5 : Hid (BlkF O _ w.heap.size 81 #[.pointer (some ⟨gM, 0, none⟩)]) := ⟨k5, hf _ (Nat.le_refl _)⟩
  have H9 : Hid (BlkF O _ (w.heap.size + 1) 131 #[.func (.func fr) #[] #[.pointer (some ⟨g1, 0, none⟩), .pointer (some ⟨g2, 0, none⟩)]]) := ⟨k9, hf _ (by omega)⟩
  have H10 : Hid (NowI w (w.heap.size + 1 + 1) [] none 0 0 O _) := ⟨rfl, ⟨k10, hf _ (by omega)⟩, World.ownsRow_nil _ _ _ _, fun b hb => by simp [Value.ownBlock] at hb⟩
  have HT := Lib.hid (TurnW.below (O := O) hb3)
  have HRS := Lib.hid (h.below hb3)
  have HEV := Lib.hid (hE.turn HT.out)
  have HHL := Lib.hid (hL.turn HT.out)
  clear h hE hl hL hat hsz HA HO HR hTOT htold htv hX hb3 k5 k9 k10 hf hfr hlt
  unfold AloneR at HAA
  unfold OneR at HOO
  unfold Tells at HAA
  unfold Puts at HOO ⊢
  unfold EndSays at HEND
  go_enter Tryz.func70, Tryz.ntmps70
  go_upto_region 4 with fail
  generalize World.alloc (World.alloc (World.alloc w _) _) _ = w1 at H5 H9 H10 HT HRS HEV HHL ⊢
  generalize hg5 : w.heap.size = g5 at H5 H9 H10 HT HRS HEV HHL ⊢
  have HG5 := Lib.hid hg5
  clear hg5
  go_loopw [17] (fun i wr => ∃ (k : Nat) (O' : Nat → Prop) (S' : List PBox) (now : List Nat) (An : Option Addr) (mn cn : Nat), k ≤ n ∧ i = .int .i64 k ∧ mn ≤ k ∧ Hid (RSB X I base gM bK O' wr S') ∧ Hid (TurnW O w O' wr) ∧ Hid (EnvL L O' wr) ∧ Hid (BlkF O' wr g5 81 #[.pointer (some ⟨gM, 0, none⟩)]) ∧ Hid (BlkF O' wr (g5 + 1) 131 #[.func (.func fr) #[] #[.pointer (some ⟨g1, 0, none⟩), .pointer (some ⟨g2, 0, none⟩)]]) ∧ Hid (NowI w (g5 + 1 + 1) now An mn cn O' wr) ∧ Hid (Held O' wr A l) ∧ Hid (∀ x ∈ now, x ∈ l) ∧ Hid (TOT = flatPs (pieces p one run told now (l.drop k)) at_ S') ∧ Hid (at_ < S'.length)) (fun i _ => n - (intOf i).toNat)
  case atStart => exact ⟨0, O, S, [], none, 0, 0, Nat.zero_le _, rfl, Nat.le_refl _, HRS.out, HT.out, HEV.out, H5.out, H9.out, H10.out, HHL.out, fun x hx => (by cases hx), HTOT.out, HAT.out⟩
  case round =>
    clear HRS HT HEV H5 H9 H10 HHL
    obtain ⟨k, O', S', now, An, mn, cn, hk, rfl, hmk, HRS, HT, HEV, H5, H9, H10, HHL, HSUB, HTO, HA'⟩ := hrel
    have hml : mn ≤ l.length := by have := HN.out; omega
    have hmm : mn ≤ 1000 := by omega
    obtain ⟨S2, hS2⟩ : ∃ S2, S2 = if X.idleT (now.map X.box) = true then S' else flatR (run now) at_ S' := ⟨_, rfl⟩
    have hfl : flatPs (if told now = true then [run now] else []) at_ S' = S2 := by
      rw [hS2, HTV.out]
      cases X.idleT (now.map X.box) with
      | true => rfl
      | false =>
        show flatPs [run now] at_ S' = flatR (run now) at_ S'
        rw [flatPs_cons, flatPs]
    have hS2l : S'.length ≤ S2.length := by
      rw [← hfl]; exact flatPs_len _ _ _
    have HA2 : Hid (at_ < S2.length) := by show _ < _; have := HA'.out; omega
    have HEN := Lib.hid (fun (O1 : Nat → Prop) (w' : World) (hr : RSB X I base gM bK O1 w' S') (he : EnvL L O1 w') (h5 : BlkF O1 w' g5 81 #[.pointer (some ⟨gM, 0, none⟩)]) (h9 : BlkF O1 w' (g5 + 1) 131 #[.func (.func fr) #[] #[.pointer (some ⟨g1, 0, none⟩), .pointer (some ⟨g2, 0, none⟩)]]) (hn : NowI w (g5 + 1 + 1) now An mn cn O1 w') (hz : S2.length ≤ 2000) => HEND.out now An mn cn O1 S' w' g5 (g5 + 1) (g5 + 1 + 1) hr he h5 h9 hn HSUB.out hml hmm HA'.out (by rw [← hS2]; exact hz))
    rw [← hS2] at HEN
    clear HEND
    have HG10 : Hid (base ≤ g5 + 1 + 1 ∧ ∀ x ∈ L, x.1 ≠ g5 + 1 + 1) := ⟨by have h1 := HBW.out; have h2 := HG5.out; omega, fun x hx e => by have h1 := HGB.out x hx; have h2 := HG5.out; omega⟩
    have HLF : Hid (∀ b off, A = some ⟨b, off, none⟩ → 0 < l.length → b ≠ g5 + 1 + 1) := fun b off hA hn e => by have h1 := HLB.out b off hA hn; have h2 := HG5.out; omega
    have HWG : Hid (w.heap.size ≤ g5 + 1 + 1 ∨ O (g5 + 1 + 1)) := .inl (by have h2 := HG5.out; omega)
    have HN5 : Hid (g5 ≠ g5 + 1 + 1) := by show _ ≠ _; omega
    have HN9 : Hid (g5 + 1 ≠ g5 + 1 + 1) := by show _ ≠ _; omega
    have HFL := Lib.hid hfl
    clear hS2 hfl
    by_cases hlt : k < n
    · have hkl : k < l.length := by rw [HN.out]; exact hlt
      obtain ⟨b, off, hA, hb, ho, hcc⟩ := HHL.out (by omega)
      have c0 := hcc k hkl
      obtain ⟨t, ht⟩ : ∃ t, t = l.getD k 0 := ⟨_, rfl⟩
      rw [← ht] at c0
      have htk : l[k] = t := by rw [ht, List.getD_eq_getElem?_getD, List.getElem?_eq_getElem hkl]; rfl
      have hD : l.drop k = t :: l.drop (k + 1) := by rw [List.drop_eq_getElem_cons hkl, htk]
      have hmem : t ∈ l := by rw [← htk]; exact List.getElem_mem hkl
      have HAL := Lib.hid (HAA.out t hmem)
      have HON := Lib.hid (fun (O1 : Nat → Prop) (w' : World) (hr : RSB X I base gM bK O1 w' S2) (he : EnvL L O1 w') (ha : at_ < S2.length) (hz : (flatR (one t) at_ S2).length ≤ 2000) => HOO.out t hmem O1 S2 w' hr he ha hz)
      have HD := Lib.hid hD
      have HMEM := Lib.hid hmem
      have HLE := Lib.hid hA
      clear ht hkl htk hb ho hcc hD hmem
      cases hp : p t with
      | true =>
        rw [hp] at HAL
        have HTN : Hid (TOT = flatPs (pieces p one run told [] (l.drop (k + 1))) at_ (flatR (one t) at_ S2)) := by
          show _ = _
          rw [HTO.out, HD.out, pieces, if_pos hp, flatPs_app, HFL.out, flatPs_cons]
        have HZ1 : Hid ((flatR (one t) at_ S2).length ≤ 2000) := Nat.le_trans (by rw [HTN.out]; exact flatPs_len _ _ _) HSZ.out
        have HZ2 : Hid (S2.length ≤ 2000) := by have := HZ1.out; rw [flatR_size] at this; show _ ≤ _; omega
        have HA3 : Hid (at_ < (flatR (one t) at_ S2).length) := by show _ < _; rw [flatR_size]; have := HA2.out; omega
        clear hp
        generalize flatR (one t) at_ S2 = S3 at HTN HZ1 HA3 HON
        subst hA
        cases htr
        all_goals
          go_wp2_with (first | ((first | go_at_call 71 | go_at_call 117 | go_at_call 166); refine (HAL.out O' S' wr HRS.out HEV.out).mono ?_; rintro e w2 ⟨rfl, hr2, ht2⟩; have HR1 := Lib.hid hr2; have HT1 := Lib.hid (HT.out.trans ht2); have HEV1 := Lib.hid (HEV.out.turn ht2); have H51 := Lib.hid (H5.out.turn ht2); have H91 := Lib.hid (H9.out.turn ht2); have H101 := Lib.hid (H10.out.turn ht2); have HHL1 := Lib.hid (HHL.out.turn ht2); clear hr2 ht2) | (go_at_call 113; refine (HEN.out O' w2 HR1.out HEV1.out H51.out H91.out H101.out HZ2.out).mono ?_; rintro e wx ⟨rfl, O2, wE, rfl, hr2, ht2⟩; have HNO2 := Lib.hid (H101.out.turn ht2).blk; have HR2 := Lib.hid (hr2.farSet HNO2.out.2 HG10.out.1 0 (.slice none 0 0)); have HT2 := Lib.hid ((HT1.out.trans ht2).set HWG.out 0 (.slice none 0 0)); have HEV2 := Lib.hid ((HEV1.out.turn ht2).set HG10.out.2 0 (.slice none 0 0)); have H52 := Lib.hid ((H51.out.turn ht2).farSet HN5.out 0 (.slice none 0 0)); have H92 := Lib.hid ((H91.out.turn ht2).farSet HN9.out 0 (.slice none 0 0)); have H102 := Lib.hid (H101.out.turn ht2).fresh; have HHL2 := Lib.hid ((HHL1.out.turn ht2).far HLF.out 0 (.slice none 0 0)); clear hr2 ht2) | ((first | go_at_call 73 | go_at_call 118 | go_at_call 121 | go_at_call 122); refine (HON.out O2 _ HR2.out HEV2.out HA2.out HZ1.out).mono ?_; rintro e w3 ⟨rfl, O3, hr3, ht3⟩; have HR3 := Lib.hid hr3; have HT3 := Lib.hid (HT2.out.trans ht3); have HEV3 := Lib.hid (HEV2.out.turn ht3); have H53 := Lib.hid (H52.out.turn ht3); have H93 := Lib.hid (H92.out.turn ht3); have H103 := Lib.hid (H102.out.turn ht3); have HHL3 := Lib.hid (HHL2.out.turn ht3); clear hr3 ht3))
          go_round
          case rel => exact ⟨k + 1, O3, S3, [], none, 0, 0, by omega, by go_num, Nat.zero_le _, HR3.out, HT3.out, HEV3.out, H53.out, H93.out, H103.out, HHL3.out, fun x hx => (by cases hx), HTN.out, HA3.out⟩
          case measure => simp [intOf]; omega
      | false =>
        rw [hp] at HAL
        have HTN : Hid (TOT = flatPs (pieces p one run told (now ++ [t]) (l.drop (k + 1))) at_ S') := by
          show _ = _
          rw [HTO.out, HD.out, pieces, hp]
          rfl
        clear hp
        subst hA
        have hmk2 : mn + 1 ≤ k + 1 := by omega
        cases htr
        all_goals
          go_wp2_with (first | ((first | go_at_call 71 | go_at_call 117 | go_at_call 166); refine (HAL.out O' S' wr HRS.out HEV.out).mono ?_; rintro e w2 ⟨rfl, hr2, ht2⟩; have HR1 := Lib.hid hr2; have HT1 := Lib.hid (HT.out.trans ht2); have HEV1 := Lib.hid (HEV.out.turn ht2); have H51 := Lib.hid (H5.out.turn ht2); have H91 := Lib.hid (H9.out.turn ht2); have H101 := Lib.hid (H10.out.turn ht2); have HHL1 := Lib.hid (HHL.out.turn ht2); have d10 : w2.cell? ⟨g5 + 1 + 1, 0, none⟩ = some (.slice An mn cn) := (H10.out.turn ht2).blk.1.cell 0; have HXA := Lib.hid (below_alloc (Below.refl w2.heap.size w2) (.cells #[.int .i64 (t : Nat)] 3)); have HOA := Lib.hid (own_below H101.out.own HXA.out); have HNI := Lib.hid (Blk.new w2 3 #[.int .i64 (t : Nat)]); have HRA := Lib.hid (HR1.out.below HXA.out); have HTA := Lib.hid (HT1.out.thenB HXA.out); have HEA := Lib.hid (HEV1.out.turn (TurnW.below HXA.out)); have H5A := Lib.hid (H51.out.turn (TurnW.below HXA.out)); have H9A := Lib.hid (H91.out.turn (TurnW.below HXA.out)); have H10A := Lib.hid (H101.out.turn (TurnW.below HXA.out)); have HHA := Lib.hid (HHL1.out.turn (TurnW.below HXA.out)); clear hr2 ht2) | (at_builtin; refine wpList_append_any rfl _ _ 44 rfl w.heap.size 3 iI (.int .i64 0) 1 8 Tryz.underlying44 hiI hzI0 hzI1 hzI2 rfl (by decide) (.slice An mn cn) mn (nums now) rfl HOA.out (some ⟨w2.heap.size, 0, none⟩) 1 1 [.int .i64 (t : Nat)] rfl rfl (.inl ⟨w2.heap.size, 0, rfl, fun j u hj => by rw [Nat.zero_add, HNI.out.cell j]; simpa using hj⟩) (by intro u hu; simp at hu; subst hu; rfl) (by unfold maxLen; omega) (by omega) (HTA.out.size) ?_; intro A9 c9 w9 ho9 hg9 hat9; have HROW := Lib.hid (fun b (hb : (Value.slice An mn cn).ownBlock = some b) => (HOA.out.lt b hb).1); have HN10 := Lib.hid (NowI.app H10A.out (fun b hb => HRA.out.fresh hb) (by simpa using ho9) hg9 hat9); have HR9 := Lib.hid (HRA.out.grown hg9 (fun b hb => ⟨H10A.out.free b hb, Nat.le_trans HBW.out (HROW.out b hb)⟩)); have HT9 := Lib.hid (HTA.out.grown hg9 HROW.out); have HE9 := Lib.hid (HEA.out.grown hg9 (fun x hx e => by have h1 := HROW.out _ e; have h2 := HGB.out x hx; omega)); have H59 := Lib.hid (H5A.out.grown hg9 (blk_ne H5A.out.1 HOA.out (by decide))); have H99 := Lib.hid (H9A.out.grown hg9 (blk_ne H9A.out.1 HOA.out (by decide))); have HH9 := Lib.hid (HHA.out.grown hg9 (fun b off hA hn e => by have h1 := HROW.out _ e; have h2 := HLB.out b off hA hn; omega)); have f10 : w9.frozen? ⟨g5 + 1 + 1, 0, none⟩ = false := (blk_grown H10A.out.blk.1 hg9 (blk_ne H10A.out.blk.1 HOA.out (by decide))).free 0; have e10 : w9.cell? ⟨g5 + 1 + 1, 0, none⟩ = some (.slice An mn cn) := (blk_grown H10A.out.blk.1 hg9 (blk_ne H10A.out.blk.1 HOA.out (by decide))).cell 0; clear ho9 hg9 hat9))
          go_round
          case rel => exact ⟨k + 1, O', S', now ++ [t], A9, mn + 1, c9, by omega, by go_num, hmk2, HR9.out.farSet H10A.out.blk.2 HG10.out.1 0 _, HT9.out.set HWG.out 0 _, HE9.out.set HG10.out.2 0 _, H59.out.farSet HN5.out 0 _, H99.out.farSet HN9.out 0 _, HN10.out, HH9.out.far HLF.out 0 _, fun x hx => (List.mem_append.1 hx).elim (HSUB.out x) (fun h => by simp at h; rw [h]; exact HMEM.out), HTN.out, HA'.out⟩
          case measure => simp [intOf]; omega
    · obtain rfl : k = n := by omega
      have HE : Hid (TOT = S2) := by
        show _ = _
        rw [HTO.out, ← HN.out, List.drop_length, pieces, HFL.out]
      have HZ2 : Hid (S2.length ≤ 2000) := by show _ ≤ _; rw [← HE.out]; exact HSZ.out
      go_wp2_with (go_at_call 113; refine (HEN.out O' wr HRS.out HEV.out H5.out H9.out H10.out HZ2.out).mono ?_; rintro e wx ⟨rfl, O2, wE, rfl, hr2, ht2⟩; have HNO2 := Lib.hid (H10.out.turn ht2).blk; have HR2 := Lib.hid (hr2.farSet HNO2.out.2 HG10.out.1 0 (.slice none 0 0)); have HT2 := Lib.hid ((HT.out.trans ht2).set HWG.out 0 (.slice none 0 0)); have HEV2 := Lib.hid ((HEV.out.turn ht2).set HG10.out.2 0 (.slice none 0 0)); have H52 := Lib.hid ((H5.out.turn ht2).farSet HN5.out 0 (.slice none 0 0)); have H92 := Lib.hid ((H9.out.turn ht2).farSet HN9.out 0 (.slice none 0 0)); have H102 := Lib.hid (H10.out.turn ht2).fresh; have HHL2 := Lib.hid ((HHL.out.turn ht2).far HLF.out 0 (.slice none 0 0)); clear hr2 ht2)
      (try simp only [Exit.inBlock, Exit.then]); refine bodyPost_end (results_none rfl _ _ _) rfl ?_
      exact ⟨rfl, O2, by rw [HE.out]; exact HR2.out, HT2.out⟩
end Go.Proofs.YtkmmlcnoeeaekaaGreatDoor
