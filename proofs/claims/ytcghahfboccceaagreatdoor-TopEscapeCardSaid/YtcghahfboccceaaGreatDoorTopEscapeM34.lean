/- Several texts in one: TfI, TfJ, TfK. -/
import Derived.Test.YtcghahfboccceaaGreatDoorTopEscapeM32
import Derived.Test.YtcghahfboccceaaGreatDoorTopEscapeM33
import Derived.Shelf.Strings.SlTrimAscii
import Derived.Test.YtcghahfboccceaaGreatDoorTopEscapeM17
/- Contracts of the tree's names, in, closeP where no paragraph is open. -/
namespace Go.Proofs.YtcghahfboccceaaGreatDoor
open Go.RowKit Go.Shelf
set_option linter.unusedVariables false
set_option linter.unusedSimpArgs false

theorem infoStr : (Tryz.prog.info? 9).map (fun i => (i.zero, i.size, i.bytes)) = some (some (.string ⟨#[]⟩), 1, 16) := by kernel_rfl
theorem strs_none (n : Nat) : (madeCells (Value.string ⟨#[]⟩).cells (n * 1)).toList = strs (List.replicate n ⟨#[]⟩) := by
  simp [madeCells, strs, Value.cells]
  apply List.ext_getElem
  · simp
  · intro i h1 h2
    simp [Nat.mod_one]
theorem strs_set (l : List ByteArray) (k : Nat) (x : ByteArray) : (strs l).set k (.string x) = strs (l.set k x) := by simp [strs, List.map_set]
/-- The names of what is open. -/
def NamesOf (S : PS) (L : List ByteArray) : Prop := L.length = S.op.length ∧ ∀ i (h : i < L.length), ∃ (k : Nat) (x : Nd), S.op[i]? = some (k : Int) ∧ S.ns[k]? = some x ∧ x.name = L[i]
theorem own_there_lt {w : World} {g n k : Nat} {e : TypeId} {B : Nat} {xs : List Value} (h : w.ownsRow B e 1 (.slice (some ⟨g, 0, none⟩) n n) n xs) (hk : k < n) : g < w.heap.size := (h.lt g rfl).2
/-- A string stored elsewhere. -/
theorem RP.far {B b : Nat} {m : Int} {S : PS} {w : World} {g n k base : Nat} {xs : List Value} {u : Value} {W0 : Nat} (h : RP B b m S w) (hg : b < g) (_hg2 : g = W0) (ho : w.ownsRow base 9 1 (.slice (some ⟨g, 0, none⟩) n n) n xs) : RP B b m S (w.setCell ⟨g, k, none⟩ u) := by
  obtain ⟨v, vo, ns, h⟩ := h
  have h1 := h.lo
  have h2 := h.b0
  refine ⟨v, vo, ns, ⟨h.lo, h.b0, h.abs, h.blk.far (by omega) _, h.tree.setFar fun q hq e => ?_, ?_⟩⟩
  · subst e
    have hne : ∀ {v' : Value} {n' s' : Nat} {e' : TypeId} {xs' : List Value}, w.ownsRow B e' s' v' n' xs' → e' ≠ 9 → v'.ownBlock ≠ some q := fun h' h'' e => by
      rcases own_far ho h' (fun x => h'' x.symm) with h3 | h3
      · cases h3
      · exact h3 e.symm
    rcases hq with hq | hq | ⟨r, hr, hq | hq⟩
    · exact hne h.tree.own (by decide) hq
    · exact hne h.tree.open' (by decide) hq
    · exact hne (h.tree.kids r hr) (by decide) hq
    · exact hne (h.tree.attrs r hr) (by decide) hq
  · rw [← h.mx]
    exact World.cell?_of_block (Below.heap_setCell w ⟨g, k, none⟩ u 0 (by show 0 ≠ g; omega))
set_option maxRecDepth 100000 in
set_option maxHeartbeats 4000000 in
theorem names2_calls (B b : Nat) (m : Int) (S : PS) (L : List ByteArray) (n : Nat) (w : World) (h : RP B b m S w) (hL : NamesOf S L) (hn : n = L.length) (h0 : 0 < L.length) (hf : L.length ≤ 100000) :
    Calls Tryz.prog 222 #[.pointer (some ⟨b, 0, none⟩)] w fun e w' => ∃ g, e = .returned (.slice (some ⟨g, 0, none⟩) n n) ∧ (∀ k (h : k < L.length), w'.cell? ⟨g, k, none⟩ = some (.string L[k])) ∧ Below w.heap.size w w' := by
  obtain ⟨i0, hi, hz0, hz1, hz2⟩ := info_parts infoStr
  obtain ⟨v, vo, ns, hx⟩ := h
  obtain ⟨g2, cap2, rfl⟩ := hx.opens (by have := hL.1; omega)
  have hon : S.op.length = n := by rw [hn, hL.1]
  have c1 : w.cell? ⟨b, 1, none⟩ = some (.slice (some ⟨g2, 0, none⟩) n cap2) := by rw [← hon]; exact hx.blk.cell 1
  have hbl : b < w.heap.size := hx.blk.lt
  have HR : Hid (RP B b m S w) := ⟨_, _, _, hx⟩
  have HL := Lib.hid hL
  have HN := Lib.hid hn
  have hf : n ≤ 100000 := by omega
  have h0 : 0 < n := by omega
  have HOP : Hid (S.op.length ≤ 1000000) := by show _ ≤ _; omega
  clear hx hL hn hon
  go_enter Tryz.func222, Tryz.ntmps222
  go_upto_region 2 with (at_make; refine wpList_make_full _ rfl _ _ 36 rfl w.heap.size 9 i0 (.string ⟨#[]⟩) 1 Tryz.underlying36 hi hz0 hz1 .i64 .i64 _ _ n rfl rfl rfl rfl (by rw [hz2]; omega) (by unfold maxLen; omega) (Nat.le_refl _) ?_; intro w1 hown hg; rw [strs_none] at hown; have HO := Lib.hid hown; have HB1 := Lib.hid (below_made (Below.refl w.heap.size w) hg); have d1 : w1.cell? ⟨b, 1, none⟩ = some (.slice (some ⟨g2, 0, none⟩) n cap2) := (HB1.out.cell (p := ⟨b, 1, none⟩) hbl).trans c1; clear hown hg)
  have HB2 := Lib.hid (HR.out.below HB1.out)
  obtain ⟨g, hg⟩ : ∃ g, g = w.heap.size := ⟨_, rfl⟩
  have HG := Lib.hid hg
  rw [← hg] at HO ⊢
  have hgl : Hid (b < g) := by show _ < _; omega
  clear hg
  go_wp2_with fail
  go_loopw [16] (fun i wr => ∃ (k : Nat) (l : List ByteArray), k ≤ n ∧ i = .int .i64 (k : Int) ∧ Hid (wr.ownsRow g 9 1 (.slice (some ⟨g, 0, none⟩) n n) n (strs l)) ∧ Hid (l.length = n) ∧ Hid (∀ j, j < k → l[j]? = L[j]?) ∧ Hid (Below g w wr) ∧ Hid (RP B b m S wr)) (fun i _ => n - (intOf i).toNat)
  case atStart => exact ⟨0, List.replicate n ⟨#[]⟩, Nat.zero_le _, rfl, HO.out, by show _ = _; simp, fun j hj => absurd hj (by omega), by rw [HG.out]; exact HB1.out, HB2.out⟩
  case round =>
    obtain ⟨k, l, hk, rfl, HOW, HLL, HJ, HBL, HRP⟩ := hrel
    by_cases hlt : k < n
    · obtain ⟨kk, x, hx1, hx2, hx3⟩ := HL.out.2 k (by have := HN.out; omega)
      have HNM := Lib.hid (nameAt_calls B b m S k kk x wr HRP.out hx1 hx2 HOP.out)
      obtain ⟨nm, hnm⟩ : ∃ nm, nm = x.name := ⟨_, rfl⟩
      rw [← hnm] at HNM hx3
      have HX3 := Lib.hid hx3
      have hll : k < l.length := by have := HLL.out; omega
      clear hx1 hx2 hx3 hnm
      go_wp2_with (go_at_call 41; refine HNM.out.mono ?_; rintro e w2 ⟨rfl, hb2⟩; (have HB2' := Lib.hid hb2); (have HO2 := Lib.hid (own_below HOW.out hb2)); (have q1 : w2.cell? ⟨g, k, none⟩ = some (.string (l.getD k ⟨#[]⟩)) := own_cell HO2.out (by rw [strs, List.getElem?_map, List.getElem?_eq_getElem hll, List.getD_eq_getElem?_getD, List.getElem?_eq_getElem hll]; rfl)); (have q2 : w2.frozen? ⟨g, k, none⟩ = false := own_free HO2.out); clear hb2)
      go_roundw
      case rel =>
        refine ⟨k + 1, l.set k nm, by omega, by go_num, ?_, by show _ = _; rw [List.length_set]; exact HLL.out, fun j hj => ?_, ?_, ?_⟩
        · have := own_set HO2.out (j := k) (u := .string nm)
          rw [strs_set] at this
          exact this
        · rw [List.getElem?_set]
          by_cases e : k = j
          · subst e
            rw [if_pos rfl, if_pos hll, List.getElem?_eq_getElem (by have := HN.out; omega), HX3.out]
          · rw [if_neg e]
            exact HJ.out j (by omega)
        · have hgw := (own_there_lt HO2.out hlt)
          exact (HBL.out.trans (HB2'.out.mono (by have := (HOW.out.lt g rfl).2; omega))).setCell (p := ⟨g, k, none⟩) (Nat.le_refl _) _
        · have h1 := HRP.out.below HB2'.out
          exact h1.far hgl.out HG.out HO2.out
      case measure => simp [intOf]; omega
    · obtain rfl : k = n := by omega
      go_wp2
      go_ret
      refine ⟨g, rfl, fun j hj => ?_, by rw [← HG.out]; exact HBL.out⟩
      have h1 : l[j]? = some L[j] := by rw [HJ.out j (by have := HN.out; omega), List.getElem?_eq_getElem hj]
      exact own_cell HOW.out (by rw [strs, List.getElem?_map, h1]; rfl)
end Go.Proofs.YtcghahfboccceaaGreatDoor
/- Contracts of the parser's small functions: blanks, said, in, closeP, to, parts, html. -/
namespace Go.Proofs.YtcghahfboccceaaGreatDoor
open Go.RowKit Go.Shelf
set_option linter.unusedVariables false
set_option linter.unusedSimpArgs false

section
variable (kind f t : Int) (nm tx : ByteArray) (A : Option Addr) (n c : Nat) (sf : Bool) (w : World)
set_option maxRecDepth 100000 in
set_option maxHeartbeats 2000000 in
theorem blanks_no (hk : kind ≠ 3) : Calls Tryz.prog 90 #[.agg #[.int .i64 kind, .string nm, .slice A n c, .string tx, .bool sf, .int .i64 f, .int .i64 t]] w fun e w' => e = .returned (.tuple #[.string ⟨#[]⟩, .string ⟨#[]⟩]) ∧ Below w.heap.size w w' := by
  have e1 : (kind != 3) = true := by simpa using hk
  clear hk
  go_enter Tryz.func90, Tryz.ntmps90
  go_wp2
  exact bodyPost_ret (results_tmp2 rfl _ _ _) rfl ⟨rfl, (Below.refl w.heap.size w).alloc (Nat.le_refl _) _⟩
set_option maxRecDepth 100000 in
set_option maxHeartbeats 2000000 in
theorem blanks_txt (hs : tx.size ≤ 1000000) : Calls Tryz.prog 90 #[.agg #[.int .i64 3, .string nm, .slice A n c, .string tx, .bool sf, .int .i64 f, .int .i64 t]] w fun e w' => (∃ s1 s2, e = .returned (.tuple #[.string s1, .string s2])) ∧ Below w.heap.size w w' := by
  have H := Lib.hid (Any.strings_TrimLeft_laid Tryz.lays161 (by kernel_rfl) tx ⟨#[32, 9, 10, 12, 13]⟩ (w.alloc (.cells #[.int .i64 3, .string nm, .slice A n c, .string tx, .bool sf, .int .i64 f, .int .i64 t] 114)) (by decide) (ascii_all (l := [32, 9, 10, 12, 13]) (by decide +kernel)))
  obtain ⟨r, hr⟩ : ∃ r : ByteArray, r = ⟨(Lib.trimLeftS tx.data.toList (⟨#[32, 9, 10, 12, 13]⟩ : ByteArray).data.toList).toArray⟩ := ⟨_, rfl⟩
  have hrs : r.size ≤ tx.size := by
    rw [hr]
    show (Lib.trimLeftS tx.data.toList _).length ≤ _
    have : (Lib.trimLeftS tx.data.toList (⟨#[32, 9, 10, 12, 13]⟩ : ByteArray).data.toList).length ≤ tx.data.toList.length := (List.dropWhile_sublist _).length_le
    simpa using this
  rw [← hr] at H
  have HN := Lib.hid (Blk.new w 114 #[.int .i64 3, .string nm, .slice A n c, .string tx, .bool sf, .int .i64 f, .int .i64 t])
  have HB := Lib.hid ((Below.refl w.heap.size w).alloc (Nat.le_refl _) (.cells #[.int .i64 3, .string nm, .slice A n c, .string tx, .bool sf, .int .i64 f, .int .i64 t] 114))
  have r1 : (r.size : Int) ≤ (tx.size : Int) := by omega
  have r2 : (tx.size : Int) - (r.size : Int) ≤ (tx.size : Int) := by omega
  have r3 : (0 : Int) ≤ (tx.size : Int) - (r.size : Int) := by omega
  clear hr
  go_enter Tryz.func90, Tryz.ntmps90
  go_wp2_with (go_at_call 113; refine H.out.mono ?_; rintro e w1 ⟨rfl, hb1⟩; (have HB1 := Lib.hid (below_then HB.out hb1)); (have c3 : w1.cell? ⟨w.heap.size, 3, none⟩ = some (.string tx) := (HN.out.below hb1 HN.out.lt).cell 3); clear hb1)
  exact bodyPost_ret (results_tmp2 rfl _ _ _) rfl ⟨⟨_, _, rfl⟩, HB1.out⟩
end
end Go.Proofs.YtcghahfboccceaaGreatDoor
/- Contracts of the parser's to, parts, said, in, closeP, html. -/
namespace Go.Proofs.YtcghahfboccceaaGreatDoor
open Go.RowKit Go.Shelf
set_option linter.unusedVariables false
set_option linter.unusedSimpArgs false

theorem RP.bw {B b : Nat} {m : Int} {S : PS} {w : World} (h : RP B b m S w) : B ≤ w.heap.size := by obtain ⟨_, _, _, h⟩ := h; exact h.bw
theorem RP.mx {B b : Nat} {m : Int} {S : PS} {w : World} (h : RP B b m S w) : w.cell? ⟨0, 0, none⟩ = some (.int .i64 m) := by obtain ⟨_, _, _, h⟩ := h; exact h.mx
theorem RP.setF {B b : Nat} {m : Int} {S : PS} {w : World} (h : RP B b m S w) (j : Nat) (u : Value) (S' : PS) (hns : S'.ns = S.ns) (hop : S'.op = S.op) (hc : ∀ v vo, pcells S' v vo = (pcells S v vo).setIfInBounds j u) : RP B b m S' (w.setCell ⟨b, j, none⟩ u) ∧ Left B w (w.setCell ⟨b, j, none⟩ u) := by
  obtain ⟨v, vo, ns, h⟩ := h
  have := h.field (S' := S') (v' := v) (vo' := vo) (ns' := ns) (j := j) (u := u) (Below.refl _ _) (Keep.refl _) h.blk (by rw [hop]; exact h.tree) (by rw [hns]; exact h.abs) (hc v vo)
  exact ⟨⟨_, _, _, this.1⟩, this.2⟩
/-- The parser's own cells but for its two lists. -/
theorem RP.cells {B b : Nat} {m : Int} {S : PS} {w : World} (h : RP B b m S w) : w.cell? ⟨b, 2, none⟩ = some (.slice none 0 0) ∧ w.cell? ⟨b, 3, none⟩ = some (.bool false) ∧ w.cell? ⟨b, 4, none⟩ = some (.int .i64 S.mode) ∧ w.cell? ⟨b, 5, none⟩ = some (.int .i64 S.back) ∧ w.cell? ⟨b, 6, none⟩ = some (.int .i64 S.head) ∧ w.cell? ⟨b, 7, none⟩ = some (.int .i64 S.form) ∧
    w.cell? ⟨b, 8, none⟩ = some (.bool S.quirks) ∧ w.cell? ⟨b, 9, none⟩ = some (.string ⟨#[]⟩) ∧ w.cell? ⟨b, 10, none⟩ = some (.bool S.fresh) ∧ ∀ j, w.frozen? ⟨b, j, none⟩ = false := by
  obtain ⟨v, vo, ns, h⟩ := h
  exact ⟨h.blk.cell 2, h.blk.cell 3, h.blk.cell 4, h.blk.cell 5, h.blk.cell 6, h.blk.cell 7, h.blk.cell 8, h.blk.cell 9, h.blk.cell 10, fun j => h.blk.free j⟩
theorem tok7 {w : World} {g : Nat} {t : TypeId} {a0 a1 a2 a3 a4 a5 a6 : Value} (h : Blk w g t #[a0, a1, a2, a3, a4, a5, a6]) : w.cell? ⟨g, 0, none⟩ = some a0 ∧ w.cell? ⟨g, 1, none⟩ = some a1 ∧ w.cell? ⟨g, 2, none⟩ = some a2 ∧ w.cell? ⟨g, 3, none⟩ = some a3 ∧ w.cell? ⟨g, 4, none⟩ = some a4 ∧ w.cell? ⟨g, 5, none⟩ = some a5 ∧ w.cell? ⟨g, 6, none⟩ = some a6 :=
  ⟨h.cell 0, h.cell 1, h.cell 2, h.cell 3, h.cell 4, h.cell 5, h.cell 6⟩
set_option maxRecDepth 100000 in
set_option maxHeartbeats 1000000 in
theorem to_calls (B b : Nat) (m : Int) (S : PS) (k : Int) (q : Bool) (w : World) (h : RP B b m S w) :
    Calls Tryz.prog 164 #[.pointer (some ⟨b, 0, none⟩), .int .i64 k, .bool q] w fun e w' => e = .returned (.bool q) ∧ RP B b m { S with mode := k } w' ∧ Left B w w' := by
  have c4 := h.cells.2.2.1
  have f4 := h.cells.2.2.2.2.2.2.2.2.2 4
  have H := Lib.hid (h.setF 4 (.int .i64 k) { S with mode := k } rfl rfl (fun _ _ => rfl))
  clear h
  go_enter Tryz.func164, Tryz.ntmps164
  go_wp2
  go_ret
  exact ⟨rfl, H.out.1, H.out.2⟩
/-- build.parts. -/
def partsF (k : Int) : Bool := decide (k ≤ 2) || (k == 3) || (k == 5) || (k == 9) || decide (15 ≤ k)
set_option maxRecDepth 100000 in
set_option maxHeartbeats 1000000 in
theorem parts_calls (k : Int) (hk : k = 0 ∨ k = 1 ∨ k = 2 ∨ k = 3 ∨ k = 5 ∨ k = 6) (w : World) : Calls Tryz.prog 91 #[.int .i64 k] w fun e w' => e = .returned (.bool (k != 6)) ∧ w' = w := by
  rcases hk with rfl | rfl | rfl | rfl | rfl | rfl <;>
  · go_enter Tryz.func91, Tryz.ntmps91
    go_wp2
    go_ret
    exact ⟨rfl, rfl⟩
section
variable (kind f t : Int) (nm tx list : ByteArray) (A : Option Addr) (n c : Nat) (sf : Bool) (m : Int) (hs : nm.size ≤ 100000) (hl : list.size ≤ 100000) (w : World) (hm : w.cell? ⟨0, 0, none⟩ = some (.int .i64 m))
include hs hl hm
theorem tstart_q (q : Bool) (hq : ((kind == 1) && oneP nm list) = q) : Calls Tryz.prog 165 #[.agg #[.int .i64 kind, .string nm, .slice A n c, .string tx, .bool sf, .int .i64 f, .int .i64 t], .string list] w fun e w' => e = .returned (.bool q) ∧ Below w.heap.size w w' := by
  rw [← hq]; exact tstart_calls kind f t nm tx list A n c sf m hs hl w hm
theorem tend_q (q : Bool) (hq : ((kind == 2) && oneP nm list) = q) : Calls Tryz.prog 167 #[.agg #[.int .i64 kind, .string nm, .slice A n c, .string tx, .bool sf, .int .i64 f, .int .i64 t], .string list] w fun e w' => e = .returned (.bool q) ∧ Below w.heap.size w w' := by
  rw [← hq]; exact tend_calls kind f t nm tx list A n c sf m hs hl w hm
end
/-- The list that holds html alone. -/
def htmlL : ByteArray := ⟨#[32, 104, 116, 109, 108, 32]⟩
set_option maxRecDepth 100000 in
set_option maxHeartbeats 2000000 in
theorem said_no (b : Nat) (kind f t : Int) (nm tx : ByteArray) (A : Option Addr) (n c : Nat) (sf : Bool) (m : Int) (hs : nm.size ≤ 100000) (w : World) (hm : w.cell? ⟨0, 0, none⟩ = some (.int .i64 m)) (h4 : kind ≠ 4) (hh : ((kind == 1) && oneP nm htmlL) = false) :
    Calls Tryz.prog 168 #[.pointer (some ⟨b, 0, none⟩), .agg #[.int .i64 kind, .string nm, .slice A n c, .string tx, .bool sf, .int .i64 f, .int .i64 t]] w fun e w' => e = .returned (.bool false) ∧ Below w.heap.size w w' := by
  have e1 : (kind == 4) = false := by simpa using h4
  have hB := (Below.refl w.heap.size w).alloc (Nat.le_refl _) (.cells #[.int .i64 kind, .string nm, .slice A n c, .string tx, .bool sf, .int .i64 f, .int .i64 t] 114)
  have H := Lib.hid (tstart_q kind f t nm tx htmlL A n c sf m hs (by decide) _ ((hB.cell (p := ⟨0, 0, none⟩) (block_lt_of_cell hm)).trans hm) false hh)
  unfold htmlL at H
  have HB := Lib.hid hB
  clear hm hB hs h4 hh
  go_enter Tryz.func168, Tryz.ntmps168
  go_wp2_with (go_at_call 165; refine H.out.mono ?_; rintro e w1 ⟨rfl, hb1⟩)
  go_ret
  exact ⟨rfl, below_then HB.out hb1⟩
set_option maxRecDepth 100000 in
set_option maxHeartbeats 2000000 in
theorem in3_calls (B b : Nat) (m : Int) (S : PS) (L : List ByteArray) (nm : ByteArray) (q : Bool) (w : World) (h : RP B b m S w) (hL : NamesOf S L) (h0 : 0 < L.length) (hf : L.length ≤ 100000) (hs : ∀ x ∈ L, x.size ≤ 100000) (hq : hasB nm L.reverse = q) :
    Calls Tryz.prog 184 #[.pointer (some ⟨b, 0, none⟩), .string nm, .int .i64 3] w fun e w' => e = .returned (.bool q) ∧ Below w.heap.size w w' := by
  have HN := Lib.hid (names2_calls B b m S L L.length w h hL rfl h0 hf)
  have HM := Lib.hid h
  have HQ := Lib.hid hq
  have HS := Lib.hid hs
  obtain ⟨n, hn⟩ : ∃ n, n = L.length := ⟨_, rfl⟩
  have HNN := Lib.hid hn.symm
  clear h hL hq hn hs
  go_enter Tryz.func184, Tryz.ntmps184
  go_wp2_with (first
    | (go_at_call 222; refine HN.out.mono ?_; rintro e w1 ⟨g, rfl, hc, hb1⟩; (have HB1 := Lib.hid hb1); (have HH := Lib.hid (has_calls L nm g L.length m w1 rfl HS.out hc (HM.out.below hb1).mx (by omega))); clear hc hb1)
    | (go_at_call 221; refine HH.out.mono ?_; rw [HQ.out]; rintro e w2 ⟨rfl, rfl⟩))
  go_ret
  exact ⟨rfl, HB1.out⟩
set_option maxRecDepth 100000 in
set_option maxHeartbeats 2000000 in
theorem closeP_no (B b : Nat) (m : Int) (S : PS) (L : List ByteArray) (w : World) (h : RP B b m S w) (hL : NamesOf S L) (h0 : 0 < L.length) (hf : L.length ≤ 100000) (hs : ∀ x ∈ L, x.size ≤ 100000) (hq : hasB ⟨#[112]⟩ L.reverse = false) :
    Calls Tryz.prog 211 #[.pointer (some ⟨b, 0, none⟩)] w fun e w' => e = .returned (.tuple #[]) ∧ Below w.heap.size w w' := by
  have H := Lib.hid (in3_calls B b m S L ⟨#[112]⟩ false w h hL h0 hf hs hq)
  clear h hL hq hs
  go_enter Tryz.func211, Tryz.ntmps211
  go_wp2_with (go_at_call 184; refine H.out.mono ?_; rintro e w1 ⟨rfl, hb1⟩)
  go_end0
  exact ⟨rfl, hb1⟩
end Go.Proofs.YtcghahfboccceaaGreatDoor
