/- Several texts in one: TfM. -/
import Derived.Test.YtcghahfboccceaaGreatDoorTopEscapeM35
/- Contracts of the parser's modes at a paragraph's start tag. Printed by genTfM.py. -/
namespace Go.Proofs.YtcghahfboccceaaGreatDoor
open Go.RowKit Go.Shelf
set_option linter.unusedVariables false
set_option linter.unusedSimpArgs false

def headN : ByteArray := ⟨#[104, 101, 97, 100]⟩
def bodyN : ByteArray := ⟨#[98, 111, 100, 121]⟩
set_option maxRecDepth 100000 in
set_option maxHeartbeats 4000000 in
theorem initial_p (B b : Nat) (m : Int) (S : PS) (f t : Int) (A : Option Addr) (n c : Nat) (attrs : List (ByteArray × ByteArray)) (w : World) (h : RP B b m S w) (hat : AttrsAt B (.slice A n c) attrs w) :
    Calls Tryz.prog 127 #[.pointer (some ⟨b, 0, none⟩), .agg #[.int .i64 1, .string ⟨#[112]⟩, .slice A n c, .string ⟨#[]⟩, .bool false, .int .i64 f, .int .i64 t]] w fun e w' => e = .returned (.bool true) ∧ RP B b m { S with quirks := true, mode := 1 } w' ∧ Left B w w' := by
  obtain ⟨g, hg⟩ : ∃ g, g = w.heap.size := ⟨_, rfl⟩
  obtain ⟨wa, hwa⟩ : ∃ wa, wa = w.alloc (.cells #[.int .i64 1, .string ⟨#[112]⟩, .slice A n c, .string ⟨#[]⟩, .bool false, .int .i64 f, .int .i64 t] 114) := ⟨_, rfl⟩
  have TB : Hid (Blk wa g 114 #[.int .i64 1, .string ⟨#[112]⟩, .slice A n c, .string ⟨#[]⟩, .bool false, .int .i64 f, .int .i64 t]) := by show Blk _ _ _ _; rw [hwa, hg]; exact Blk.new w _ _
  have hb0 : Below w.heap.size w wa := by rw [hwa]; exact (Below.refl _ w).alloc (Nat.le_refl _) _
  have RR := Lib.hid (h.below hb0)
  have LL := Lib.hid (Left.of_below hb0 h.bw)
  have AA := Lib.hid (own_below hat hb0)
  have HWA := Lib.hid hwa
  have HG := Lib.hid hg
  clear h hat hwa hg hb0
  go_enter Tryz.func127, Tryz.ntmps127
  go_wp2_with (first
    | (go_at_call 90; rw [← HWA.out, ← HG.out]; refine (blanks_no 1 f t _ _ A n c _ _ (by decide)).mono ?_; rintro e w1 ⟨rfl, hb⟩; (have LL := Lib.hid (LL.out.trans (Left.of_below hb RR.out.bw))); (have RR := Lib.hid (RR.out.below hb)); (have TB := Lib.hid (TB.out.below hb TB.out.lt)); (have AA := Lib.hid (own_below AA.out hb)); (obtain ⟨k0, k1, k2, k3, k4, k5, k6⟩ := tok7 TB.out); clear hb; (have c8 := RR.out.cells.2.2.2.2.2.2.1); (have f8 := RR.out.cells.2.2.2.2.2.2.2.2.2 8))
    | (go_at_call 164; (have HF := Lib.hid (RR.out.setF 8 (.bool true) { S with quirks := true } rfl rfl (fun _ _ => rfl))); refine (to_calls B b m _ 1 true _ HF.out.1).mono ?_; rintro e w9 ⟨rfl, hr, hl⟩; (have LL := Lib.hid ((LL.out.trans HF.out.2).trans hl)); (have RR := Lib.hid hr); clear hr hl))
  go_ret
  exact ⟨rfl, RR.out, LL.out⟩
set_option maxRecDepth 100000 in
set_option maxHeartbeats 4000000 in
theorem beforeHTML_p (B b : Nat) (m : Int) (S : PS) (x : Nd) (f t : Int) (A : Option Addr) (n c : Nat) (attrs : List (ByteArray × ByteArray)) (w : World) (h : RP B b m S w) (hat : AttrsAt B (.slice A n c) attrs w) (hx : S.ns[0]? = some x) (hf : S.ns.length < 100000) (hkl : x.kids.length < 100000) :
    Calls Tryz.prog 128 #[.pointer (some ⟨b, 0, none⟩), .agg #[.int .i64 1, .string ⟨#[112]⟩, .slice A n c, .string ⟨#[]⟩, .bool false, .int .i64 f, .int .i64 t]] w fun e w' => e = .returned (.bool true) ∧ RP B b m { (({ S with op := [] } : PS).element 0 htmlN []) with mode := 2 } w' ∧ Left B w w' := by
  obtain ⟨g, hg⟩ : ∃ g, g = w.heap.size := ⟨_, rfl⟩
  obtain ⟨wa, hwa⟩ : ∃ wa, wa = w.alloc (.cells #[.int .i64 1, .string ⟨#[112]⟩, .slice A n c, .string ⟨#[]⟩, .bool false, .int .i64 f, .int .i64 t] 114) := ⟨_, rfl⟩
  have TB : Hid (Blk wa g 114 #[.int .i64 1, .string ⟨#[112]⟩, .slice A n c, .string ⟨#[]⟩, .bool false, .int .i64 f, .int .i64 t]) := by show Blk _ _ _ _; rw [hwa, hg]; exact Blk.new w _ _
  have hb0 : Below w.heap.size w wa := by rw [hwa]; exact (Below.refl _ w).alloc (Nat.le_refl _) _
  have RR := Lib.hid (h.below hb0)
  have LL := Lib.hid (Left.of_below hb0 h.bw)
  have AA := Lib.hid (own_below hat hb0)
  have HWA := Lib.hid hwa
  have HG := Lib.hid hg
  have HH := Lib.hid (fun W (hR : RP B b m S W) => html_calls B b m S x W hR hx hf hkl)
  clear h hat hwa hg hb0 hx
  go_enter Tryz.func128, Tryz.ntmps128
  go_wp2_with (first
    | (go_at_call 90; rw [← HWA.out, ← HG.out]; refine (blanks_no 1 f t _ _ A n c _ _ (by decide)).mono ?_; rintro e w1 ⟨rfl, hb⟩; (have LL := Lib.hid (LL.out.trans (Left.of_below hb RR.out.bw))); (have RR := Lib.hid (RR.out.below hb)); (have TB := Lib.hid (TB.out.below hb TB.out.lt)); (have AA := Lib.hid (own_below AA.out hb)); (obtain ⟨k0, k1, k2, k3, k4, k5, k6⟩ := tok7 TB.out); clear hb)
    | (go_at_call 165; refine (tstart_q 1 f t ⟨#[112]⟩ _ _ A n c _ m (by decide) (by decide) _ RR.out.mx false (by decide +kernel)).mono ?_; rintro e w1 ⟨rfl, hb⟩; (have LL := Lib.hid (LL.out.trans (Left.of_below hb RR.out.bw))); (have RR := Lib.hid (RR.out.below hb)); (have TB := Lib.hid (TB.out.below hb TB.out.lt)); (have AA := Lib.hid (own_below AA.out hb)); (obtain ⟨k0, k1, k2, k3, k4, k5, k6⟩ := tok7 TB.out); clear hb)
    | (go_at_call 166; refine (HH.out _ RR.out).mono ?_; rintro e w1 ⟨rfl, hr, hl⟩; (have LL := Lib.hid (LL.out.trans hl)); (have TB := Lib.hid (hl.keep.blk TB.out (by decide) (by decide) (by decide))); (have AA := Lib.hid (AttrsAt.keep AA.out hl.keep)); (have RR := Lib.hid hr); clear hr hl)
    | (go_at_call 164; refine (to_calls B b m _ 2 true _ RR.out).mono ?_; rintro e w9 ⟨rfl, hr, hl⟩; (have LL := Lib.hid (LL.out.trans hl)); (have RR := Lib.hid hr); clear hr hl))
  go_ret
  exact ⟨rfl, RR.out, LL.out⟩
set_option maxRecDepth 100000 in
set_option maxHeartbeats 4000000 in
theorem beforeHead_p (B b : Nat) (m : Int) (S : PS) (i : Nat) (x : Nd) (f t : Int) (A : Option Addr) (n c : Nat) (attrs : List (ByteArray × ByteArray)) (w : World) (h : RP B b m S w) (hat : AttrsAt B (.slice A n c) attrs w) (hi : S.op.getLast? = some (i : Int)) (hx : S.ns[i]? = some x) (hf : S.ns.length < 100000) (hkl : x.kids.length < 100000) (hop : S.op.length < 100000) :
    Calls Tryz.prog 129 #[.pointer (some ⟨b, 0, none⟩), .agg #[.int .i64 1, .string ⟨#[112]⟩, .slice A n c, .string ⟨#[]⟩, .bool false, .int .i64 f, .int .i64 t]] w fun e w' => e = .returned (.bool true) ∧ RP B b m { (S.element i headN []) with head := (S.ns.length : Int), mode := 3 } w' ∧ Left B w w' := by
  obtain ⟨g, hg⟩ : ∃ g, g = w.heap.size := ⟨_, rfl⟩
  obtain ⟨wa, hwa⟩ : ∃ wa, wa = w.alloc (.cells #[.int .i64 1, .string ⟨#[112]⟩, .slice A n c, .string ⟨#[]⟩, .bool false, .int .i64 f, .int .i64 t] 114) := ⟨_, rfl⟩
  have TB : Hid (Blk wa g 114 #[.int .i64 1, .string ⟨#[112]⟩, .slice A n c, .string ⟨#[]⟩, .bool false, .int .i64 f, .int .i64 t]) := by show Blk _ _ _ _; rw [hwa, hg]; exact Blk.new w _ _
  have hb0 : Below w.heap.size w wa := by rw [hwa]; exact (Below.refl _ w).alloc (Nat.le_refl _) _
  have RR := Lib.hid (h.below hb0)
  have LL := Lib.hid (Left.of_below hb0 h.bw)
  have AA := Lib.hid (own_below hat hb0)
  have HWA := Lib.hid hwa
  have HG := Lib.hid hg
  have HST := Lib.hid (fun W (hR : RP B b m S W) => start_calls B b m S i x headN (.slice none 0 0) [] W hR (AttrsAt.none B W) hi hx hf hkl (by simp) hop)
  unfold headN at HST
  obtain ⟨n9, hn9⟩ : ∃ n9, n9 = S.ns.length := ⟨_, rfl⟩
  rw [← hn9] at HST
  have HN9 := Lib.hid hn9
  rw [← hn9]
  unfold headN
  clear h hat hwa hg hb0 hi hx hn9
  go_enter Tryz.func129, Tryz.ntmps129
  go_wp2_with (first
    | (go_at_call 90; rw [← HWA.out, ← HG.out]; refine (blanks_no 1 f t _ _ A n c _ _ (by decide)).mono ?_; rintro e w1 ⟨rfl, hb⟩; (have LL := Lib.hid (LL.out.trans (Left.of_below hb RR.out.bw))); (have RR := Lib.hid (RR.out.below hb)); (have TB := Lib.hid (TB.out.below hb TB.out.lt)); (have AA := Lib.hid (own_below AA.out hb)); (obtain ⟨k0, k1, k2, k3, k4, k5, k6⟩ := tok7 TB.out); clear hb)
    | (go_at_call 168; refine (said_no b 1 f t ⟨#[112]⟩ ⟨#[]⟩ A n c false m (by decide) _ RR.out.mx (by decide) (by decide +kernel)).mono ?_; rintro e w1 ⟨rfl, hb⟩; (have LL := Lib.hid (LL.out.trans (Left.of_below hb RR.out.bw))); (have RR := Lib.hid (RR.out.below hb)); (have TB := Lib.hid (TB.out.below hb TB.out.lt)); (have AA := Lib.hid (own_below AA.out hb)); (obtain ⟨k0, k1, k2, k3, k4, k5, k6⟩ := tok7 TB.out); clear hb)
    | (go_at_call 165; refine (tstart_q 1 f t ⟨#[112]⟩ _ _ A n c _ m (by decide) (by decide) _ RR.out.mx false (by decide +kernel)).mono ?_; rintro e w1 ⟨rfl, hb⟩; (have LL := Lib.hid (LL.out.trans (Left.of_below hb RR.out.bw))); (have RR := Lib.hid (RR.out.below hb)); (have TB := Lib.hid (TB.out.below hb TB.out.lt)); (have AA := Lib.hid (own_below AA.out hb)); (obtain ⟨k0, k1, k2, k3, k4, k5, k6⟩ := tok7 TB.out); clear hb)
    | (go_at_call 169; refine (HST.out _ RR.out).mono ?_; rintro e w1 ⟨rfl, hr, hl⟩; (have LL := Lib.hid (LL.out.trans hl)); (have TB := Lib.hid (hl.keep.blk TB.out (by decide) (by decide) (by decide))); (have AA := Lib.hid (AttrsAt.keep AA.out hl.keep)); (have RR := Lib.hid hr); clear hr hl; (have c6 := RR.out.cells.2.2.2.2.1); (have f6 := RR.out.cells.2.2.2.2.2.2.2.2.2 6))
    | (go_at_call 164; (have HF := Lib.hid (RR.out.setF 6 (.int .i64 (n9 : Int)) { (S.element i ⟨#[104, 101, 97, 100]⟩ []) with head := (n9 : Int) } rfl rfl (fun _ _ => rfl))); refine (to_calls B b m _ 3 true _ HF.out.1).mono ?_; rintro e w9 ⟨rfl, hr, hl⟩; (have LL := Lib.hid ((LL.out.trans HF.out.2).trans hl)); (have RR := Lib.hid hr); clear hr hl))
  go_ret
  exact ⟨rfl, RR.out, LL.out⟩
set_option maxRecDepth 100000 in
set_option maxHeartbeats 4000000 in
theorem inHead_p (B b : Nat) (m : Int) (S : PS) (f t : Int) (A : Option Addr) (n c : Nat) (attrs : List (ByteArray × ByteArray)) (w : World) (h : RP B b m S w) (hat : AttrsAt B (.slice A n c) attrs w) (h2 : 2 ≤ S.op.length) (hop : S.op.length ≤ 1000000) :
    Calls Tryz.prog 130 #[.pointer (some ⟨b, 0, none⟩), .agg #[.int .i64 1, .string ⟨#[112]⟩, .slice A n c, .string ⟨#[]⟩, .bool false, .int .i64 f, .int .i64 t]] w fun e w' => e = .returned (.bool true) ∧ RP B b m { S with op := S.op.take (S.op.length - 1), mode := 5 } w' ∧ Left B w w' := by
  obtain ⟨g, hg⟩ : ∃ g, g = w.heap.size := ⟨_, rfl⟩
  obtain ⟨wa, hwa⟩ : ∃ wa, wa = w.alloc (.cells #[.int .i64 1, .string ⟨#[112]⟩, .slice A n c, .string ⟨#[]⟩, .bool false, .int .i64 f, .int .i64 t] 114) := ⟨_, rfl⟩
  have TB : Hid (Blk wa g 114 #[.int .i64 1, .string ⟨#[112]⟩, .slice A n c, .string ⟨#[]⟩, .bool false, .int .i64 f, .int .i64 t]) := by show Blk _ _ _ _; rw [hwa, hg]; exact Blk.new w _ _
  have hb0 : Below w.heap.size w wa := by rw [hwa]; exact (Below.refl _ w).alloc (Nat.le_refl _) _
  have RR := Lib.hid (h.below hb0)
  have LL := Lib.hid (Left.of_below hb0 h.bw)
  have AA := Lib.hid (own_below hat hb0)
  have HWA := Lib.hid hwa
  have HG := Lib.hid hg
  have HP := Lib.hid (fun W (hR : RP B b m S W) => pop_calls B b m S W hR h2 hop)
  clear h hat hwa hg hb0
  go_enter Tryz.func130, Tryz.ntmps130
  go_wp2_with (first
    | (go_at_call 90; rw [← HWA.out, ← HG.out]; refine (blanks_no 1 f t _ _ A n c _ _ (by decide)).mono ?_; rintro e w1 ⟨rfl, hb⟩; (have LL := Lib.hid (LL.out.trans (Left.of_below hb RR.out.bw))); (have RR := Lib.hid (RR.out.below hb)); (have TB := Lib.hid (TB.out.below hb TB.out.lt)); (have AA := Lib.hid (own_below AA.out hb)); (obtain ⟨k0, k1, k2, k3, k4, k5, k6⟩ := tok7 TB.out); clear hb)
    | (go_at_call 168; refine (said_no b 1 f t ⟨#[112]⟩ ⟨#[]⟩ A n c false m (by decide) _ RR.out.mx (by decide) (by decide +kernel)).mono ?_; rintro e w1 ⟨rfl, hb⟩; (have LL := Lib.hid (LL.out.trans (Left.of_below hb RR.out.bw))); (have RR := Lib.hid (RR.out.below hb)); (have TB := Lib.hid (TB.out.below hb TB.out.lt)); (have AA := Lib.hid (own_below AA.out hb)); (obtain ⟨k0, k1, k2, k3, k4, k5, k6⟩ := tok7 TB.out); clear hb)
    | (go_at_call 165; refine (tstart_q 1 f t ⟨#[112]⟩ _ _ A n c _ m (by decide) (by decide) _ RR.out.mx false (by decide +kernel)).mono ?_; rintro e w1 ⟨rfl, hb⟩; (have LL := Lib.hid (LL.out.trans (Left.of_below hb RR.out.bw))); (have RR := Lib.hid (RR.out.below hb)); (have TB := Lib.hid (TB.out.below hb TB.out.lt)); (have AA := Lib.hid (own_below AA.out hb)); (obtain ⟨k0, k1, k2, k3, k4, k5, k6⟩ := tok7 TB.out); clear hb)
    | (go_at_call 167; refine (tend_q 1 f t ⟨#[112]⟩ _ _ A n c _ m (by decide) (by decide) _ RR.out.mx false (by rfl)).mono ?_; rintro e w1 ⟨rfl, hb⟩; (have LL := Lib.hid (LL.out.trans (Left.of_below hb RR.out.bw))); (have RR := Lib.hid (RR.out.below hb)); (have TB := Lib.hid (TB.out.below hb TB.out.lt)); (have AA := Lib.hid (own_below AA.out hb)); (obtain ⟨k0, k1, k2, k3, k4, k5, k6⟩ := tok7 TB.out); clear hb)
    | (go_at_call 173; refine (HP.out _ RR.out).mono ?_; rintro e w1 ⟨rfl, hr, hl⟩; (have LL := Lib.hid (LL.out.trans hl)); (have TB := Lib.hid (hl.keep.blk TB.out (by decide) (by decide) (by decide))); (have AA := Lib.hid (AttrsAt.keep AA.out hl.keep)); (have RR := Lib.hid hr); clear hr hl)
    | (go_at_call 164; refine (to_calls B b m _ 5 true _ RR.out).mono ?_; rintro e w9 ⟨rfl, hr, hl⟩; (have LL := Lib.hid (LL.out.trans hl)); (have RR := Lib.hid hr); clear hr hl))
  go_ret
  exact ⟨rfl, RR.out, LL.out⟩
set_option maxRecDepth 100000 in
set_option maxHeartbeats 4000000 in
theorem afterHead_p (B b : Nat) (m : Int) (S : PS) (i : Nat) (x : Nd) (f t : Int) (A : Option Addr) (n c : Nat) (attrs : List (ByteArray × ByteArray)) (w : World) (h : RP B b m S w) (hat : AttrsAt B (.slice A n c) attrs w) (hi : S.op.getLast? = some (i : Int)) (hx : S.ns[i]? = some x) (hf : S.ns.length < 100000) (hkl : x.kids.length < 100000) (hop : S.op.length < 100000) :
    Calls Tryz.prog 132 #[.pointer (some ⟨b, 0, none⟩), .agg #[.int .i64 1, .string ⟨#[112]⟩, .slice A n c, .string ⟨#[]⟩, .bool false, .int .i64 f, .int .i64 t]] w fun e w' => e = .returned (.bool true) ∧ RP B b m { (S.element i bodyN []) with mode := 6 } w' ∧ Left B w w' := by
  obtain ⟨g, hg⟩ : ∃ g, g = w.heap.size := ⟨_, rfl⟩
  obtain ⟨wa, hwa⟩ : ∃ wa, wa = w.alloc (.cells #[.int .i64 1, .string ⟨#[112]⟩, .slice A n c, .string ⟨#[]⟩, .bool false, .int .i64 f, .int .i64 t] 114) := ⟨_, rfl⟩
  have TB : Hid (Blk wa g 114 #[.int .i64 1, .string ⟨#[112]⟩, .slice A n c, .string ⟨#[]⟩, .bool false, .int .i64 f, .int .i64 t]) := by show Blk _ _ _ _; rw [hwa, hg]; exact Blk.new w _ _
  have hb0 : Below w.heap.size w wa := by rw [hwa]; exact (Below.refl _ w).alloc (Nat.le_refl _) _
  have RR := Lib.hid (h.below hb0)
  have LL := Lib.hid (Left.of_below hb0 h.bw)
  have AA := Lib.hid (own_below hat hb0)
  have HWA := Lib.hid hwa
  have HG := Lib.hid hg
  have HST := Lib.hid (fun W (hR : RP B b m S W) => start_calls B b m S i x bodyN (.slice none 0 0) [] W hR (AttrsAt.none B W) hi hx hf hkl (by simp) hop)
  unfold bodyN at HST
  obtain ⟨n9, hn9⟩ : ∃ n9, n9 = S.ns.length := ⟨_, rfl⟩
  rw [← hn9] at HST
  have HN9 := Lib.hid hn9
  unfold bodyN
  clear h hat hwa hg hb0 hi hx hn9
  go_enter Tryz.func132, Tryz.ntmps132
  go_wp2_with (first
    | (go_at_call 90; rw [← HWA.out, ← HG.out]; refine (blanks_no 1 f t _ _ A n c _ _ (by decide)).mono ?_; rintro e w1 ⟨rfl, hb⟩; (have LL := Lib.hid (LL.out.trans (Left.of_below hb RR.out.bw))); (have RR := Lib.hid (RR.out.below hb)); (have TB := Lib.hid (TB.out.below hb TB.out.lt)); (have AA := Lib.hid (own_below AA.out hb)); (obtain ⟨k0, k1, k2, k3, k4, k5, k6⟩ := tok7 TB.out); clear hb)
    | (go_at_call 168; refine (said_no b 1 f t ⟨#[112]⟩ ⟨#[]⟩ A n c false m (by decide) _ RR.out.mx (by decide) (by decide +kernel)).mono ?_; rintro e w1 ⟨rfl, hb⟩; (have LL := Lib.hid (LL.out.trans (Left.of_below hb RR.out.bw))); (have RR := Lib.hid (RR.out.below hb)); (have TB := Lib.hid (TB.out.below hb TB.out.lt)); (have AA := Lib.hid (own_below AA.out hb)); (obtain ⟨k0, k1, k2, k3, k4, k5, k6⟩ := tok7 TB.out); clear hb)
    | (go_at_call 165; refine (tstart_q 1 f t ⟨#[112]⟩ _ _ A n c _ m (by decide) (by decide) _ RR.out.mx false (by decide +kernel)).mono ?_; rintro e w1 ⟨rfl, hb⟩; (have LL := Lib.hid (LL.out.trans (Left.of_below hb RR.out.bw))); (have RR := Lib.hid (RR.out.below hb)); (have TB := Lib.hid (TB.out.below hb TB.out.lt)); (have AA := Lib.hid (own_below AA.out hb)); (obtain ⟨k0, k1, k2, k3, k4, k5, k6⟩ := tok7 TB.out); clear hb)
    | (go_at_call 169; refine (HST.out _ RR.out).mono ?_; rintro e w1 ⟨rfl, hr, hl⟩; (have LL := Lib.hid (LL.out.trans hl)); (have TB := Lib.hid (hl.keep.blk TB.out (by decide) (by decide) (by decide))); (have AA := Lib.hid (AttrsAt.keep AA.out hl.keep)); (have RR := Lib.hid hr); clear hr hl)
    | (go_at_call 164; refine (to_calls B b m _ 6 true _ RR.out).mono ?_; rintro e w9 ⟨rfl, hr, hl⟩; (have LL := Lib.hid (LL.out.trans hl)); (have RR := Lib.hid hr); clear hr hl))
  go_ret
  exact ⟨rfl, RR.out, LL.out⟩
set_option maxRecDepth 100000 in
set_option maxHeartbeats 4000000 in
theorem bodyStart_p (B b : Nat) (m : Int) (S : PS) (i : Nat) (x : Nd) (f t : Int) (A : Option Addr) (n c : Nat) (attrs : List (ByteArray × ByteArray)) (w : World) (h : RP B b m S w) (hat : AttrsAt B (.slice A n c) attrs w) (L : List ByteArray) (hi : S.op.getLast? = some (i : Int)) (hx : S.ns[i]? = some x) (hf : S.ns.length < 100000) (hkl : x.kids.length < 100000) (hal : attrs.length ≤ 100000) (hop : S.op.length < 100000) (hL : NamesOf S L) (h0 : 0 < L.length) (hfL : L.length ≤ 100000) (hs : ∀ x ∈ L, x.size ≤ 100000) (hq : hasB ⟨#[112]⟩ L.reverse = false) :
    Calls Tryz.prog 177 #[.pointer (some ⟨b, 0, none⟩), .agg #[.int .i64 1, .string ⟨#[112]⟩, .slice A n c, .string ⟨#[]⟩, .bool false, .int .i64 f, .int .i64 t]] w fun e w' => e = .returned (.bool false) ∧ RP B b m (S.element i ⟨#[112]⟩ attrs) w' ∧ Left B w w' := by
  obtain ⟨g, hg⟩ : ∃ g, g = w.heap.size := ⟨_, rfl⟩
  obtain ⟨wa, hwa⟩ : ∃ wa, wa = w.alloc (.cells #[.int .i64 1, .string ⟨#[112]⟩, .slice A n c, .string ⟨#[]⟩, .bool false, .int .i64 f, .int .i64 t] 114) := ⟨_, rfl⟩
  have TB : Hid (Blk wa g 114 #[.int .i64 1, .string ⟨#[112]⟩, .slice A n c, .string ⟨#[]⟩, .bool false, .int .i64 f, .int .i64 t]) := by show Blk _ _ _ _; rw [hwa, hg]; exact Blk.new w _ _
  have hb0 : Below w.heap.size w wa := by rw [hwa]; exact (Below.refl _ w).alloc (Nat.le_refl _) _
  have RR := Lib.hid (h.below hb0)
  have LL := Lib.hid (Left.of_below hb0 h.bw)
  have AA := Lib.hid (own_below hat hb0)
  have HWA := Lib.hid hwa
  have HG := Lib.hid hg
  have HB := Lib.hid (fun W (hR : RP B b m S W) (hA : AttrsAt B (.slice A n c) attrs W) => block_calls B b m S i x 1 f t ⟨#[112]⟩ ⟨#[]⟩ A n c false attrs L W hR hA hi hx hf hkl hal hop hL h0 hfL hs hq)
  obtain ⟨S2, hS2⟩ : ∃ S2, S2 = S.element i ⟨#[112]⟩ attrs := ⟨_, rfl⟩
  rw [← hS2] at HB ⊢
  clear hS2
  clear h hat hwa hg hb0 hi hx hL hs hq
  go_enter Tryz.func177, Tryz.ntmps177
  go_wp2_with (first
    | (go_at_call 165; (try rw [← HWA.out, ← HG.out]); refine (tstart_q 1 f t ⟨#[112]⟩ _ _ A n c _ m (by decide) (by decide) _ RR.out.mx false (by decide +kernel)).mono ?_; rintro e w1 ⟨rfl, hb⟩; (have LL := Lib.hid (LL.out.trans (Left.of_below hb RR.out.bw))); (have RR := Lib.hid (RR.out.below hb)); (have TB := Lib.hid (TB.out.below hb TB.out.lt)); (have AA := Lib.hid (own_below AA.out hb)); (obtain ⟨k0, k1, k2, k3, k4, k5, k6⟩ := tok7 TB.out); clear hb)
    | (go_at_call 165; refine (tstart_q 1 f t ⟨#[112]⟩ _ _ A n c _ m (by decide) (by decide) _ RR.out.mx true (by decide +kernel)).mono ?_; rintro e w1 ⟨rfl, hb⟩; (have LL := Lib.hid (LL.out.trans (Left.of_below hb RR.out.bw))); (have RR := Lib.hid (RR.out.below hb)); (have TB := Lib.hid (TB.out.below hb TB.out.lt)); (have AA := Lib.hid (own_below AA.out hb)); (obtain ⟨k0, k1, k2, k3, k4, k5, k6⟩ := tok7 TB.out); clear hb)
    | (go_at_call 210; refine (HB.out _ RR.out AA.out).mono ?_; rintro e w1 ⟨rfl, hr, hl⟩; (have LL := Lib.hid (LL.out.trans hl)); (have TB := Lib.hid (hl.keep.blk TB.out (by decide) (by decide) (by decide))); (have AA := Lib.hid (AttrsAt.keep AA.out hl.keep)); (have RR := Lib.hid hr); clear hr hl))
  go_ret
  exact ⟨rfl, RR.out, LL.out⟩
set_option maxRecDepth 100000 in
set_option maxHeartbeats 4000000 in
theorem inBody_p (B b : Nat) (m : Int) (S : PS) (i : Nat) (x : Nd) (f t : Int) (A : Option Addr) (n c : Nat) (attrs : List (ByteArray × ByteArray)) (w : World) (h : RP B b m S w) (hat : AttrsAt B (.slice A n c) attrs w) (L : List ByteArray) (hi : S.op.getLast? = some (i : Int)) (hx : S.ns[i]? = some x) (hf : S.ns.length < 100000) (hkl : x.kids.length < 100000) (hal : attrs.length ≤ 100000) (hop : S.op.length < 100000) (hL : NamesOf S L) (h0 : 0 < L.length) (hfL : L.length ≤ 100000) (hs : ∀ x ∈ L, x.size ≤ 100000) (hq : hasB ⟨#[112]⟩ L.reverse = false) :
    Calls Tryz.prog 133 #[.pointer (some ⟨b, 0, none⟩), .agg #[.int .i64 1, .string ⟨#[112]⟩, .slice A n c, .string ⟨#[]⟩, .bool false, .int .i64 f, .int .i64 t]] w fun e w' => e = .returned (.bool false) ∧ RP B b m (S.element i ⟨#[112]⟩ attrs) w' ∧ Left B w w' := by
  obtain ⟨g, hg⟩ : ∃ g, g = w.heap.size := ⟨_, rfl⟩
  obtain ⟨wa, hwa⟩ : ∃ wa, wa = w.alloc (.cells #[.int .i64 1, .string ⟨#[112]⟩, .slice A n c, .string ⟨#[]⟩, .bool false, .int .i64 f, .int .i64 t] 114) := ⟨_, rfl⟩
  have TB : Hid (Blk wa g 114 #[.int .i64 1, .string ⟨#[112]⟩, .slice A n c, .string ⟨#[]⟩, .bool false, .int .i64 f, .int .i64 t]) := by show Blk _ _ _ _; rw [hwa, hg]; exact Blk.new w _ _
  have hb0 : Below w.heap.size w wa := by rw [hwa]; exact (Below.refl _ w).alloc (Nat.le_refl _) _
  have RR := Lib.hid (h.below hb0)
  have LL := Lib.hid (Left.of_below hb0 h.bw)
  have AA := Lib.hid (own_below hat hb0)
  have HWA := Lib.hid hwa
  have HG := Lib.hid hg
  have HB := Lib.hid (fun W (hR : RP B b m S W) (hA : AttrsAt B (.slice A n c) attrs W) => bodyStart_p B b m S i x f t A n c attrs W hR hA L hi hx hf hkl hal hop hL h0 hfL hs hq)
  obtain ⟨S2, hS2⟩ : ∃ S2, S2 = S.element i ⟨#[112]⟩ attrs := ⟨_, rfl⟩
  rw [← hS2] at HB ⊢
  clear hS2
  clear h hat hwa hg hb0 hi hx hL hs hq
  go_enter Tryz.func133, Tryz.ntmps133
  go_wp2_with (first
    | (go_at_call 168; rw [← HWA.out, ← HG.out]; refine (said_no b 1 f t ⟨#[112]⟩ ⟨#[]⟩ A n c false m (by decide) _ RR.out.mx (by decide) (by decide +kernel)).mono ?_; rintro e w1 ⟨rfl, hb⟩; (have LL := Lib.hid (LL.out.trans (Left.of_below hb RR.out.bw))); (have RR := Lib.hid (RR.out.below hb)); (have TB := Lib.hid (TB.out.below hb TB.out.lt)); (have AA := Lib.hid (own_below AA.out hb)); (obtain ⟨k0, k1, k2, k3, k4, k5, k6⟩ := tok7 TB.out); clear hb)
    | (go_at_call 174; refine (tover_calls 1 f t ⟨#[112]⟩ ⟨#[]⟩ A n c false _).mono ?_; rintro e w1 ⟨rfl, hb⟩; (have LL := Lib.hid (LL.out.trans (Left.of_below hb RR.out.bw))); (have RR := Lib.hid (RR.out.below hb)); (have TB := Lib.hid (TB.out.below hb TB.out.lt)); (have AA := Lib.hid (own_below AA.out hb)); (obtain ⟨k0, k1, k2, k3, k4, k5, k6⟩ := tok7 TB.out); clear hb)
    | (go_at_call 177; refine (HB.out _ RR.out AA.out).mono ?_; rintro e w1 ⟨rfl, hr, hl⟩; (have LL := Lib.hid (LL.out.trans hl)); (have TB := Lib.hid (hl.keep.blk TB.out (by decide) (by decide) (by decide))); (have AA := Lib.hid (AttrsAt.keep AA.out hl.keep)); (have RR := Lib.hid hr); clear hr hl))
  go_ret
  exact ⟨rfl, RR.out, LL.out⟩
end Go.Proofs.YtcghahfboccceaaGreatDoor
