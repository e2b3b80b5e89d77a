/- Plain law of P345: the list that is drawn. -/
import Derived.Test.YtkppignoomnmdaaPaintA
namespace Go.Proofs.Ytkppignoomnmdaa
set_option linter.unusedVariables false

/-- A state: a clip, and how much is seen. -/
structure StV where
  x : Int
  y : Int
  w : Int
  h : Int
  n : Int
/-- A command as it is drawn. -/
structure DrawV where
  c : CmdV
  s : StV
def StV.zero : StV := ⟨0, 0, 0, 0, 0⟩
def DrawV.zero : DrawV := ⟨CmdV.zero, StV.zero⟩
def stF (s : StV) : List Value := [.int .i64 s.x, .int .i64 s.y, .int .i64 s.w, .int .i64 s.h, .int .i64 s.n]
def drawF (d : DrawV) : List Value := [.int .i64 d.c.d, .int .i64 d.c.node, .int .i64 d.c.x, .int .i64 d.c.y, .int .i64 d.c.w, .int .i64 d.c.h, .int .i64 d.c.color, .int .i64 d.c.n, .string d.c.text, .int .i64 d.s.x, .int .i64 d.s.y, .int .i64 d.s.w, .int .i64 d.s.h, .int .i64 d.s.n]
def sts (l : List StV) : List Value := l.flatMap stF
def draws (l : List DrawV) : List Value := l.flatMap drawF
theorem sts_snoc (l : List StV) (c : StV) : sts (l ++ [c]) = sts l ++ stF c := by simp [sts]
theorem draws_snoc (l : List DrawV) (c : DrawV) : draws (l ++ [c]) = draws l ++ drawF c := by simp [draws]
def wholeSt : StV := ⟨-16777216, -16777216, 33554432, 33554432, 1000⟩
def meetX (x y w h a b c d : Int) : Bool := decide (min (x + w) (a + c) - max x a ≤ 0) || decide (min (y + h) (b + d) - max y b ≤ 0)
def meetSt (s : StV) (a b c d : Int) : StV :=
  if meetX s.x s.y s.w s.h a b c d then ⟨0, 0, 0, 0, s.n⟩ else ⟨max s.x a, max s.y b, min (s.x + s.w) (a + c) - max s.x a, min (s.y + s.h) (b + d) - max s.y b, s.n⟩
def dimSt (s : StV) (n : Int) : StV := ⟨s.x, s.y, s.w, s.h, s.n * min (max n 0) 1000 / 1000⟩
def stepSt (s : StV) (c : CmdV) : StV := if c.d = 3 then meetSt s (cut c.x) (cut c.y) (cut c.w) (cut c.h) else dimSt s c.n
def foldSt (o : List CmdV) : StV := o.foldl stepSt wholeSt
structure StOk (s : StV) : Prop where
  x0 : -16777216 ≤ s.x
  x1 : s.x ≤ 16777216
  w0 : 0 ≤ s.w
  w1 : s.x + s.w ≤ 33554432
  y0 : -16777216 ≤ s.y
  y1 : s.y ≤ 16777216
  h0 : 0 ≤ s.h
  h1 : s.y + s.h ≤ 33554432
  n0 : 0 ≤ s.n
  n1 : s.n ≤ 1000
theorem whole_ok : StOk wholeSt := by constructor <;> decide
theorem meet_ok (s : StV) (a b c d : Int) (h : StOk s) (a0 : -16777216 ≤ a) (a1 : a ≤ 16777216) (b0 : -16777216 ≤ b) (b1 : b ≤ 16777216) (c1 : c ≤ 16777216) (d1 : d ≤ 16777216) : StOk (meetSt s a b c d) := by
  obtain ⟨x0, x1, w0, w1, y0, y1, h0, h1, n0, n1⟩ := h
  unfold meetSt
  split
  · constructor <;> simp <;> omega
  · rename_i e
    simp [meetX] at e
    constructor <;> simp only [] <;> omega
theorem dim_mul (x n : Int) (h0 : 0 ≤ x) (h1 : x ≤ 1000) : 0 ≤ x * min (max n 0) 1000 ∧ x * min (max n 0) 1000 ≤ 1000000 :=
  ⟨Int.mul_nonneg h0 (by omega), Int.le_trans (Int.mul_le_mul_of_nonneg_right h1 (by omega)) (by omega)⟩
theorem dim_ok (s : StV) (n : Int) (h : StOk s) : StOk (dimSt s n) := by
  obtain ⟨x0, x1, w0, w1, y0, y1, h0, h1, n0, n1⟩ := h
  have hm := dim_mul s.n n n0 n1
  unfold dimSt
  constructor <;> simp only [] <;> omega
theorem step_ok (s : StV) (c : CmdV) (h : StOk s) : StOk (stepSt s c) := by
  unfold stepSt
  split
  · exact meet_ok s _ _ _ _ h (cut_lo _) (cut_hi _) (cut_lo _) (cut_hi _) (cut_hi _) (cut_hi _)
  · exact dim_ok s _ h
theorem fold_ok (o : List CmdV) : StOk (foldSt o) := by
  have h : ∀ (o : List CmdV) (s : StV), StOk s → StOk (o.foldl stepSt s) := by
    intro o
    induction o with
    | nil => intro s h; exact h
    | cons c o ih => intro s h; exact ih _ (step_ok s c h)
  exact h o _ whole_ok
theorem fold_snoc (o : List CmdV) (c : CmdV) : foldSt (o ++ [c]) = stepSt (foldSt o) c := by simp [foldSt]
/-- What is drawn, and what is wrong. -/
def flatGo : List CmdV → List CmdV → List DrawV → List DrawV × Int
  | [], o, out => if o.length = 0 then (out, 0) else ([], 3)
  | c :: l, o, out =>
    if c.d = 1 ∨ c.d = 2 then flatGo l o (out ++ [⟨c, foldSt o⟩])
    else if c.d = 3 ∨ c.d = 4 then flatGo l (o ++ [c]) out
    else if c.d = 5 then (if o.length = 0 then ([], 3) else flatGo l o.dropLast out)
    else ([], 7)
theorem flatGo_draw {c : CmdV} {l o : List CmdV} {out : List DrawV} (h : c.d = 1 ∨ c.d = 2) : flatGo (c :: l) o out = flatGo l o (out ++ [⟨c, foldSt o⟩]) := by
  simp only [flatGo]; rw [if_pos h]
theorem flatGo_open {c : CmdV} {l o : List CmdV} {out : List DrawV} (h : c.d = 3 ∨ c.d = 4) : flatGo (c :: l) o out = flatGo l (o ++ [c]) out := by
  simp only [flatGo]; rw [if_neg (by omega), if_pos h]
theorem flatGo_end0 {c : CmdV} {l o : List CmdV} {out : List DrawV} (h : c.d = 5) (h0 : o.length = 0) : flatGo (c :: l) o out = ([], 3) := by
  simp only [flatGo]; rw [if_neg (by omega), if_neg (by omega), if_pos h, if_pos h0]
theorem flatGo_end {c : CmdV} {l o : List CmdV} {out : List DrawV} (h : c.d = 5) (h0 : ¬ o.length = 0) : flatGo (c :: l) o out = flatGo l o.dropLast out := by
  simp only [flatGo]; rw [if_neg (by omega), if_neg (by omega), if_pos h, if_neg h0]
theorem flatGo_kind {c : CmdV} {l o : List CmdV} {out : List DrawV} (h1 : c.d ≠ 1) (h2 : c.d ≠ 2) (h3 : c.d ≠ 3) (h4 : c.d ≠ 4) (h5 : c.d ≠ 5) : flatGo (c :: l) o out = ([], 7) := by
  simp only [flatGo]; rw [if_neg (by omega), if_neg (by omega), if_neg h5]
theorem flatGo_nil {o : List CmdV} {out : List DrawV} (h : o.length = 0) : flatGo [] o out = (out, 0) := by simp only [flatGo]; rw [if_pos h]
theorem flatGo_left {o : List CmdV} {out : List DrawV} (h : ¬ o.length = 0) : flatGo [] o out = ([], 3) := by simp only [flatGo]; rw [if_neg h]
theorem flatGo_len : ∀ (l o : List CmdV) (out : List DrawV), (flatGo l o out).1.length ≤ out.length + l.length := by
  intro l
  induction l with
  | nil => intro o out; simp only [flatGo]; split <;> simp
  | cons c l ih =>
    intro o out
    simp only [flatGo]
    split
    · have := ih o (out ++ [⟨c, foldSt o⟩]); simp at this ⊢; omega
    · split
      · have := ih (o ++ [c]) out; simp; omega
      · split
        · split
          · simp
          · have := ih o.dropLast out; simp; omega
        · simp
/-- The states around, from the whole on. -/
def around (o : List CmdV) : List StV := (List.range (o.length + 1)).map (fun i => foldSt (o.take i))
theorem around_len (o : List CmdV) : (around o).length = o.length + 1 := by simp [around]
theorem around_snoc (o : List CmdV) (c : CmdV) : around (o ++ [c]) = around o ++ [stepSt (foldSt o) c] := by
  have h : (List.range (o.length + 1)).map (fun i => foldSt ((o ++ [c]).take i)) = around o := by
    apply List.map_congr_left
    intro i hi
    have : i ≤ o.length := by simp at hi; omega
    rw [List.take_append_of_le_length this]
  show (List.range ((o ++ [c]).length + 1)).map _ = _
  rw [List.length_append]
  show (List.range ((o.length + 1) + 1)).map _ = _
  rw [List.range_succ, List.map_append, h]
  simp only [List.map_cons, List.map_nil, ← fold_snoc]
  rw [List.take_of_length_le (by simp)]
theorem around_last (o : List CmdV) : (around o).getD o.length StV.zero = foldSt o := by
  simp [around, List.getD]
theorem around_drop (o : List CmdV) (h : ¬ o.length = 0) : around o.dropLast = (around o).take o.length := by
  unfold around
  rw [← List.map_take, List.take_range, List.length_dropLast, show o.length - 1 + 1 = o.length from by omega, show min o.length (o.length + 1) = o.length from by omega]
  apply List.map_congr_left
  intro i hi
  have : i < o.length := by simpa using hi
  rw [List.dropLast_eq_take, List.take_take, show min i (o.length - 1) = i from by omega]
theorem drop_at {α : Type} (l : List α) (d : α) (k : Nat) (h : k < l.length) : l.drop k = l.getD k d :: l.drop (k + 1) := by
  rw [List.drop_eq_getElem_cons h]; simp [List.getD, h]
end Go.Proofs.Ytkppignoomnmdaa
