/- Plain law of P324, P325: items of flexible rows; how long they become. -/
import Derived.Test.YtpinfaoeggipmaaPlainB
namespace Go.Proofs.Ytpinfaoeggipmaa
set_option linter.unusedVariables false

/-- An item: Basis, Least, Most, Grow, Shrink, Edges. -/
structure FlexV where
  b : Int
  lo : Int
  hi : Int
  g : Int
  s : Int
  e : Int
def FlexV.zero : FlexV := ⟨0, 0, 0, 0, 0, 0⟩
def flexF (x : FlexV) : List Value := [.int .i64 x.b, .int .i64 x.lo, .int .i64 x.hi, .int .i64 x.g, .int .i64 x.s, .int .i64 x.e]
def fac (n : Int) : Int := min (max n 0) 1000000
def szp (n : Int) : Int := max 0 (cut n)
def fxb (x : FlexV) : FlexV := ⟨cut x.b, max 0 (cut x.lo), cut x.hi, fac x.g, fac x.s, cut x.e⟩
def long (x : FlexV) : Int := between x.b x.lo x.hi
structure FxOk (x : FlexV) : Prop where
  b0 : -16777216 ≤ x.b
  b1 : x.b ≤ 16777216
  l0 : 0 ≤ x.lo
  l1 : x.lo ≤ 16777216
  h0 : -16777216 ≤ x.hi
  h1 : x.hi ≤ 16777216
  g0 : 0 ≤ x.g
  g1 : x.g ≤ 1000000
  s0 : 0 ≤ x.s
  s1 : x.s ≤ 1000000
  e0 : -16777216 ≤ x.e
  e1 : x.e ≤ 16777216
theorem fxb_ok (x : FlexV) : FxOk (fxb x) := by
  have h1 := cut_lo x.b
  have h2 := cut_hi x.b
  have h3 := cut_hi x.lo
  have h4 := cut_lo x.hi
  have h5 := cut_hi x.hi
  have h6 := cut_lo x.e
  have h7 := cut_hi x.e
  constructor <;> simp only [fxb, fac] <;> omega

/-- P324: rows. -/
def incLast (l : List Int) : List Int := l.dropLast ++ [l.getLastD 0 + 1]
def rowsGo (room gap : Int) (wraps : Bool) : List FlexV → Int → List Int → List Int
  | [], _, out => out
  | x :: l, sum, out =>
    if out.length = 0 ∨ (wraps = true ∧ room < sum + gap + long (fxb x) + (fxb x).e) then rowsGo room gap wraps l (long (fxb x) + (fxb x).e) (out ++ [1])
    else rowsGo room gap wraps l (sum + gap + long (fxb x) + (fxb x).e) (incLast out)
theorem rowsGo_new {room gap : Int} {wraps : Bool} {x : FlexV} {l : List FlexV} {sum : Int} {out : List Int} (h : out.length = 0 ∨ (wraps = true ∧ room < sum + gap + long (fxb x) + (fxb x).e)) :
    rowsGo room gap wraps (x :: l) sum out = rowsGo room gap wraps l (long (fxb x) + (fxb x).e) (out ++ [1]) := by
  simp only [rowsGo]; rw [if_pos h]
theorem rowsGo_more {room gap : Int} {wraps : Bool} {x : FlexV} {l : List FlexV} {sum : Int} {out : List Int} (h : ¬ (out.length = 0 ∨ (wraps = true ∧ room < sum + gap + long (fxb x) + (fxb x).e))) :
    rowsGo room gap wraps (x :: l) sum out = rowsGo room gap wraps l (sum + gap + long (fxb x) + (fxb x).e) (incLast out) := by
  simp only [rowsGo]; rw [if_neg h]
theorem rowsGo_nil {room gap : Int} {wraps : Bool} {sum : Int} {out : List Int} : rowsGo room gap wraps [] sum out = out := rfl
theorem incLast_len (l : List Int) (h : 0 < l.length) : (incLast l).length = l.length := by simp [incLast]; omega

/-- P325: how an item stands: whether it is settled, and at what. -/
structure FxSt where
  settled : Bool
  is : Int
def FxSt.zero : FxSt := ⟨false, 0⟩
def sumL (l : List Int) : Int := l.foldl (· + ·) 0
theorem sumL_snoc (l : List Int) (x : Int) : sumL (l ++ [x]) = sumL l + x := by simp [sumL]
def sumTo (f : Nat → Int) : Nat → Int
  | 0 => 0
  | k + 1 => sumTo f k + f k
theorem sumTo_bd (f : Nat → Int) (b : Int) (hb : 0 ≤ b) (n : Nat) (h : ∀ i, i < n → -b ≤ f i ∧ f i ≤ b) : -(b * n) ≤ sumTo f n ∧ sumTo f n ≤ b * n := by
  induction n with
  | zero => simp [sumTo]
  | succ n ih =>
    have h1 := ih (fun i hi => h i (by omega))
    have h2 := h n (by omega)
    simp only [sumTo]
    have e : b * ((n + 1 : Nat) : Int) = b * n + b := by rw [Int.natCast_add, Int.mul_add]; simp
    omega
theorem sumTo_congr {f g : Nat → Int} {n : Nat} (h : ∀ i, i < n → f i = g i) : sumTo f n = sumTo g n := by
  induction n with
  | zero => rfl
  | succ n ih => simp only [sumTo]; rw [ih (fun i hi => h i (by omega)), h n (by omega)]
theorem sumTo_zero {f : Nat → Int} {n : Nat} (h : ∀ i, i < n → f i ≤ 0) : sumTo f n ≤ 0 := by
  induction n with
  | zero => simp [sumTo]
  | succ n ih => have := ih (fun i hi => h i (by omega)); have := h n (by omega); simp only [sumTo]; omega
theorem sumTo_nonneg {f : Nat → Int} {n : Nat} (h : ∀ i, i < n → 0 ≤ f i) : 0 ≤ sumTo f n := by
  induction n with
  | zero => simp [sumTo]
  | succ n ih => have := ih (fun i hi => h i (by omega)); have := h n (by omega); simp only [sumTo]; omega
end Go.Proofs.Ytpinfaoeggipmaa
