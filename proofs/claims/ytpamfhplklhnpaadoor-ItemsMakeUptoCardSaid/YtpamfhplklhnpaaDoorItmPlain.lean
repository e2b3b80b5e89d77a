/- The items of a box in lines: plain. -/
import Derived.Test.YtpamfhplklhnpaaDoorBoxes
import Derived.Test.YtpamfhplklhnpaaDoorCollapse
namespace Go.Proofs.YtpamfhplklhnpaaDoor
open Go.RowKit
set_option linter.unusedVariables false
set_option linter.unusedSimpArgs false

structure ItemV where
  kind : Int
  box : Int
  text : ByteArray
  size : Int
  spacing : Int
  height : Int
  mode : Int
  shift : Int
  w : Int
  h : Int
  side : Int
def itemC (x : ItemV) : Array Value := #[.int .i64 x.kind, .int .i64 x.box, .string x.text, .int .i64 x.size, .int .i64 x.spacing, .int .i64 x.height, .int .i64 x.mode, .int .i64 x.shift, .int .i64 x.w, .int .i64 x.h, .int .i64 x.side]
def ItemV.zero : ItemV := ⟨0, 0, ByteArray.empty, 0, 0, 0, 0, 0, 0, 0, 0⟩
def itemF (x : ItemV) : List Value := (itemC x).toList
def items (l : List ItemV) : List Value := l.flatMap itemF
theorem itemF_len (x : ItemV) : (itemF x).length = 11 := rfl
theorem items_len : ∀ (l : List ItemV), (items l).length = l.length * 11
  | [] => rfl
  | x :: l => by
    have h := items_len l
    show (itemF x ++ items l).length = _
    rw [List.length_append, itemF_len, h, List.length_cons]; omega
theorem items_append (l l' : List ItemV) : items (l ++ l') = items l ++ items l' := by simp [items]
theorem items_one (l : List ItemV) : ∀ u ∈ items l, u.oneCell' = true := fun u hu => by
  simp only [items, List.mem_flatMap, itemF, itemC] at hu
  obtain ⟨x, _, hu⟩ := hu
  simp at hu
  rcases hu with rfl | rfl | rfl | rfl | rfl | rfl | rfl | rfl | rfl | rfl | rfl <;> rfl
/-- The pieces of bytes between newlines. -/
def partsL : List UInt8 → List (List UInt8)
  | [] => [[]]
  | c :: l => if c = 10 then [] :: partsL l else match partsL l with
    | p :: ps => (c :: p) :: ps
    | [] => [[c]]
theorem partsL_ne (l : List UInt8) : partsL l ≠ [] := by
  cases l with
  | nil => simp [partsL]
  | cons c l => unfold partsL; split <;> (try split) <;> simp
theorem partsL_nl (a r : List UInt8) (h : ∀ c ∈ a, c ≠ 10) : partsL (a ++ 10 :: r) = a :: partsL r := by
  induction a with
  | nil => simp [partsL]
  | cons c a ih =>
    have h1 : c ≠ 10 := h c (by simp)
    have h2 := ih (fun x hx => h x (by simp [hx]))
    show partsL (c :: (a ++ 10 :: r)) = _
    rw [partsL, if_neg h1, h2]
theorem partsL_end (a : List UInt8) (h : ∀ c ∈ a, c ≠ 10) : partsL a = [a] := by
  induction a with
  | nil => rfl
  | cons c a ih =>
    have h1 : c ≠ 10 := h c (by simp)
    have h2 := ih (fun x hx => h x (by simp [hx]))
    rw [partsL, if_neg h1, h2]
/-- The items of pieces: a break ahead of each but the first. -/
def emit (x must : ItemV) : Bool → List (List UInt8) → List ItemV
  | _, [] => []
  | first, t :: ts => (if first then [] else [must]) ++ (if t = [] then [] else [{ x with text := ⟨t.toArray⟩ }]) ++ emit x must false ts
theorem emit_next (x must : ItemV) (ps : List (List UInt8)) (h : ps ≠ []) : emit x must false ps = must :: emit x must true ps := by
  cases ps with
  | nil => exact absurd rfl h
  | cons t ts => simp [emit]
theorem emit_snoc (x must : ItemV) : ∀ (ps : List (List UInt8)) (first : Bool) (t : List UInt8), emit x must first (ps ++ [t]) = emit x must first ps ++ ((if first && ps.isEmpty then [] else [must]) ++ (if t = [] then [] else [{ x with text := ⟨t.toArray⟩ }]))
  | [], first, t => by simp [emit]
  | p :: ps, first, t => by
    rw [List.cons_append, emit, emit, emit_snoc x must ps false t]
    simp
/-- What is blank behind pieces. -/
def blankB (e : Bool) : Bool → Bool → List (List UInt8) → Bool
  | _, b, [] => b
  | first, b, t :: ts => blankB e false (if t = [] then (if first then b else true) else e) ts
theorem blankB_snoc (e : Bool) : ∀ (ps : List (List UInt8)) (first b : Bool) (t : List UInt8), blankB e first b (ps ++ [t]) = if t = [] then (if first && ps.isEmpty then blankB e first b ps else true) else e
  | [], first, b, t => by simp [blankB]
  | p :: ps, first, b, t => by
    rw [List.cons_append, blankB, blankB_snoc e ps]
    simp
theorem blankB_next (e b : Bool) (ps : List (List UInt8)) (h : ps ≠ []) : blankB e false b ps = blankB e true true ps := by
  cases ps with
  | nil => exact absurd rfl h
  | cons t ts => simp [blankB]
/-- The pieces of a text in a mode. -/
def partsOf (keep : Bool) (l : List UInt8) : List (List UInt8) := if keep then partsL l else [l]
theorem emit_piece (x must : ItemV) (a r : List UInt8) (h : ∀ c ∈ a, c ≠ 10) : emit x must true (partsL (a ++ 10 :: r)) = (if a = [] then [] else [{ x with text := ⟨a.toArray⟩ }]) ++ must :: emit x must true (partsL r) := by
  rw [partsL_nl a r h, emit, emit_next x must _ (partsL_ne r)]
  simp
theorem blank_piece (e b : Bool) (a r : List UInt8) (h : ∀ c ∈ a, c ≠ 10) : blankB e true b (partsL (a ++ 10 :: r)) = blankB e true true (partsL r) := by
  rw [partsL_nl a r h, blankB, blankB_next e _ _ (partsL_ne r)]
end Go.Proofs.YtpamfhplklhnpaaDoor
