/- Several texts in one: Plain, BxPlain, BxDoc, PropT. -/
import Derived.IntWalk
import Derived.Test.YtkmmlcnoeeaekaaGreatDoorBoxesMakeM1
import Derived.Test.YtkmmlcnoeeaekaaGreatDoorBoxesMakeM2
import Derived.Deep.MidRow
import Derived.Great.Walk
/- Plain arithmetic: floor division, cut, part, between. -/
namespace Go.Proofs.YtkmmlcnoeeaekaaGreatDoor
def cut (n : Int) : Int := max (min n 16777216) (-16777216)
theorem min_eq (x y : Int) : (if y < x then y else x) = min x y := by split <;> omega
theorem max_eq (x y : Int) : (if x < y then y else x) = max x y := by split <;> omega

/-- P300: a part of a number. -/
def part (n up down : Int) : Int := if cut down = 0 then 0 else cut ((cut n * cut up).fdiv (cut down))
/-- P300: between two bounds. -/
def between (n least most : Int) : Int := max (if 0 ≤ most then min (cut n) (cut most) else cut n) (cut least)
end Go.Proofs.YtkmmlcnoeeaekaaGreatDoor
/- Plain law of P308 to P310: the boxes of a document, told of trees and put one by one. -/
namespace Go.Proofs.YtkmmlcnoeeaekaaGreatDoor
set_option linter.unusedVariables false

/-- A box told, no memory in sight. -/
structure PBox where
  kind : Int
  node : Int
  parent : Int
  kids : List Nat
  text : ByteArray
/-- A tree of boxes, while they are made. -/
inductive TreeV where
  | mk (kind node : Int) (text : ByteArray) (kids : List TreeV)
namespace TreeV
def kind : TreeV → Int | mk k _ _ _ => k
def node : TreeV → Int | mk _ n _ _ => n
def text : TreeV → ByteArray | mk _ _ t _ => t
def kids : TreeV → List TreeV | mk _ _ _ l => l
end TreeV
def addKid (S : List PBox) (p k : Nat) : List PBox := S.modify p fun b => { b with kids := b.kids ++ [k] }
theorem addKid_len (S : List PBox) (p k : Nat) : (addKid S p k).length = S.length := by simp [addKid]
theorem addKid_app {S : List PBox} {p : Nat} (k : Nat) (x : List PBox) (h : p < S.length) : addKid (S ++ x) p k = addKid S p k ++ x := by
  unfold addKid
  apply List.ext_getElem?
  intro i
  rw [List.getElem?_modify]
  by_cases hi : i < S.length
  · rw [List.getElem?_append_left hi, List.getElem?_append_left (by simpa using hi), List.getElem?_modify]
  · rw [List.getElem?_append_right (by omega), List.getElem?_append_right (by simp; omega), List.length_modify]
    have hne : ¬ p = i := by omega
    simp [hne]
mutual
/-- The flat list of a tree: the program's. -/
def flatP : TreeV → Int → List PBox → List PBox
  | .mk k n tx ks, parent, S => flatPs ks S.length (S ++ [⟨k, n, parent, [], tx⟩])
def flatPs : List TreeV → Nat → List PBox → List PBox
  | [], _, S => S
  | t :: ts, at_, S => flatPs ts at_ (flatP t at_ (addKid S at_ S.length))
end
/-- A box put: the reference's. -/
def putR (kind node parent : Int) (text : ByteArray) (S : List PBox) : List PBox := if 0 ≤ parent then addKid (S ++ [⟨kind, node, parent, [], text⟩]) parent.toNat S.length else S ++ [⟨kind, node, parent, [], text⟩]
/-- A tree put under a parent. -/
def flatR (t : TreeV) (parent : Int) (S : List PBox) : List PBox := flatP t parent (if 0 ≤ parent then addKid S parent.toNat S.length else S)
theorem flatPs_cons (t : TreeV) (ts : List TreeV) (a : Nat) (S : List PBox) : flatPs (t :: ts) a S = flatPs ts a (flatR t a S) := by
  rw [flatPs, flatR, if_pos (by omega)]
  rfl
theorem flatPs_app : ∀ (ts us : List TreeV) (a : Nat) (S : List PBox), flatPs (ts ++ us) a S = flatPs us a (flatPs ts a S)
  | [], us, a, S => by rw [List.nil_append, flatPs]
  | t :: ts, us, a, S => by rw [List.cons_append, flatPs, flatPs, flatPs_app ts us]
theorem flatR_put (k n : Int) (tx : ByteArray) (ks : List TreeV) (parent : Int) (S : List PBox) (hp : parent < S.length) : flatR (.mk k n tx ks) parent S = flatPs ks S.length (putR k n parent tx S) := by
  unfold flatR putR
  rw [flatP]
  split
  · rename_i h
    rw [addKid_len, addKid_app _ _ (by omega)]
  · rfl
mutual
theorem flatP_len : ∀ (t : TreeV) (p : Int) (S : List PBox), S.length < (flatP t p S).length
  | .mk k n tx ks, p, S => by
    rw [flatP]
    have := flatPs_len ks S.length (S ++ [⟨k, n, p, [], tx⟩])
    rw [List.length_append, List.length_singleton] at this
    omega
theorem flatPs_len : ∀ (ts : List TreeV) (a : Nat) (S : List PBox), S.length ≤ (flatPs ts a S).length
  | [], _, S => Nat.le_refl _
  | t :: ts, a, S => by
    rw [flatPs]
    have h1 := flatP_len t a (addKid S a S.length)
    have h2 := flatPs_len ts a (flatP t a (addKid S a S.length))
    rw [addKid_len] at h1
    omega
end
theorem putR_len (k n p : Int) (tx : ByteArray) (S : List PBox) : (putR k n p tx S).length = S.length + 1 := by
  unfold putR
  split
  · rw [addKid_len, List.length_append, List.length_singleton]
  · rw [List.length_append, List.length_singleton]

/-- Pieces: each that stands alone, and runs of others (of those that are told). -/
def pieces {α β : Type} (alone : α → Bool) (one : α → β) (run : List α → β) (told : List α → Bool) : List α → List α → List β
  | now, [] => if told now then [run now] else []
  | now, x :: l => if alone x then (if told now then [run now] else []) ++ one x :: pieces alone one run told [] l else pieces alone one run told (now ++ [x]) l
/-- The program's split. -/
def splitN {α β : Type} (alone : α → Bool) (one : α → β) (run : List α → β) (told : List α → Bool) : Nat → List α → List β
  | 0, _ => []
  | u + 1, [] => []
  | u + 1, x :: l => if alone x then one x :: splitN alone one run told u l
    else (if told (x :: l.takeWhile (fun y => !alone y)) then [run (x :: l.takeWhile (fun y => !alone y))] else []) ++ splitN alone one run told u (l.dropWhile (fun y => !alone y))
section
variable {α β : Type} {alone : α → Bool} {one : α → β} {run : List α → β} {told : List α → Bool}
theorem pieces_run : ∀ (l now : List α), pieces alone one run told now l = pieces alone one run told (now ++ l.takeWhile (fun y => !alone y)) (l.dropWhile (fun y => !alone y))
  | [], now => by simp
  | x :: l, now => by
    by_cases h : alone x = true
    · simp [h]
    · have h' : alone x = false := by simpa using h
      rw [pieces, if_neg h, pieces_run l, List.takeWhile_cons, List.dropWhile_cons]
      simp [h']
theorem split_pieces (h0 : told [] = false) : ∀ (u : Nat) (l : List α), l.length ≤ u → splitN alone one run told u l = pieces alone one run told [] l := by
  intro u
  induction u with
  | zero =>
    intro l h
    obtain rfl : l = [] := List.eq_nil_of_length_eq_zero (by omega)
    rw [splitN, pieces, h0]; rfl
  | succ u ih =>
    intro l h
    cases l with
    | nil => rw [splitN, pieces, h0]; rfl
    | cons x l =>
      rw [List.length_cons] at h
      rw [splitN]
      by_cases hx : alone x = true
      · rw [if_pos hx, pieces, if_pos hx, h0, ih l (by omega)]
        rfl
      · rw [if_neg hx, pieces, if_neg hx, pieces_run, List.nil_append]
        have hd : (l.dropWhile (fun y => !alone y)).length ≤ l.length := (List.dropWhile_suffix _).length_le
        rw [ih _ (by omega)]
        cases hl : l.dropWhile (fun y => !alone y) with
        | nil => rw [pieces, pieces, h0]; simp
        | cons y l2 =>
          have hy : alone y = true := by
            have := List.head?_dropWhile_not (fun y => !alone y) l
            rw [hl] at this
            simpa using this
          rw [pieces, pieces, if_pos hy, if_pos hy, h0]
          simp
end
end Go.Proofs.YtkmmlcnoeeaekaaGreatDoor
/- Plain law of P308 to P310, over a document: what a node's box is. -/
namespace Go.Proofs.YtkmmlcnoeeaekaaGreatDoor
set_option linter.unusedVariables false

theorem pieces_map {α γ β : Type} (f : γ → α) (alone : α → Bool) (one : α → β) (run : List α → β) (told : List α → Bool) : ∀ (l now : List γ), pieces alone one run told (now.map f) (l.map f) = pieces (fun x => alone (f x)) (fun x => one (f x)) (fun r => run (r.map f)) (fun r => told (r.map f)) now l
  | [], now => by rw [List.map_nil, pieces, pieces]
  | x :: l, now => by
    have h1 := pieces_map f alone one run told l []
    have h2 := pieces_map f alone one run told l (now ++ [x])
    rw [List.map_nil] at h1
    rw [List.map_append, List.map_cons, List.map_nil] at h2
    rw [List.map_cons, pieces, pieces, h1, h2]
theorem pieces_congr {α β : Type} {alone alone' : α → Bool} {one one' : α → β} {run run' : List α → β} {told told' : List α → Bool} : ∀ (l now : List α), (∀ x ∈ l, alone x = alone' x ∧ one x = one' x) → (∀ r : List α, (∀ x ∈ r, x ∈ now ∨ x ∈ l) → run r = run' r ∧ told r = told' r) → pieces alone one run told now l = pieces alone' one' run' told' now l
  | [], now, _, h2 => by
    obtain ⟨a, b⟩ := h2 now (fun x hx => .inl hx)
    rw [pieces, pieces, a, b]
  | x :: l, now, h1, h2 => by
    obtain ⟨a, b⟩ := h2 now (fun x hx => .inl hx)
    obtain ⟨c, d⟩ := h1 x (by simp)
    have e1 := pieces_congr l [] (fun y hy => h1 y (by simp [hy])) (fun r hr => h2 r (fun y hy => (hr y hy).elim (fun h => by cases h) (fun h => .inr (by simp [h]))))
    have e2 := pieces_congr l (now ++ [x]) (fun y hy => h1 y (by simp [hy])) (fun r hr => h2 r (fun y hy => (hr y hy).elim (fun h => by
      rcases List.mem_append.1 h with h | h
      · exact .inl h
      · simp at h; subst h; exact .inr (by simp)) (fun h => .inr (by simp [h]))))
    rw [pieces, pieces, a, b, c, d, e1, e2]

/-- What the boxes of a document hang on: kids, kinds of nodes, displays, line breaks, floats, texts, blanks that are kept, and how deep a node stands (the deeper, the less). -/
structure DocB where
  kid : Nat → List Nat
  nk : Nat → Int
  is : Nat → Int
  br : Nat → Bool
  out : Nat → Int
  tx : Nat → ByteArray
  idleS : ByteArray → Bool
  keep : Nat → Bool
  rank : Nat → Nat
  deep : ∀ n k, k ∈ kid n → rank k < rank n
def nlS : ByteArray := ⟨#[10]⟩
def noS : ByteArray := ⟨#[]⟩
def isBlk (k : Int) : Bool := k == 1 || k == 2 || k == 6 || k == 7
namespace DocB
variable (X : DocB)
def contentF : Nat → Nat → List Nat
  | 0, _ => []
  | u + 1, n => (X.kid n).flatMap fun k => if X.nk k = 3 then [k] else if X.nk k ≠ 2 ∨ X.is k = 0 then [] else if X.is k = 9 then contentF u k else [k]
def content (n : Nat) : List Nat := X.contentF (X.rank n) n
theorem contentF_deep : ∀ (u n k : Nat), k ∈ X.contentF u n → X.rank k < X.rank n
  | 0, _, _, h => by cases h
  | u + 1, n, k, h => by
    rw [contentF, List.mem_flatMap] at h
    obtain ⟨j, hj, h⟩ := h
    have hd := X.deep n j hj
    split at h
    · simp at h; subst h; exact hd
    · split at h
      · cases h
      · split at h
        · exact Nat.lt_trans (contentF_deep u j k h) hd
        · simp at h; subst h; exact hd
theorem content_deep {n k : Nat} (h : k ∈ X.content n) : X.rank k < X.rank n := X.contentF_deep _ _ _ h
theorem contentF_fuel : ∀ (d u n : Nat), X.rank n ≤ d → X.rank n ≤ u → X.contentF u n = X.contentF d n := by
  intro d
  induction d with
  | zero =>
    intro u n hd hu
    cases u with
    | zero => rfl
    | succ u =>
      have h0 : X.kid n = [] := by
        cases hk : X.kid n with
        | nil => rfl
        | cons k l => have := X.deep n k (by rw [hk]; simp); omega
      show X.contentF (u + 1) n = []
      rw [contentF, h0]; rfl
  | succ d ih =>
    intro u n hd hu
    cases u with
    | zero =>
      have h0 : X.kid n = [] := by
        cases hk : X.kid n with
        | nil => rfl
        | cons k l => have := X.deep n k (by rw [hk]; simp); omega
      show [] = X.contentF (d + 1) n
      rw [contentF, h0]; rfl
    | succ u =>
      rw [contentF, contentF]
      have hc : ∀ k ∈ X.kid n, X.contentF u k = X.contentF d k := fun k hk => ih u k (by have := X.deep n k hk; omega) (by have := X.deep n k hk; omega)
      simp only [List.flatMap]
      congr 1
      apply List.map_congr_left
      intro k hk
      rw [hc k hk]
theorem content_eq (n : Nat) : X.content n = (X.kid n).flatMap fun k => if X.nk k = 3 then [k] else if X.nk k ≠ 2 ∨ X.is k = 0 then [] else if X.is k = 9 then X.content k else [k] := by
  have h : X.content n = X.contentF (X.rank n + 1) n := X.contentF_fuel (X.rank n + 1) (X.rank n) n (by omega) (Nat.le_refl _)
  rw [h, contentF]
  simp only [List.flatMap]
  congr 1
  apply List.map_congr_left
  intro k hk
  have hd := X.deep n k hk
  have e : X.contentF (X.rank n) k = X.content k := X.contentF_fuel (X.rank k) (X.rank n) k (Nat.le_refl _) (by omega)
  rw [e]
def blockyT (o : Int) (t : TreeV) : Bool := isBlk t.kind && (decide (t.node < 0) || decide (X.out t.node.toNat < o))
def idle1 (t : TreeV) : Bool := t.kind == 4 && X.idleS t.text && !X.keep t.node.toNat
def idleT (l : List TreeV) : Bool := l.all X.idle1
def linesT (l : List TreeV) : TreeV := .mk 2 (-1) noS l
def rowT (alone : TreeV → Bool) (l : List TreeV) : List TreeV := pieces alone id linesT (fun r => !X.idleT r) [] l
def containerT (node : Int) (l : List TreeV) : TreeV := if l.any (X.blockyT 1) then .mk 1 node noS (X.rowT (X.blockyT 1) l) else .mk 2 node noS l
def named (i : Int) (n : Nat) : Bool := X.nk n == 2 && X.is n == i
section
variable (B : Nat → TreeV)
def cellT (node : Int) (l : List Nat) : TreeV := .mk 9 node noS [X.containerT (-1) (l.map B)]
def cellsT (l : List Nat) : List TreeV := pieces (X.named 7) (fun n => X.cellT B n (X.content n)) (fun r => X.cellT B (-1) r) (fun r => !X.idleT (r.map B)) [] l
def rowsT (l : List Nat) : List TreeV := pieces (X.named 6) (fun n => .mk 8 n noS (X.cellsT B (X.content n))) (fun r => .mk 8 (-1) noS [X.cellT B (-1) r]) (fun r => !X.idleT (r.map B)) [] l
def flexAlone (t : TreeV) : Bool := X.blockyT 2 t || (decide (0 ≤ t.node) && t.kind != 4 && X.out t.node.toNat == 2)
/-- A node's box, those deeper given. -/
def boxB (n : Nat) : TreeV :=
  if X.nk n = 3 then .mk 4 n (X.tx n) []
  else if X.br n = true ∧ X.is n = 1 then .mk 4 n nlS []
  else if X.is n = 1 ∧ ((X.content n).map B).any (X.blockyT 1) = false then .mk 3 n noS ((X.content n).map B)
  else if X.is n = 3 then .mk 5 n noS [X.containerT (-1) ((X.content n).map B)]
  else if X.is n = 4 then .mk 6 n noS (X.rowT X.flexAlone ((X.content n).map B))
  else if X.is n = 5 then .mk 7 n noS (X.rowsT B (X.content n))
  else X.containerT n ((X.content n).map B)
end
theorem map_same {B B' : Nat → TreeV} {l : List Nat} {r : Nat} (hl : ∀ k ∈ l, X.rank k < r) (h : ∀ k, X.rank k < r → B k = B' k) : l.map B = l.map B' := List.map_congr_left fun k hk => h k (hl k hk)
theorem cellT_same {B B' : Nat → TreeV} {l : List Nat} {r : Nat} (hl : ∀ k ∈ l, X.rank k < r) (h : ∀ k, X.rank k < r → B k = B' k) (node : Int) : X.cellT B node l = X.cellT B' node l := by
  unfold cellT
  rw [X.map_same hl h]
theorem cellsT_same {B B' : Nat → TreeV} {l : List Nat} {r : Nat} (hl : ∀ k ∈ l, X.rank k < r) (h : ∀ k, X.rank k < r → B k = B' k) : X.cellsT B l = X.cellsT B' l := by
  unfold cellsT
  refine pieces_congr l [] (fun n hn => ⟨rfl, ?_⟩) (fun q hq => ?_)
  · exact X.cellT_same (fun k hk => Nat.lt_trans (X.content_deep hk) (hl n hn)) h _
  · have hq' : ∀ k ∈ q, X.rank k < r := fun k hk => hl k ((hq k hk).elim (fun h => by cases h) id)
    exact ⟨X.cellT_same hq' h _, by rw [X.map_same hq' h]⟩
theorem boxB_same {B B' : Nat → TreeV} {n : Nat} (h : ∀ k, X.rank k < X.rank n → B k = B' k) : X.boxB B n = X.boxB B' n := by
  have hc : ∀ k ∈ X.content n, X.rank k < X.rank n := fun k hk => X.content_deep hk
  have hr : X.rowsT B (X.content n) = X.rowsT B' (X.content n) := by
    unfold rowsT
    refine pieces_congr _ [] (fun k hk => ⟨rfl, ?_⟩) (fun q hq => ?_)
    · rw [X.cellsT_same (fun j hj => Nat.lt_trans (X.content_deep hj) (hc k hk)) h]
    · have hq' : ∀ k ∈ q, X.rank k < X.rank n := fun k hk => hc k ((hq k hk).elim (fun h => by cases h) id)
      exact ⟨by rw [X.cellT_same hq' h], by rw [X.map_same hq' h]⟩
  unfold boxB
  rw [X.map_same hc h, hr]
def boxF : Nat → Nat → TreeV
  | 0, _ => .mk 0 0 noS []
  | u + 1, n => X.boxB (boxF u) n
/-- A node's box. -/
def box (n : Nat) : TreeV := X.boxF (X.rank n + 1) n
theorem boxF_fuel : ∀ (d u n : Nat), X.rank n < d → X.rank n < u → X.boxF u n = X.boxF d n := by
  intro d
  induction d with
  | zero => intro u n hd; omega
  | succ d ih =>
    intro u n hd hu
    cases u with
    | zero => omega
    | succ u => exact X.boxB_same fun k hk => ih u k (by omega) (by omega)
theorem box_eq (n : Nat) : X.box n = X.boxB X.box n := by
  show X.boxB (X.boxF (X.rank n)) n = _
  exact X.boxB_same fun k hk => X.boxF_fuel (X.rank k + 1) (X.rank n) k (by omega) hk
theorem box_node (n : Nat) : (X.box n).node = n := by
  rw [X.box_eq]
  unfold boxB containerT
  repeat' split
  all_goals rfl
/-- The kind of a node's box, as the reference finds it. -/
def kindN (n : Nat) : Int := (X.box n).kind
def blockyN (o : Int) (n : Nat) : Bool := isBlk (X.kindN n) && decide (X.out n < o)
theorem blocky_box (o : Int) (n : Nat) : X.blockyT o (X.box n) = X.blockyN o n := by
  unfold blockyT blockyN kindN
  rw [X.box_node]
  have h : ¬ ((n : Int) < 0) := by omega
  simp [h]
theorem any_box (o : Int) (l : List Nat) : (l.map X.box).any (X.blockyT o) = l.any (X.blockyN o) := by
  rw [List.any_map]
  congr 1
  funext n
  exact X.blocky_box o n
theorem kind_eq (n : Nat) : X.kindN n =
    if X.nk n = 3 ∨ (X.br n = true ∧ X.is n = 1) then 4
    else if X.is n = 1 ∧ (X.content n).any (X.blockyN 1) = false then 3
    else if X.is n = 3 then 5 else if X.is n = 4 then 6 else if X.is n = 5 then 7
    else if (X.content n).any (X.blockyN 1) = true then 1 else 2 := by
  unfold kindN
  rw [X.box_eq]
  unfold boxB containerT
  rw [X.any_box]
  by_cases h1 : X.nk n = 3
  · simp only [if_pos h1, if_pos (show X.nk n = 3 ∨ (X.br n = true ∧ X.is n = 1) from .inl h1)]; rfl
  · by_cases h2 : X.br n = true ∧ X.is n = 1
    · simp only [if_neg h1, if_pos h2, if_pos (show X.nk n = 3 ∨ (X.br n = true ∧ X.is n = 1) from .inr h2)]; rfl
    · have ho : ¬ (X.nk n = 3 ∨ (X.br n = true ∧ X.is n = 1)) := fun h => h.elim h1 h2
      simp only [if_neg h1, if_neg h2, if_neg ho]
      by_cases h3 : X.is n = 1 ∧ (X.content n).any (X.blockyN 1) = false
      · simp only [if_pos h3]; rfl
      · simp only [if_neg h3]
        by_cases h4 : X.is n = 3
        · simp only [if_pos h4]; rfl
        · simp only [if_neg h4]
          by_cases h5 : X.is n = 4
          · simp only [if_pos h5]; rfl
          · simp only [if_neg h5]
            by_cases h6 : X.is n = 5
            · simp only [if_pos h6]; rfl
            · simp only [if_neg h6]
              by_cases h7 : (X.content n).any (X.blockyN 1) = true
              · simp only [if_pos h7]; rfl
              · simp only [if_neg h7]; rfl
end DocB
end Go.Proofs.YtkmmlcnoeeaekaaGreatDoor
/- The rows of prop.go, as a table. -/
namespace Go.Proofs.YtkmmlcnoeeaekaaGreatDoor
open Go.RowKit
set_option linter.unusedVariables false

structure PropV where
  name : ByteArray
  kinds : ByteArray
  keys : ByteArray
  auto : ByteArray
  above : Bool
def PropV.zero : PropV := ⟨⟨#[]⟩, ⟨#[]⟩, ⟨#[]⟩, ⟨#[]⟩, false⟩
def propF (x : PropV) : List Value := [.string x.name, .string x.kinds, .string x.keys, .string x.auto, .bool x.above]
def propT1 : List PropV := [
  ⟨⟨#[100, 105, 115, 112, 108, 97, 121]⟩, ⟨#[107]⟩, ⟨#[110, 111, 110, 101, 32, 105, 110, 108, 105, 110, 101, 32, 98, 108, 111, 99, 107, 32, 105, 110, 108, 105, 110, 101, 45, 98, 108, 111, 99, 107, 32, 102, 108, 101, 120, 32, 116, 97, 98, 108, 101, 32, 116, 97, 98, 108, 101, 45, 114, 111, 119, 32, 116, 97, 98, 108, 101, 45, 99, 101, 108, 108, 32, 108, 105, 115, 116, 45, 105, 116, 101, 109, 32, 99, 111, 110, 116, 101, 110, 116, 115]⟩, ⟨#[]⟩, false⟩,
  ⟨⟨#[112, 111, 115, 105, 116, 105, 111, 110]⟩, ⟨#[107]⟩, ⟨#[115, 116, 97, 116, 105, 99, 32, 114, 101, 108, 97, 116, 105, 118, 101, 32, 97, 98, 115, 111, 108, 117, 116, 101, 32, 102, 105, 120, 101, 100]⟩, ⟨#[]⟩, false⟩,
  ⟨⟨#[102, 108, 111, 97, 116]⟩, ⟨#[107]⟩, ⟨#[110, 111, 110, 101, 32, 108, 101, 102, 116, 32, 114, 105, 103, 104, 116]⟩, ⟨#[]⟩, false⟩,
  ⟨⟨#[99, 108, 101, 97, 114]⟩, ⟨#[107]⟩, ⟨#[110, 111, 110, 101, 32, 108, 101, 102, 116, 32, 114, 105, 103, 104, 116, 32, 98, 111, 116, 104]⟩, ⟨#[]⟩, false⟩,
  ⟨⟨#[98, 111, 120, 45, 115, 105, 122, 105, 110, 103]⟩, ⟨#[107]⟩, ⟨#[99, 111, 110, 116, 101, 110, 116, 45, 98, 111, 120, 32, 98, 111, 114, 100, 101, 114, 45, 98, 111, 120]⟩, ⟨#[]⟩, false⟩,
  ⟨⟨#[119, 105, 100, 116, 104]⟩, ⟨#[108, 112, 97]⟩, ⟨#[]⟩, ⟨#[97, 117, 116, 111]⟩, true⟩,
  ⟨⟨#[104, 101, 105, 103, 104, 116]⟩, ⟨#[108, 112, 97]⟩, ⟨#[]⟩, ⟨#[97, 117, 116, 111]⟩, true⟩,
  ⟨⟨#[109, 105, 110, 45, 119, 105, 100, 116, 104]⟩, ⟨#[108, 112, 97]⟩, ⟨#[]⟩, ⟨#[97, 117, 116, 111]⟩, true⟩,
  ⟨⟨#[109, 105, 110, 45, 104, 101, 105, 103, 104, 116]⟩, ⟨#[108, 112, 97]⟩, ⟨#[]⟩, ⟨#[97, 117, 116, 111]⟩, true⟩,
  ⟨⟨#[109, 97, 120, 45, 119, 105, 100, 116, 104]⟩, ⟨#[108, 112, 97]⟩, ⟨#[]⟩, ⟨#[110, 111, 110, 101]⟩, true⟩,
  ⟨⟨#[109, 97, 120, 45, 104, 101, 105, 103, 104, 116]⟩, ⟨#[108, 112, 97]⟩, ⟨#[]⟩, ⟨#[110, 111, 110, 101]⟩, true⟩,
  ⟨⟨#[109, 97, 114, 103, 105, 110, 45, 116, 111, 112]⟩, ⟨#[108, 112, 97]⟩, ⟨#[]⟩, ⟨#[97, 117, 116, 111]⟩, false⟩,
  ⟨⟨#[109, 97, 114, 103, 105, 110, 45, 114, 105, 103, 104, 116]⟩, ⟨#[108, 112, 97]⟩, ⟨#[]⟩, ⟨#[97, 117, 116, 111]⟩, false⟩,
  ⟨⟨#[109, 97, 114, 103, 105, 110, 45, 98, 111, 116, 116, 111, 109]⟩, ⟨#[108, 112, 97]⟩, ⟨#[]⟩, ⟨#[97, 117, 116, 111]⟩, false⟩,
  ⟨⟨#[109, 97, 114, 103, 105, 110, 45, 108, 101, 102, 116]⟩, ⟨#[108, 112, 97]⟩, ⟨#[]⟩, ⟨#[97, 117, 116, 111]⟩, false⟩,
  ⟨⟨#[112, 97, 100, 100, 105, 110, 103, 45, 116, 111, 112]⟩, ⟨#[108, 112]⟩, ⟨#[]⟩, ⟨#[]⟩, true⟩,
  ⟨⟨#[112, 97, 100, 100, 105, 110, 103, 45, 114, 105, 103, 104, 116]⟩, ⟨#[108, 112]⟩, ⟨#[]⟩, ⟨#[]⟩, true⟩,
  ⟨⟨#[112, 97, 100, 100, 105, 110, 103, 45, 98, 111, 116, 116, 111, 109]⟩, ⟨#[108, 112]⟩, ⟨#[]⟩, ⟨#[]⟩, true⟩,
  ⟨⟨#[112, 97, 100, 100, 105, 110, 103, 45, 108, 101, 102, 116]⟩, ⟨#[108, 112]⟩, ⟨#[]⟩, ⟨#[]⟩, true⟩,
  ⟨⟨#[98, 111, 114, 100, 101, 114, 45, 116, 111, 112, 45, 119, 105, 100, 116, 104]⟩, ⟨#[108]⟩, ⟨#[]⟩, ⟨#[]⟩, true⟩]
def propT2 : List PropV := [
  ⟨⟨#[98, 111, 114, 100, 101, 114, 45, 114, 105, 103, 104, 116, 45, 119, 105, 100, 116, 104]⟩, ⟨#[108]⟩, ⟨#[]⟩, ⟨#[]⟩, true⟩,
  ⟨⟨#[98, 111, 114, 100, 101, 114, 45, 98, 111, 116, 116, 111, 109, 45, 119, 105, 100, 116, 104]⟩, ⟨#[108]⟩, ⟨#[]⟩, ⟨#[]⟩, true⟩,
  ⟨⟨#[98, 111, 114, 100, 101, 114, 45, 108, 101, 102, 116, 45, 119, 105, 100, 116, 104]⟩, ⟨#[108]⟩, ⟨#[]⟩, ⟨#[]⟩, true⟩,
  ⟨⟨#[98, 111, 114, 100, 101, 114, 45, 116, 111, 112, 45, 99, 111, 108, 111, 114]⟩, ⟨#[99]⟩, ⟨#[]⟩, ⟨#[]⟩, false⟩,
  ⟨⟨#[98, 111, 114, 100, 101, 114, 45, 114, 105, 103, 104, 116, 45, 99, 111, 108, 111, 114]⟩, ⟨#[99]⟩, ⟨#[]⟩, ⟨#[]⟩, false⟩,
  ⟨⟨#[98, 111, 114, 100, 101, 114, 45, 98, 111, 116, 116, 111, 109, 45, 99, 111, 108, 111, 114]⟩, ⟨#[99]⟩, ⟨#[]⟩, ⟨#[]⟩, false⟩,
  ⟨⟨#[98, 111, 114, 100, 101, 114, 45, 108, 101, 102, 116, 45, 99, 111, 108, 111, 114]⟩, ⟨#[99]⟩, ⟨#[]⟩, ⟨#[]⟩, false⟩,
  ⟨⟨#[116, 111, 112]⟩, ⟨#[108, 112, 97]⟩, ⟨#[]⟩, ⟨#[97, 117, 116, 111]⟩, false⟩,
  ⟨⟨#[114, 105, 103, 104, 116]⟩, ⟨#[108, 112, 97]⟩, ⟨#[]⟩, ⟨#[97, 117, 116, 111]⟩, false⟩,
  ⟨⟨#[98, 111, 116, 116, 111, 109]⟩, ⟨#[108, 112, 97]⟩, ⟨#[]⟩, ⟨#[97, 117, 116, 111]⟩, false⟩,
  ⟨⟨#[108, 101, 102, 116]⟩, ⟨#[108, 112, 97]⟩, ⟨#[]⟩, ⟨#[97, 117, 116, 111]⟩, false⟩,
  ⟨⟨#[122, 45, 105, 110, 100, 101, 120]⟩, ⟨#[110, 97]⟩, ⟨#[]⟩, ⟨#[97, 117, 116, 111]⟩, false⟩,
  ⟨⟨#[111, 118, 101, 114, 102, 108, 111, 119]⟩, ⟨#[107]⟩, ⟨#[118, 105, 115, 105, 98, 108, 101, 32, 104, 105, 100, 100, 101, 110]⟩, ⟨#[]⟩, false⟩,
  ⟨⟨#[118, 105, 115, 105, 98, 105, 108, 105, 116, 121]⟩, ⟨#[107]⟩, ⟨#[118, 105, 115, 105, 98, 108, 101, 32, 104, 105, 100, 100, 101, 110]⟩, ⟨#[]⟩, false⟩,
  ⟨⟨#[111, 112, 97, 99, 105, 116, 121]⟩, ⟨#[110]⟩, ⟨#[]⟩, ⟨#[]⟩, true⟩,
  ⟨⟨#[99, 111, 108, 111, 114]⟩, ⟨#[99]⟩, ⟨#[]⟩, ⟨#[]⟩, false⟩,
  ⟨⟨#[98, 97, 99, 107, 103, 114, 111, 117, 110, 100, 45, 99, 111, 108, 111, 114]⟩, ⟨#[99]⟩, ⟨#[]⟩, ⟨#[]⟩, false⟩,
  ⟨⟨#[102, 111, 110, 116, 45, 115, 105, 122, 101]⟩, ⟨#[108]⟩, ⟨#[]⟩, ⟨#[]⟩, true⟩,
  ⟨⟨#[108, 105, 110, 101, 45, 104, 101, 105, 103, 104, 116]⟩, ⟨#[108, 110, 97]⟩, ⟨#[]⟩, ⟨#[110, 111, 114, 109, 97, 108]⟩, true⟩,
  ⟨⟨#[116, 101, 120, 116, 45, 97, 108, 105, 103, 110]⟩, ⟨#[107]⟩, ⟨#[115, 116, 97, 114, 116, 32, 101, 110, 100, 32, 99, 101, 110, 116, 101, 114, 32, 106, 117, 115, 116, 105, 102, 121]⟩, ⟨#[]⟩, false⟩]
def propT3 : List PropV := [
  ⟨⟨#[116, 101, 120, 116, 45, 105, 110, 100, 101, 110, 116]⟩, ⟨#[108, 112]⟩, ⟨#[]⟩, ⟨#[]⟩, false⟩,
  ⟨⟨#[119, 104, 105, 116, 101, 45, 115, 112, 97, 99, 101]⟩, ⟨#[107]⟩, ⟨#[110, 111, 114, 109, 97, 108, 32, 112, 114, 101, 32, 110, 111, 119, 114, 97, 112, 32, 112, 114, 101, 45, 119, 114, 97, 112]⟩, ⟨#[]⟩, false⟩,
  ⟨⟨#[118, 101, 114, 116, 105, 99, 97, 108, 45, 97, 108, 105, 103, 110]⟩, ⟨#[107, 108]⟩, ⟨#[98, 97, 115, 101, 108, 105, 110, 101, 32, 116, 111, 112, 32, 109, 105, 100, 100, 108, 101, 32, 98, 111, 116, 116, 111, 109]⟩, ⟨#[]⟩, false⟩,
  ⟨⟨#[116, 101, 120, 116, 45, 116, 114, 97, 110, 115, 102, 111, 114, 109]⟩, ⟨#[107]⟩, ⟨#[110, 111, 110, 101, 32, 117, 112, 112, 101, 114, 99, 97, 115, 101, 32, 108, 111, 119, 101, 114, 99, 97, 115, 101]⟩, ⟨#[]⟩, false⟩,
  ⟨⟨#[108, 101, 116, 116, 101, 114, 45, 115, 112, 97, 99, 105, 110, 103]⟩, ⟨#[108, 97]⟩, ⟨#[]⟩, ⟨#[110, 111, 114, 109, 97, 108]⟩, false⟩,
  ⟨⟨#[102, 108, 101, 120, 45, 100, 105, 114, 101, 99, 116, 105, 111, 110]⟩, ⟨#[107]⟩, ⟨#[114, 111, 119, 32, 114, 111, 119, 45, 114, 101, 118, 101, 114, 115, 101, 32, 99, 111, 108, 117, 109, 110, 32, 99, 111, 108, 117, 109, 110, 45, 114, 101, 118, 101, 114, 115, 101]⟩, ⟨#[]⟩, false⟩,
  ⟨⟨#[102, 108, 101, 120, 45, 119, 114, 97, 112]⟩, ⟨#[107]⟩, ⟨#[110, 111, 119, 114, 97, 112, 32, 119, 114, 97, 112]⟩, ⟨#[]⟩, false⟩,
  ⟨⟨#[106, 117, 115, 116, 105, 102, 121, 45, 99, 111, 110, 116, 101, 110, 116]⟩, ⟨#[107]⟩, ⟨#[102, 108, 101, 120, 45, 115, 116, 97, 114, 116, 32, 102, 108, 101, 120, 45, 101, 110, 100, 32, 99, 101, 110, 116, 101, 114, 32, 45, 32, 115, 112, 97, 99, 101, 45, 98, 101, 116, 119, 101, 101, 110, 32, 115, 112, 97, 99, 101, 45, 97, 114, 111, 117, 110, 100]⟩, ⟨#[]⟩, false⟩,
  ⟨⟨#[97, 108, 105, 103, 110, 45, 105, 116, 101, 109, 115]⟩, ⟨#[107]⟩, ⟨#[102, 108, 101, 120, 45, 115, 116, 97, 114, 116, 32, 102, 108, 101, 120, 45, 101, 110, 100, 32, 99, 101, 110, 116, 101, 114, 32, 45, 32, 45, 32, 45, 32, 115, 116, 114, 101, 116, 99, 104]⟩, ⟨#[]⟩, false⟩,
  ⟨⟨#[97, 108, 105, 103, 110, 45, 115, 101, 108, 102]⟩, ⟨#[107, 97]⟩, ⟨#[102, 108, 101, 120, 45, 115, 116, 97, 114, 116, 32, 102, 108, 101, 120, 45, 101, 110, 100, 32, 99, 101, 110, 116, 101, 114, 32, 45, 32, 45, 32, 45, 32, 115, 116, 114, 101, 116, 99, 104]⟩, ⟨#[97, 117, 116, 111]⟩, false⟩,
  ⟨⟨#[102, 108, 101, 120, 45, 103, 114, 111, 119]⟩, ⟨#[110]⟩, ⟨#[]⟩, ⟨#[]⟩, true⟩,
  ⟨⟨#[102, 108, 101, 120, 45, 115, 104, 114, 105, 110, 107]⟩, ⟨#[110]⟩, ⟨#[]⟩, ⟨#[]⟩, true⟩,
  ⟨⟨#[102, 108, 101, 120, 45, 98, 97, 115, 105, 115]⟩, ⟨#[108, 112, 97]⟩, ⟨#[]⟩, ⟨#[97, 117, 116, 111]⟩, true⟩,
  ⟨⟨#[111, 114, 100, 101, 114]⟩, ⟨#[110]⟩, ⟨#[]⟩, ⟨#[]⟩, false⟩,
  ⟨⟨#[103, 97, 112]⟩, ⟨#[108]⟩, ⟨#[]⟩, ⟨#[]⟩, true⟩,
  ⟨⟨#[116, 97, 98, 108, 101, 45, 108, 97, 121, 111, 117, 116]⟩, ⟨#[107]⟩, ⟨#[97, 117, 116, 111, 32, 102, 105, 120, 101, 100]⟩, ⟨#[]⟩, false⟩,
  ⟨⟨#[98, 111, 114, 100, 101, 114, 45, 115, 112, 97, 99, 105, 110, 103]⟩, ⟨#[108]⟩, ⟨#[]⟩, ⟨#[]⟩, true⟩,
  ⟨⟨#[108, 105, 115, 116, 45, 115, 116, 121, 108, 101, 45, 116, 121, 112, 101]⟩, ⟨#[107]⟩, ⟨#[110, 111, 110, 101, 32, 100, 105, 115, 99, 32, 100, 101, 99, 105, 109, 97, 108]⟩, ⟨#[]⟩, false⟩,
  ⟨⟨#[112, 111, 105, 110, 116, 101, 114, 45, 101, 118, 101, 110, 116, 115]⟩, ⟨#[107]⟩, ⟨#[97, 117, 116, 111, 32, 110, 111, 110, 101]⟩, ⟨#[]⟩, false⟩]
def propAt (p : Nat) : PropV := (propT1 ++ propT2 ++ propT3).getD p PropV.zero
def tbl1 : Array Value := (propT1.flatMap propF).toArray
def tbl2 : Array Value := (propT2.flatMap propF).toArray
def tbl3 : Array Value := (propT3.flatMap propF).toArray
theorem propAt1 {p : Nat} (h : p < 20) : propAt p = propT1.getD p PropV.zero := by
  unfold propAt
  rw [List.getD_eq_getElem?_getD, List.getD_eq_getElem?_getD, List.append_assoc, List.getElem?_append_left (show p < propT1.length from h)]
theorem propAt2 {p : Nat} (h : p < 20) : propAt (p + 20) = propT2.getD p PropV.zero := by
  unfold propAt
  rw [List.getD_eq_getElem?_getD, List.getD_eq_getElem?_getD, List.append_assoc, List.getElem?_append_right (show propT1.length ≤ p + 20 from Nat.le_add_left _ _), List.getElem?_append_left (show p + 20 - propT1.length < propT2.length from by show p + 20 - 20 < 20; omega)]
  congr 2
theorem propAt3 {p : Nat} (h : p < 19) : propAt (p + 40) = propT3.getD p PropV.zero := by
  unfold propAt
  rw [List.getD_eq_getElem?_getD, List.getD_eq_getElem?_getD, List.getElem?_append_right (show (propT1 ++ propT2).length ≤ p + 40 from Nat.le_add_left _ _)]
  congr 2
theorem flat_get5 : ∀ (l : List PropV) (k j : Nat), k < l.length → j < 5 → (l.flatMap propF)[k * 5 + j]? = (propF (l.getD k PropV.zero))[j]?
  | [], k, j, h, _ => by simp at h
  | x :: l, 0, j, h, hj => by
    rw [List.flatMap_cons, Nat.zero_mul, Nat.zero_add, List.getElem?_append_left (by simpa [propF] using hj)]
    simp
  | x :: l, k + 1, j, h, hj => by
    have hl : (propF x).length = 5 := rfl
    rw [List.flatMap_cons, List.getElem?_append_right (by rw [hl]; omega), hl]
    have e : (k + 1) * 5 + j - 5 = k * 5 + j := by omega
    rw [e, flat_get5 l k j (by simpa using h) hj]
    simp
theorem tbl_range {w : World} {g : Nat} {T : TypeId} {l : List PropV} (h : Blk w g T (l.flatMap propF).toArray) {m : Nat} (hm : m < l.length) : w.rangeAt g (m * 5) (propF (l.getD m PropV.zero)) := fun j v hj => by
  have hc := h.cell (m * 5 + j)
  rw [hc, List.getElem?_toArray]
  have hj5 : j < 5 := by
    rcases Nat.lt_or_ge j 5 with h7 | h7
    · exact h7
    · rw [List.getElem?_eq_none (by simpa [propF] using h7)] at hj; cases hj
  rw [flat_get5 l m j hm hj5]
  exact hj
end Go.Proofs.YtkmmlcnoeeaekaaGreatDoor
