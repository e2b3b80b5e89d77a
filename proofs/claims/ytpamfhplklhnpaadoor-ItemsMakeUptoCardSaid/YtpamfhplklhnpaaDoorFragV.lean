/- Fragments that came in: their cells. -/
import Derived.Test.YtpamfhplklhnpaaDoorBoxes
import Derived.Test.YtpamfhplklhnpaaDoorRowList
namespace Go.Proofs.YtpamfhplklhnpaaDoor
open Go.RowKit
set_option linter.unusedVariables false

structure FragV where
  box : Int
  node : Int
  par : Int
  x : Int
  y : Int
  w : Int
  h : Int
  text : ByteArray
def fragC (f : FragV) : Array Value := #[.int .i64 f.box, .int .i64 f.node, .int .i64 f.par, .int .i64 f.x, .int .i64 f.y, .int .i64 f.w, .int .i64 f.h, .string f.text]
def FragV.zero : FragV := ⟨0, 0, 0, 0, 0, 0, 0, ByteArray.empty⟩
def fragF (f : FragV) : List Value := (fragC f).toList
theorem fragF_len (f : FragV) : (fragF f).length = 8 := rfl
def fr (fs : List FragV) (i : Nat) : FragV := fs.getD i FragV.zero
/-- The slice at A holds the fragments fs, below block B. -/
def Frags (w : World) (B : Nat) (A : Option Addr) (fs : List FragV) : Prop := Holds w B A (fs.flatMap fragF)
theorem Frags.below {w w' : World} {B B' : Nat} {A : Option Addr} {fs : List FragV} (h : Frags w B A fs) (hb : Below B' w w') (hB : B ≤ B') : Frags w' B A fs := Holds.below h hb hB
theorem Frags.at_ {w : World} {B : Nat} {A : Option Addr} {fs : List FragV} (h : Frags w B A fs) {k : Nat} (hk : k < fs.length) : ∃ b off, A = some ⟨b, off, none⟩ ∧ b < B ∧
    w.cell? ⟨b, off + k * 8, none⟩ = some (.int .i64 (fr fs k).box) ∧ w.cell? ⟨b, off + k * 8 + 1, none⟩ = some (.int .i64 (fr fs k).node) ∧ w.cell? ⟨b, off + k * 8 + 2, none⟩ = some (.int .i64 (fr fs k).par) ∧
    w.cell? ⟨b, off + k * 8 + 3, none⟩ = some (.int .i64 (fr fs k).x) ∧ w.cell? ⟨b, off + k * 8 + 4, none⟩ = some (.int .i64 (fr fs k).y) ∧ w.cell? ⟨b, off + k * 8 + 5, none⟩ = some (.int .i64 (fr fs k).w) ∧
    w.cell? ⟨b, off + k * 8 + 6, none⟩ = some (.int .i64 (fr fs k).h) ∧ w.cell? ⟨b, off + k * 8 + 7, none⟩ = some (.string (fr fs k).text) := by
  obtain ⟨b, off, e, hb, hc⟩ := Holds.flatL h 8 fragF_len (by decide) FragV.zero hk
  exact ⟨b, off, e, hb, hc 0 _ rfl, hc 1 _ rfl, hc 2 _ rfl, hc 3 _ rfl, hc 4 _ rfl, hc 5 _ rfl, hc 6 _ rfl, hc 7 _ rfl⟩
/-- May a fragment be? -/
def fragOk (bs : List BoxV) (i : Nat) (f : FragV) : Prop := 0 ≤ f.box ∧ f.box < bs.length ∧ f.node = (bx bs f.box.toNat).node ∧ (i = 0 → f.par = -1) ∧ (0 < i → 0 ≤ f.par ∧ f.par < i)
def FragsOk (bs : List BoxV) (fs : List FragV) : Prop := (∀ i, i < fs.length → fragOk bs i (fr fs i)) ∧ 0 < fs.length ∧ (fr fs 0).box = 0
def LayOk (bs : List BoxV) (fs : List FragV) : Prop := BoxesOk bs ∧ FragsOk bs fs
noncomputable def layE (bs : List BoxV) (fs : List FragV) : Int := @ite _ (LayOk bs fs) (Classical.propDecidable _) 0 3
theorem layE_no {bs : List BoxV} {fs : List FragV} (h : ¬ LayOk bs fs) : layE bs fs = 3 := by unfold layE; rw [if_neg h]
theorem layE_yes {bs : List BoxV} {fs : List FragV} (h : LayOk bs fs) : layE bs fs = 0 := by unfold layE; rw [if_pos h]
theorem layE_frag {bs : List BoxV} {fs : List FragV} {k : Nat} (hk : k < fs.length) (h : ¬ fragOk bs k (fr fs k)) : layE bs fs = 3 := layE_no fun h' => h (h'.2.1 k hk)
end Go.Proofs.YtpamfhplklhnpaaDoor
