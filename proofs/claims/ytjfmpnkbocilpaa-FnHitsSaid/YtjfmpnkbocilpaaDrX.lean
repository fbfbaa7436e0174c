/-
  The draws of variants with boards for the laws of features.
-/
import Derived.Test.YtjfmpnkbocilpaaDrW
namespace Go.Proofs.Ytjfmpnkbocilpaa
open Go.ChangeShapes Go.WideShapes Go.ChangeAt Go.RowKit
set_option linter.unusedVariables false


/-- a variant with a board, for a law -/
def DvPost (w : World) (e : Ending) (w' : World) : Prop :=
  ∃ (p c h s : Int) (A : Option Addr) (m d : Nat) (ys : List Int) (B : Option Addr) (q f : Nat) (zs : List Int), e = .returned (.tuple #[vrV p c h s, bdV A m d B q f]) ∧ m ≤ 200 ∧ q ≤ 200 ∧ Ints w' w'.heap.size .i64 A m ys ∧ Ints w' w'.heap.size .i64 B q zs ∧ Below w.heap.size w w'



end Go.Proofs.Ytjfmpnkbocilpaa
