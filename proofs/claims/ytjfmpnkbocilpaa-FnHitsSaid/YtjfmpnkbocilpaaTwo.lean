/-
  Memory in which only blocks of two ranges have turned.
-/
import Derived.Test.YtjfmpnkbocilpaaRes
namespace Go.Proofs.Ytjfmpnkbocilpaa
open Go.ChangeShapes Go.WideShapes Go.ChangeAt Go.RowKit

/-- Only blocks of two ranges, and new ones, have turned. -/
structure Out2 (l1 u1 l2 u2 : Nat) (w w' : World) : Prop where
  os : w'.os = w.os
  tape : w'.tape = w.tape
  output : w'.output = w.output
  size : w.heap.size ≤ w'.heap.size
  block : ∀ i, i < w.heap.size → (i < l1 ∨ u1 ≤ i) → (i < l2 ∨ u2 ≤ i) → w'.heap[i]? = w.heap[i]?
section
variable {w w' wa wb : World} {l1 u1 l2 u2 : Nat}
theorem Out2.mk3 (h : Below w.heap.size w wa) (k : Out l1 u1 wa wb) (k' : Out l2 u2 wb w') : Out2 l1 u1 l2 u2 w w' :=
  ⟨k'.os.trans (k.os.trans h.os), k'.tape.trans (k.tape.trans h.tape), k'.output.trans (k.output.trans h.output), Nat.le_trans h.size (Nat.le_trans k.size k'.size),
    fun i hi h1 h2 => ((k'.block i (Nat.lt_of_lt_of_le hi (Nat.le_trans h.size k.size)) h2).trans (k.block i (Nat.lt_of_lt_of_le hi h.size) h1)).trans (h.block i hi)⟩
theorem Out2.row {b t n : Nat} {f : Nat → Value} (h : w.rowIs b t n f) (k : Out2 l1 u1 l2 u2 w w') (h1 : b < l1 ∨ u1 ≤ b) (h2 : b < l2 ∨ u2 ≤ b) : w'.rowIs b t n f := h.of_block (k.block b h.lt h1 h2)
theorem Out2.rowN {lo hi t m : Nat} {a : Option Addr} {f : Nat → Value} (h : RowN w lo hi t a m f) (k : Out2 l1 u1 l2 u2 w w') (h1 : hi ≤ l1 ∨ u1 ≤ lo) (h2 : hi ≤ l2 ∨ u2 ≤ lo) : RowN w' lo hi t a m f := by
  rcases h with h | ⟨g, e1, e2, e3, N, F, e4, e5, e6⟩
  · exact .inl h
  · exact .inr ⟨g, e1, e2, e3, N, F, e4, e5.of_block (k.block g e5.lt (by omega) (by omega)), e6⟩
theorem Out2.ints {B n : Nat} {k : IntKind} {a : Option Addr} {xs : List Int} (h : Ints w B k a n xs) (ko : Out2 l1 u1 l2 u2 w w') (h1 : B ≤ l1) (h2 : B ≤ l2) (hz : B ≤ w.heap.size) : Ints w' B k a n xs :=
  h.keep fun p hp => World.cell?_of_block (w := w) (ko.block p.block (by omega) (.inl (by omega)) (.inl (by omega)))
theorem Out2.below {w0 : World} (h : Below w0.heap.size w0 w) (k : Out2 l1 u1 l2 u2 w w') (h1 : w0.heap.size ≤ l1) (h2 : w0.heap.size ≤ l2) : Below w0.heap.size w0 w' :=
  ⟨k.os.trans h.os, k.tape.trans h.tape, k.output.trans h.output, Nat.le_trans h.size k.size, fun i hi => (k.block i (Nat.lt_of_lt_of_le hi h.size) (by omega) (by omega)).trans (h.block i hi)⟩
end

end Go.Proofs.Ytjfmpnkbocilpaa
