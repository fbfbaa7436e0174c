/-
  The walks of the comparisons and sums over slices of integers.
-/
import Derived.Test.YtjagidpjdajpnaaDoorMem
namespace Go.Proofs.YtjagidpjdajpnaaDoor
open Go.ChangeShapes Go.WideShapes Go.ChangeAt Go.RowKit



/-- what both packages' IsBalances returns -/
def balB (n : Nat) (xs : List Int) : Bool := decide (n ≤ 8) && (allTo (fun x => wB x (-60000000) 60000000) xs n && psum xs n == 0)
theorem balB_big {n : Nat} {xs : List Int} (h : 8 < n) : balB n xs = false := by
  unfold balB
  have : decide (n ≤ 8) = false := by simp; omega
  rw [this, Bool.false_and]
theorem balB_no {n i : Nat} {xs : List Int} (hi : i < n) (h : wB (xs.getD i 0) (-60000000) 60000000 = false) : balB n xs = false := by
  unfold balB
  rw [allTo_no (p := fun x => wB x (-60000000) 60000000) hi h, Bool.false_and, Bool.and_false]
theorem balB_yes {n : Nat} {xs : List Int} (h : n ≤ 8) (ha : allTo (fun x => wB x (-60000000) 60000000) xs n = true) : balB n xs = (psum xs n == 0) := by
  unfold balB
  rw [ha, Bool.true_and]
  have : decide (n ≤ 8) = true := by simpa using h
  rw [this, Bool.true_and]


end Go.Proofs.YtjagidpjdajpnaaDoor
