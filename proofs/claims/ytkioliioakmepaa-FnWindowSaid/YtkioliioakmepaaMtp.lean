/-
  The walks of MoneyTakePoint (both packages).
-/
import Derived.Test.YtkioliioakmepaaGcd
namespace Go.Proofs.Ytkioliioakmepaa
open Go.ChangeShapes Go.WideShapes Go.ChangeAt Go.RowKit

/-- the take points for money: numerators and denominators -/
def mtD : Nat → Int
  | 0 => 4
  | k + 1 => 4 * mtD k
def mtN : Nat → Int
  | 0 => 1
  | k + 1 => mtD k - mtN k
theorem mt_table : ∀ k : Fin 22, 0 ≤ mtN k.val ∧ mtN k.val ≤ mtD k.val ∧ 0 < mtD k.val ∧ mtD k.val ≤ 17592186044416 ∧ (Int.gcd (mtD k.val) (mtN k.val) : Int) = 1 := by decide +kernel
theorem mt_facts {k : Nat} (h : k ≤ 21) : 0 ≤ mtN k ∧ mtN k ≤ mtD k ∧ 0 < mtD k ∧ mtD k ≤ 17592186044416 ∧ (Int.gcd (mtD k) (mtN k) : Int) = 1 := mt_table ⟨k, by omega⟩
def mtpN (k : Int) : Int := if wB k 0 20 then mtN k.toNat else 0
def mtpD (k : Int) : Int := if wB k 0 20 then mtD k.toNat else 0
def mtpC (k : Int) : Int := if wB k 0 20 then 0 else 2
theorem ret_share {n d c n' d' c' : Int} (h1 : n' = n) (h2 : d' = d) (h3 : c' = c) : Ending.returned (.tuple #[shV n d, .int .i64 c]) = Ending.returned (.tuple #[shV n' d', .int .i64 c']) := by rw [h1, h2, h3]
theorem mtp_no {k : Int} (h : wB k 0 20 = false) : mtpN k = 0 ∧ mtpD k = 0 ∧ mtpC k = 2 := by simp [mtpN, mtpD, mtpC, h]
theorem mtp_yes {q : Nat} (h : wB (q : Int) 0 20 = true) : mtpN q = mtN q ∧ mtpD q = mtD q ∧ mtpC q = 0 := by simp [mtpN, mtpD, mtpC, h]


end Go.Proofs.Ytkioliioakmepaa
