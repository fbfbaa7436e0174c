/-
  The walks of math/bits.Mul64 and of the comparisons of shares (both packages).
-/
import Derived.Test.YtmhmhbiihcdgiaaGcd
import Derived.Lib.Mul64
import Derived.Laws.Bits64b
import Derived.IntWalk
import Derived.Deep.QuietTactic
import Derived.BigQuiet
namespace Go.Proofs.Ytmhmhbiihcdgiaa
open Go.ChangeShapes Go.WideShapes Go.ChangeAt Go.RowKit
set_option linter.unusedVariables false

namespace Mul64
theorem maskN (a : Nat) (ha : a < 18446744073709551616) : bits .and .u64 (a : Int) 4294967295 = ((a % 4294967296 : Nat) : Int) := by
  have h := bits_and_u64_nat a 4294967295 ha (by omega)
  have e : a &&& 4294967295 = a % 4294967296 := Nat.and_two_pow_sub_one_eq_mod a 32
  rw [e] at h
  exact h
theorem divN (a : Nat) : (a : Int) / 4294967296 = ((a / 4294967296 : Nat) : Int) := by omega
theorem mulN (a b : Nat) : (a : Int) * (b : Int) = ((a * b : Nat) : Int) := (Int.natCast_mul a b).symm
theorem addN (a b : Nat) : (a : Int) + (b : Int) = ((a + b : Nat) : Int) := (Int.natCast_add a b).symm
theorem wrapN (a : Nat) (ha : a < 18446744073709551616) : IntKind.u64.wrap (a : Int) = (a : Int) := by rw [IntKind.wrap_u64]; omega
theorem wrapM (a : Nat) : IntKind.u64.wrap (a : Int) = ((a % 18446744073709551616 : Nat) : Int) := by rw [IntKind.wrap_u64]; omega
end Mul64

set_option maxHeartbeats 1000000 in
theorem mul64_any (x y : Nat) (hx : x < 18446744073709551616) (hy : y < 18446744073709551616) (w : World) :
    Calls Try.prog 41 #[.int .u64 x, .int .u64 y] w fun e w' => e = .returned (.tuple #[.int .u64 ((x * y / 18446744073709551616 : Nat) : Int), .int .u64 ((x * y % 18446744073709551616 : Nat) : Int)]) ∧ w = w' := by
  obtain ⟨bd, bt, bw, hhi⟩ := Lib.mul64_hi x y hx hy
  have ba := Lib.half_mul_le (a := x / 4294967296) (b := y / 4294967296) (by omega) (by omega)
  have bb := Lib.half_mul_le (a := x / 4294967296) (b := y % 4294967296) (by omega) (by omega)
  have bc := Lib.half_mul_le (a := x % 4294967296) (b := y / 4294967296) (by omega) (by omega)
  have ba' : x / 4294967296 * (y / 4294967296) < 18446744073709551616 := by omega
  have bb' : x / 4294967296 * (y % 4294967296) < 18446744073709551616 := by omega
  have bc' : x % 4294967296 * (y / 4294967296) < 18446744073709551616 := by omega
  have bh1 : x / 4294967296 * (y / 4294967296) + (x / 4294967296 * (y % 4294967296) + x % 4294967296 * (y % 4294967296) / 4294967296) / 4294967296 < 18446744073709551616 := by omega
  have bh : x / 4294967296 * (y / 4294967296) + (x / 4294967296 * (y % 4294967296) + x % 4294967296 * (y % 4294967296) / 4294967296) / 4294967296 + ((x / 4294967296 * (y % 4294967296) + x % 4294967296 * (y % 4294967296) / 4294967296) % 4294967296 + x % 4294967296 * (y / 4294967296)) / 4294967296 < 18446744073709551616 := by omega
  go_enter Try.func41, Try.ntmps41
  go_wp2
  simp only [Mul64.maskN x hx, Mul64.maskN y hy, Mul64.divN, Mul64.mulN, Mul64.addN, Mul64.wrapN _ bd, Mul64.wrapN _ bb', Mul64.wrapN _ bt, Mul64.maskN _ bt, Mul64.wrapN _ bc', Mul64.wrapN _ bw, Mul64.wrapN _ ba', Mul64.wrapN _ bh1, Mul64.wrapN _ bh, Mul64.wrapM (x * y)]
  rw [hhi]
  go_ret2
  exact ⟨rfl, rfl⟩
theorem mul64_int (x y : Int) (hx : 0 ≤ x) (hx2 : x ≤ 1000000000000000) (hy : 0 ≤ y) (hy2 : y ≤ 1000000000000000) (w : World) :
    Calls Try.prog 41 #[.int .u64 x, .int .u64 y] w fun e w' => e = .returned (.tuple #[.int .u64 (x * y / 18446744073709551616), .int .u64 (x * y % 18446744073709551616)]) ∧ w = w' := by
  obtain ⟨a, rfl⟩ := Int.eq_ofNat_of_zero_le hx
  obtain ⟨b, rfl⟩ := Int.eq_ofNat_of_zero_le hy
  refine (mul64_any a b (by omega) (by omega) w).mono fun e w' h => ⟨?_, h.2⟩
  rw [h.1, Int.natCast_ediv, Int.natCast_emod, Int.natCast_mul]
  rfl

/-- the sign of a / b - c / d -/
def cmpS (a b c d : Int) : Int := Int.sign (a * d - c * b)
theorem cmpS_lt {a b c d : Int} (h : a * d < c * b) : cmpS a b c d = -1 := Int.sign_eq_neg_one_of_neg (by omega)
theorem cmpS_gt {a b c d : Int} (h : c * b < a * d) : cmpS a b c d = 1 := Int.sign_eq_one_of_pos (by omega)
theorem cmpS_eq {a b c d : Int} (h : a * d = c * b) : cmpS a b c d = 0 := by rw [cmpS, show a * d - c * b = 0 by omega]; rfl


theorem cmp_quo {a b c d P Q : Int} (b0 : 0 < b) (d0 : 0 < d) (h1 : a < P * b + b) (h2 : Q * d ≤ c) (h : P < Q) : a * d < c * b := by
  have e1 : P * b + b ≤ Q * b := by
    have : (P + 1) * b ≤ Q * b := Int.mul_le_mul_of_nonneg_right (by omega) (by omega)
    rw [Int.add_mul, Int.one_mul] at this
    exact this
  have e2 : a * d < Q * b * d := by
    have h3 : a < Q * b := by omega
    exact Int.mul_lt_mul_of_pos_right h3 d0
  have e3 : Q * d * b ≤ c * b := Int.mul_le_mul_of_nonneg_right h2 (by omega)
  have e4 : Q * b * d = Q * d * b := by rw [Int.mul_assoc, Int.mul_comm b d, ← Int.mul_assoc]
  omega
theorem cmpS_rem {a b c d P : Int} : cmpS a b c d = cmpS (a - P * b) b (c - P * d) d := by
  unfold cmpS
  congr 1
  rw [Int.sub_mul, Int.sub_mul]
  have : P * b * d = P * d * b := by rw [Int.mul_assoc, Int.mul_comm b d, ← Int.mul_assoc]
  omega
theorem cmpS_swap {a b c d : Int} : cmpS b a d c = - cmpS a b c d := by
  unfold cmpS
  rw [← Int.sign_neg]
  congr 1
  rw [Int.mul_comm b c, Int.mul_comm d a]
  omega

end Go.Proofs.Ytmhmhbiihcdgiaa
