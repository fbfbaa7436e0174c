/-
  The walks of MixPoints (both packages).
-/
import Derived.Test.YtkioliioakmepaaFits
import Derived.Test.YtkioliioakmepaaMtp
import Derived.IntWalk
import Derived.Deep.QuietTactic
import Derived.BigQuiet
namespace Go.Proofs.Ytkioliioakmepaa
open Go.ChangeShapes Go.WideShapes Go.ChangeAt Go.RowKit
set_option linter.unusedVariables false

def mixN (a b c d t : Int) : Int := a * d * (1000 - t) + c * b * t
def mixD (b d : Int) : Int := 1000 * b * d
/-- what both packages' MixPoints return: numerator, denominator, code -/
def mixV (a b c d t : Int) : Int × Int × Int :=
  if (shB a b && shB c d) = false then (0, 0, 1) else if wB t 0 1000 = false then (0, 0, 2) else if fitsB [a, b, c, d] 2 = false then (0, 0, 3) else
  if loB (mixN a b c d t) (mixD b d) = false then (0, 0, 3) else (loN (mixN a b c d t) (mixD b d), loD (mixN a b c d t) (mixD b d), 0)
theorem four_ints (w : World) (a b c d : Int) (t : TypeId) : Ints (w.alloc (.cells #[.int .i64 a, .int .i64 b, .int .i64 c, .int .i64 d] t)) (w.heap.size + 1) .i64 (some ⟨w.heap.size, 0, none⟩) (2 * 2) [a, b, c, d] :=
  ⟨rfl, fun _ => ⟨w.heap.size, 0, rfl, by omega, fun i hi => by
    rw [Nat.zero_add, new_cell]
    match i, hi with
    | 0, _ => rfl
    | 1, _ => rfl
    | 2, _ => rfl
    | 3, _ => rfl⟩⟩
theorem mul_bd {x y : Int} {M N : Int} (x0 : 0 ≤ x) (x1 : x ≤ M) (y0 : 0 ≤ y) (y1 : y ≤ N) : 0 ≤ x * y ∧ x * y ≤ M * N := ⟨Int.mul_nonneg x0 y0, Int.mul_le_mul x1 y1 y0 (by omega)⟩
theorem mix_facts {a b c d t : Int} (hs : (shB a b && shB c d) = true) (ht : wB t 0 1000 = true) (hf : fitsB [a, b, c, d] 2 = true) :
    (0 ≤ a * d ∧ a * d ≤ 1000000000000) ∧ (0 ≤ c * b ∧ c * b ≤ 1000000000000) ∧ (0 ≤ a * d * (1000 - t) ∧ a * d * (1000 - t) ≤ 1000000000000000) ∧ (0 ≤ c * b * t ∧ c * b * t ≤ 1000000000000000) ∧ (0 ≤ mixN a b c d t ∧ mixN a b c d t ≤ mixD b d) ∧ (0 < mixD b d ∧ mixD b d ≤ 1000000000000000) := by
  simp only [Bool.and_eq_true] at hs
  obtain ⟨b1, b2, a1, a2, _⟩ := shB_out hs.1
  obtain ⟨d1, d2, c1, c2, _⟩ := shB_out hs.2
  obtain ⟨t1, t2⟩ := wB_true.1 ht
  simp only [fitsB, Bool.and_eq_true, Bool.true_and] at hf
  have hb : b ≤ 1000000 := of_decide_eq_true hf.1
  have hd : d ≤ 1000000 := of_decide_eq_true hf.2
  have m1 := mul_bd a1 (show a ≤ 1000000 by omega) (show 0 ≤ d by omega) hd
  have m2 := mul_bd c1 (show c ≤ 1000000 by omega) (show 0 ≤ b by omega) hb
  have m3 := mul_bd m1.1 m1.2 (show 0 ≤ 1000 - t by omega) (show 1000 - t ≤ 1000 by omega)
  have m4 := mul_bd m2.1 m2.2 t1 t2
  have bd : 1 * 1 ≤ b * d := Int.mul_le_mul b1 d1 (by omega) (by omega)
  have bd2 : b * d ≤ 1000000 * 1000000 := Int.mul_le_mul hb hd (by omega) (by omega)
  have eD : mixD b d = 1000 * (b * d) := by rw [mixD, Int.mul_assoc]
  have q1 : a * d ≤ b * d := Int.mul_le_mul_of_nonneg_right a2 (by omega)
  have q2 : c * b ≤ b * d := by rw [Int.mul_comm b d]; exact Int.mul_le_mul_of_nonneg_right c2 (by omega)
  have q3 : a * d * (1000 - t) ≤ b * d * (1000 - t) := Int.mul_le_mul_of_nonneg_right q1 (by omega)
  have q4 : c * b * t ≤ b * d * t := Int.mul_le_mul_of_nonneg_right q2 t1
  have q5 : b * d * (1000 - t) + b * d * t = 1000 * (b * d) := by rw [← Int.mul_add, Int.mul_comm]; congr 1; omega
  refine ⟨⟨m1.1, by omega⟩, ⟨m2.1, by omega⟩, ⟨m3.1, by omega⟩, ⟨m4.1, by omega⟩, ⟨?_, ?_⟩, ?_, ?_⟩
  · unfold mixN; omega
  · rw [eD]; unfold mixN; omega
  · rw [eD]; omega
  · rw [eD]; omega
theorem gcd_parts {b d : Int} (hb : 0 < b) (hd : 0 < d) : ∃ g u v : Int, (Int.gcd b d : Int) = g ∧ 0 < g ∧ g * u = b ∧ g * v = d ∧ 0 < u ∧ u ≤ b ∧ 0 < v ∧ v ≤ d := by
  have h0 : 0 < Int.gcd b d := Int.gcd_pos_of_ne_zero_left d (by omega)
  obtain ⟨u, hu⟩ : ((Int.gcd b d : Nat) : Int) ∣ b := Int.gcd_dvd_left ..
  obtain ⟨v, hv⟩ : ((Int.gcd b d : Nat) : Int) ∣ d := Int.gcd_dvd_right ..
  have g0 : 0 < ((Int.gcd b d : Nat) : Int) := by omega
  have u0 : 0 < u := by
    rcases Int.lt_or_le 0 u with h | h
    · exact h
    · have : (Int.gcd b d : Int) * u ≤ 0 := Int.mul_nonpos_of_nonneg_of_nonpos (by omega) h
      omega
  have v0 : 0 < v := by
    rcases Int.lt_or_le 0 v with h | h
    · exact h
    · have : (Int.gcd b d : Int) * v ≤ 0 := Int.mul_nonpos_of_nonneg_of_nonpos (by omega) h
      omega
  have u1 : 1 * u ≤ (Int.gcd b d : Int) * u := Int.mul_le_mul_of_nonneg_right (by omega) (by omega)
  have v1 : 1 * v ≤ (Int.gcd b d : Int) * v := Int.mul_le_mul_of_nonneg_right (by omega) (by omega)
  exact ⟨_, u, v, rfl, g0, hu.symm, hv.symm, u0, by omega, v0, by omega⟩
theorem mix_small {a b c d t g u v : Int} (g0 : 0 < g) (ub : g * u = b) (vd : g * v = d) (m9 : 0 ≤ mixN a b c d t) (m10 : mixN a b c d t ≤ mixD b d) (m11 : 0 < mixD b d) (m12 : mixD b d ≤ 1000000000000000) (m1 : 0 ≤ a * d) (m2 : a * d ≤ 1000000000000) (m3 : 0 ≤ c * b) (m4 : c * b ≤ 1000000000000) (t1 : 0 ≤ t) (t2 : t ≤ 1000) (ha : 0 ≤ a) (hc : 0 ≤ c) (hu : 0 < u) (hv : 0 < v) :
    (0 ≤ a * v ∧ a * v ≤ 1000000000000 ∧ 0 ≤ c * u ∧ c * u ≤ 1000000000000) ∧ (0 ≤ a * v * (1000 - t) ∧ a * v * (1000 - t) ≤ 1000000000000000) ∧ (0 ≤ c * u * t ∧ c * u * t ≤ 1000000000000000) ∧ (0 < u * d * 1000 ∧ u * d * 1000 ≤ 1000000000000000) ∧
    (loN (mixN a b c d t) (mixD b d) = loN (a * v * (1000 - t) + c * u * t) (u * d * 1000) ∧ loD (mixN a b c d t) (mixD b d) = loD (a * v * (1000 - t) + c * u * t) (u * d * 1000) ∧ loB (mixN a b c d t) (mixD b d) = loB (a * v * (1000 - t) + c * u * t) (u * d * 1000)) := by
  have le1 : ∀ x : Int, 0 ≤ x → x ≤ g * x := fun x hx => by
    have : 1 * x ≤ g * x := Int.mul_le_mul_of_nonneg_right (by omega) hx
    omega
  have p1 : 0 ≤ a * v := Int.mul_nonneg ha (by omega)
  have p2 : 0 ≤ c * u := Int.mul_nonneg hc (by omega)
  have e1 : g * (a * v) = a * d := by rw [← vd]; ac_rfl
  have e2 : g * (c * u) = c * b := by rw [← ub]; ac_rfl
  have q1 := le1 _ p1
  have q2 := le1 _ p2
  have d0 : 0 < d := by rw [← vd]; exact Int.mul_pos g0 hv
  have p3 : 0 < u * d := Int.mul_pos hu d0
  have e3 : g * (u * d * 1000) = mixD b d := by rw [mixD, ← ub]; ac_rfl
  have eN : g * (a * v * (1000 - t) + c * u * t) = mixN a b c d t := by rw [mixN, ← e1, ← e2, Int.mul_add, Int.mul_assoc g, Int.mul_assoc g (c * u)]
  have q3 := le1 (u * d * 1000) (by omega)
  have n1 := mul_bd p1 (show a * v ≤ 1000000000000 by omega) (show 0 ≤ 1000 - t by omega) (show 1000 - t ≤ 1000 by omega)
  have n2 := mul_bd p2 (show c * u ≤ 1000000000000 by omega) t1 t2
  refine ⟨⟨p1, by omega, p2, by omega⟩, ⟨n1.1, by omega⟩, ⟨n2.1, by omega⟩, ⟨by omega, by omega⟩, ?_⟩
  rw [← eN, ← e3]
  exact ⟨(lo_scale g0).1, (lo_scale g0).2, lo_scaleB g0⟩
theorem mixV_1 {a b c d t : Int} (hs : (shB a b && shB c d) = false) : mixV a b c d t = (0, 0, 1) := by rw [mixV, if_pos hs]
theorem mixV_2 {a b c d t : Int} (hs : (shB a b && shB c d) = true) (ht : wB t 0 1000 = false) : mixV a b c d t = (0, 0, 2) := by rw [mixV, if_neg (by rw [hs]; simp), if_pos ht]
theorem mixV_3 {a b c d t : Int} (hs : (shB a b && shB c d) = true) (ht : wB t 0 1000 = true) (hf : fitsB [a, b, c, d] 2 = false) : mixV a b c d t = (0, 0, 3) := by rw [mixV, if_neg (by rw [hs]; simp), if_neg (by rw [ht]; simp), if_pos hf]
theorem mixV_4 {a b c d t : Int} (hs : (shB a b && shB c d) = true) (ht : wB t 0 1000 = true) (hf : fitsB [a, b, c, d] 2 = true) (hl : loB (mixN a b c d t) (mixD b d) = false) : mixV a b c d t = (0, 0, 3) := by
  rw [mixV, if_neg (by rw [hs]; simp), if_neg (by rw [ht]; simp), if_neg (by rw [hf]; simp), if_pos hl]
theorem mixV_5 {a b c d t : Int} (hs : (shB a b && shB c d) = true) (ht : wB t 0 1000 = true) (hf : fitsB [a, b, c, d] 2 = true) (hl : loB (mixN a b c d t) (mixD b d) = true) : mixV a b c d t = (loN (mixN a b c d t) (mixD b d), loD (mixN a b c d t) (mixD b d), 0) := by
  rw [mixV, if_neg (by rw [hs]; simp), if_neg (by rw [ht]; simp), if_neg (by rw [hf]; simp), if_neg (by rw [hl]; simp)]
theorem ret_sh3 {v : Int × Int × Int} {n d c : Int} (h : v = (n, d, c)) : Ending.returned (.tuple #[shV n d, .int .i64 c]) = .returned (.tuple #[shV v.1 v.2.1, .int .i64 v.2.2]) := by rw [h]


end Go.Proofs.Ytkioliioakmepaa
