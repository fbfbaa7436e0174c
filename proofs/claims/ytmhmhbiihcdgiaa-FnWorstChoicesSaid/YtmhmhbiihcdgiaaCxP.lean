/-
  Exact numbers written as digits, compared digit by digit: the plain side.
-/
import Derived.Test.YtmhmhbiihcdgiaaExP
import Derived.Test.YtmhmhbiihcdgiaaCmp
namespace Go.Proofs.Ytmhmhbiihcdgiaa
open Go.RowKit
set_option linter.unusedVariables false

theorem pw_add (B : Int) (i : Nat) : ∀ j, pw B (i + j) = pw B i * pw B j
  | 0 => by rw [Nat.add_zero, show pw B 0 = 1 from rfl, Int.mul_one]
  | j + 1 => by rw [← Nat.add_assoc, pw_succ, pw_succ, pw_add B i j, Int.mul_assoc]
/-- n over B to the d, in units of B to the -k, rounded down -/
def Fv (B n : Int) (d k : Nat) : Int := if k ≤ d then n / pw B (d - k) else n * pw B (k - d)
/-- digit k -/
def dg (B n : Int) (d : Nat) : Nat → Int
  | 0 => Fv B n d 0
  | k + 1 => Fv B n d (k + 1) - B * Fv B n d k
theorem Fv_bd {B : Int} (hB : 1 ≤ B) (n : Int) (d k : Nat) : Fv B n d k * pw B d ≤ n * pw B k ∧ n * pw B k < (Fv B n d k + 1) * pw B d := by
  unfold Fv
  have hd := pw_pos hB d
  have hk := pw_pos hB k
  by_cases c : k ≤ d
  · rw [if_pos c]
    have hP := pw_pos hB (d - k)
    have e : pw B d = pw B (d - k) * pw B k := by rw [← pw_add, show d - k + k = d by omega]
    obtain ⟨P, hp⟩ : ∃ P, pw B (d - k) = P := ⟨_, rfl⟩
    rw [hp] at e hP ⊢
    have m1 : n / P * P ≤ n := Int.ediv_mul_le n (by omega)
    have m2 : n < (n / P + 1) * P := Int.lt_ediv_add_one_mul_self n (by omega)
    rw [e, ← Int.mul_assoc, ← Int.mul_assoc]
    exact ⟨Int.mul_le_mul_of_nonneg_right m1 (by omega), Int.mul_lt_mul_of_pos_right m2 (by omega)⟩
  · rw [if_neg c]
    have e : pw B k = pw B (k - d) * pw B d := by rw [← pw_add, show k - d + d = k by omega]
    rw [e, ← Int.mul_assoc, Int.add_mul]
    omega
theorem Fv_lt {B n1 n2 : Int} {d1 d2 k : Nat} (hB : 1 ≤ B) (h : Fv B n1 d1 k < Fv B n2 d2 k) : n1 * pw B d2 < n2 * pw B d1 := by
  have h1 := (Fv_bd hB n1 d1 k).2
  have h2 := (Fv_bd hB n2 d2 k).1
  have p1 := pw_pos hB d1
  have p2 := pw_pos hB d2
  have pk := pw_pos hB k
  obtain ⟨P1, e1⟩ : ∃ P, pw B d1 = P := ⟨_, rfl⟩
  obtain ⟨P2, e2⟩ : ∃ P, pw B d2 = P := ⟨_, rfl⟩
  obtain ⟨Pk, ek⟩ : ∃ P, pw B k = P := ⟨_, rfl⟩
  obtain ⟨F1, f1⟩ : ∃ P, Fv B n1 d1 k = P := ⟨_, rfl⟩
  obtain ⟨F2, f2⟩ : ∃ P, Fv B n2 d2 k = P := ⟨_, rfl⟩
  rw [e1, ek, f1] at h1
  rw [e2, ek, f2] at h2
  rw [f1, f2] at h
  rw [e1] at p1
  rw [e2] at p2
  rw [ek] at pk
  rw [e1, e2]
  have a1 : (F1 + 1) * P1 ≤ F2 * P1 := Int.mul_le_mul_of_nonneg_right (by omega) (by omega)
  have a2 : n1 * Pk < F2 * P1 := by omega
  have a3 : n1 * Pk * P2 < F2 * P1 * P2 := Int.mul_lt_mul_of_pos_right a2 (by omega)
  have a4 : F2 * P2 * P1 ≤ n2 * Pk * P1 := Int.mul_le_mul_of_nonneg_right h2 (by omega)
  have a5 : F2 * P1 * P2 = F2 * P2 * P1 := by ac_rfl
  have a6 : n1 * Pk * P2 = n1 * P2 * Pk := by ac_rfl
  have a7 : n2 * Pk * P1 = n2 * P1 * Pk := by ac_rfl
  have a8 : n1 * P2 * Pk < n2 * P1 * Pk := by omega
  exact Int.lt_of_mul_lt_mul_right a8 (by omega)
theorem Fv_big {B n : Int} {d k : Nat} (h : d ≤ k) : Fv B n d k = n * pw B (k - d) := by
  unfold Fv
  by_cases c : k ≤ d
  · obtain rfl : k = d := by omega
    rw [if_pos c, Nat.sub_self, show pw B 0 = 1 from rfl, Int.ediv_one, Int.mul_one]
  · rw [if_neg c]
theorem Fv_eq {B n1 n2 : Int} {d1 d2 k : Nat} (hB : 1 ≤ B) (h1 : d1 ≤ k) (h2 : d2 ≤ k) (h : Fv B n1 d1 k = Fv B n2 d2 k) : n1 * pw B d2 = n2 * pw B d1 := by
  rw [Fv_big h1, Fv_big h2] at h
  have pk := pw_pos hB k
  have e1 : pw B k = pw B (k - d1) * pw B d1 := by rw [← pw_add, show k - d1 + d1 = k by omega]
  have e2 : pw B k = pw B (k - d2) * pw B d2 := by rw [← pw_add, show k - d2 + d2 = k by omega]
  have a1 : n1 * pw B d2 * pw B k = n2 * pw B d1 * pw B k := by
    calc n1 * pw B d2 * pw B k = n1 * pw B (k - d1) * (pw B d1 * pw B d2) := by rw [e1]; ac_rfl
      _ = n2 * pw B (k - d2) * (pw B d1 * pw B d2) := by rw [h]
      _ = n2 * pw B d1 * pw B k := by rw [e2]; ac_rfl
  exact Int.eq_of_mul_eq_mul_right (by omega) a1
theorem dg_pad {B n : Int} {d k : Nat} (h : d < k) : dg B n d k = 0 := by
  obtain ⟨j, rfl⟩ : ∃ j, k = j + 1 := ⟨k - 1, by omega⟩
  rw [dg, Fv_big (show d ≤ j + 1 by omega), Fv_big (show d ≤ j by omega), show j + 1 - d = (j - d) + 1 by omega, pw_succ]
  have : n * (pw B (j - d) * B) = B * (n * pw B (j - d)) := by ac_rfl
  omega
/-- equal digits up to k: equal values up to k -/
theorem Fv_same {B n1 n2 : Int} {d1 d2 : Nat} : ∀ k, (∀ j, j ≤ k → dg B n1 d1 j = dg B n2 d2 j) → Fv B n1 d1 k = Fv B n2 d2 k
  | 0, h => h 0 (Nat.le_refl _)
  | k + 1, h => by
    have ih := Fv_same k (fun j hj => h j (by omega))
    have := h (k + 1) (Nat.le_refl _)
    rw [dg, dg, ih] at this
    omega
theorem dg_lt {B n1 n2 : Int} {d1 d2 k : Nat} (hB : 1 ≤ B) (he : ∀ j, j < k → dg B n1 d1 j = dg B n2 d2 j) (h : dg B n1 d1 k < dg B n2 d2 k) : n1 * pw B d2 < n2 * pw B d1 := by
  refine Fv_lt hB (k := k) ?_
  cases k with
  | zero => exact h
  | succ j =>
    have := Fv_same j (fun i hi => he i (by omega))
    rw [dg, dg, this] at h
    omega
theorem dg_eq {B n1 n2 : Int} {d1 d2 k : Nat} (hB : 1 ≤ B) (h1 : d1 ≤ k) (h2 : d2 ≤ k) (he : ∀ j, j ≤ k → dg B n1 d1 j = dg B n2 d2 j) : n1 * pw B d2 = n2 * pw B d1 :=
  Fv_eq hB h1 h2 (Fv_same k he)
theorem dg_zero (B n : Int) (d : Nat) : dg B n d 0 = n / pw B d := by rw [dg, Fv, if_pos (by omega), Nat.sub_zero]
theorem dg_next {B : Int} (hB : 1 ≤ B) (n : Int) {d k : Nat} (h : k < d) : dg B n d (k + 1) = (n % pw B (d - k)) / pw B (d - (k + 1)) := by
  have hP := pw_pos hB (d - (k + 1))
  have e : pw B (d - k) = pw B (d - (k + 1)) * B := by rw [← pw_succ, show d - (k + 1) + 1 = d - k by omega]
  rw [dg, Fv, if_pos (by omega), Fv, if_pos (by omega)]
  obtain ⟨P, hp⟩ : ∃ P, pw B (d - (k + 1)) = P := ⟨_, rfl⟩
  rw [hp] at e hP ⊢
  rw [e]
  have a1 : n % (P * B) = n - P * (B * (n / (P * B))) := by rw [Int.emod_def, Int.mul_assoc]
  obtain ⟨X, hX⟩ : ∃ X, B * (n / (P * B)) = X := ⟨_, rfl⟩
  have a2 : (n - P * X) / P = n / P - X := by
    rw [show n - P * X = n + P * (-X) by rw [Int.mul_neg]; omega, Int.add_mul_ediv_left _ _ (by omega)]
    omega
  rw [a1, hX, a2]
end Go.Proofs.Ytmhmhbiihcdgiaa
