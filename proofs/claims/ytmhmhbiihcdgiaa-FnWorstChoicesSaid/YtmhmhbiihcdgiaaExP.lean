/-
  Exact numbers: the plain side: scales and which numbers are valid.
-/
import Derived.Test.YtmhmhbiihcdgiaaVr
namespace Go.Proofs.Ytmhmhbiihcdgiaa
open Go.RowKit

def pw (B : Int) : Nat → Int
  | 0 => 1
  | k + 1 => pw B k * B
theorem pw_succ (B : Int) (k : Nat) : pw B (k + 1) = pw B k * B := rfl
theorem pw_pos {B : Int} (h : 1 ≤ B) : ∀ k, 1 ≤ pw B k
  | 0 => Int.le_refl _
  | k + 1 => by
    have ih := pw_pos h k
    rw [pw_succ]
    have := Int.mul_le_mul ih h (by omega) (by omega)
    omega
theorem pw_mono {B : Int} (h : 1 ≤ B) {j : Nat} : ∀ k, j ≤ k → pw B j ≤ pw B k
  | 0, h0 => by obtain rfl : j = 0 := by omega
                exact Int.le_refl _
  | k + 1, h0 => by
    by_cases e : j = k + 1
    · subst e; exact Int.le_refl _
    · have ih := pw_mono h k (show j ≤ k by omega)
      have hp := pw_pos h k
      rw [pw_succ]
      have := Int.mul_le_mul (Int.le_refl (pw B k)) h (by omega) (by omega)
      omega
theorem pw_ge4 {B : Int} (h : 4 ≤ B) : ∀ k, pw 4 k ≤ pw B k
  | 0 => Int.le_refl _
  | k + 1 => by
    rw [pw_succ, pw_succ]
    exact Int.mul_le_mul (pw_ge4 h k) h (by omega) (by have := pw_pos (show 1 ≤ B by omega) k; omega)
theorem pw_big {B : Int} (h : 4 ≤ B) {k : Nat} (hk : 25 ≤ k) : 1000000000000000 < pw B k := by
  have h1 := pw_mono (show 1 ≤ B by omega) k hk
  have h2 := pw_ge4 h 25
  have h3 : pw 4 25 = 1125899906842624 := by decide
  omega
/-- the scale of a depth -/
def scV (s dep : Int) : Int × Bool := if s = 1 then (1, true) else if pw (s * s) dep.toNat ≤ 1000000000000000 then (pw (s * s) dep.toNat, true) else (0, false)
theorem scV_1 (dep : Int) : scV 1 dep = (1, true) := rfl
theorem scV_no {s dep : Int} {k : Nat} (h1 : 2 ≤ s) (hb : 1 ≤ s * s) (hk : k ≤ dep.toNat) (h : 1000000000000000 < pw (s * s) k) : scV s dep = (0, false) := by
  unfold scV
  have := pw_mono hb _ hk
  rw [if_neg (by omega), if_neg (by omega)]
theorem scV_yes {s dep : Int} (h1 : 2 ≤ s) (h : pw (s * s) dep.toNat ≤ 1000000000000000) : scV s dep = (pw (s * s) dep.toNat, true) := by
  unfold scV
  rw [if_neg (by omega), if_pos h]
theorem sq_bd {s : Int} (h1 : 1 ≤ s) (h6 : s ≤ 6) : 1 ≤ s * s ∧ s * s ≤ 36 ∧ (2 ≤ s → 4 ≤ s * s) := by
  obtain ⟨n, rfl⟩ := Int.eq_ofNat_of_zero_le (show 0 ≤ s by omega)
  have : n ≤ 6 := by omega
  match n, this with
  | 0, _ => omega
  | 1, _ => decide
  | 2, _ => decide
  | 3, _ => decide
  | 4, _ => decide
  | 5, _ => decide
  | 6, _ => decide
/-- whether a number over a power of the base is valid -/
def exB (s num dep : Int) : Bool := decide (0 ≤ dep) && (wB num (-1000000000000000000) 1000000000000000000 && (decide (dep = 0) || ((scV s dep).2 && (decide (1 < s * s) && !(num.tmod (s * s) == 0)))))
theorem exB_neg {s num dep : Int} (h : dep < 0) : exB s num dep = false := by
  have : decide (0 ≤ dep) = false := decide_eq_false (by omega)
  rw [exB, this, Bool.false_and]
theorem exB_num {s num dep : Int} (h : wB num (-1000000000000000000) 1000000000000000000 = false) : exB s num dep = false := by
  rw [exB, h, Bool.false_and, Bool.and_false]
theorem exB_0 {s num : Int} (h : wB num (-1000000000000000000) 1000000000000000000 = true) : exB s num 0 = true := by
  rw [exB, h]; rfl
theorem exB_pos {s num dep : Int} (h0 : 0 < dep) (h : wB num (-1000000000000000000) 1000000000000000000 = true) : exB s num dep = ((scV s dep).2 && (decide (1 < s * s) && !(num.tmod (s * s) == 0))) := by
  have h1 : decide (0 ≤ dep) = true := decide_eq_true (by omega)
  have h2 : decide (dep = 0) = false := decide_eq_false (by omega)
  rw [exB, h, h1, h2, Bool.true_and, Bool.true_and, Bool.false_or]
theorem exB_out {s num dep : Int} (h : exB s num dep = true) : 0 ≤ dep ∧ (-1000000000000000000 ≤ num ∧ num ≤ 1000000000000000000) ∧ (dep = 0 ∨ ((scV s dep).2 = true ∧ 1 < s * s)) := by
  unfold exB at h
  simp only [Bool.and_eq_true, Bool.or_eq_true, decide_eq_true_eq] at h
  obtain ⟨h1, h2, h3⟩ := h
  refine ⟨h1, wB_true.1 h2, ?_⟩
  rcases h3 with h3 | ⟨h3, h4, _⟩
  · exact .inl h3
  · exact .inr ⟨h3, h4⟩
/-- a valid number has a scale, and a small depth -/
theorem scV_of {s num dep : Int} (h1 : 1 ≤ s) (h6 : s ≤ 6) (h : exB s num dep = true) : ∃ sc, scV s dep = (sc, true) ∧ 1 ≤ sc ∧ sc ≤ 1000000000000000 ∧ dep ≤ 24 ∧ sc = pw (s * s) dep.toNat := by
  obtain ⟨b1, b2, b3⟩ := sq_bd h1 h6
  obtain ⟨d0, _, h3⟩ := exB_out h
  have hp := pw_pos b1 dep.toNat
  rcases h3 with rfl | ⟨h3, h4⟩
  · refine ⟨1, ?_, by omega, by omega, by omega, rfl⟩
    by_cases e : s = 1
    · subst e; rfl
    · rw [scV_yes (by omega) (by show (1 : Int) ≤ _; omega)]; rfl
  · have hs : 2 ≤ s := by
      by_cases e : s = 1
      · subst e; exact absurd h4 (by decide)
      · omega
    by_cases hpw : pw (s * s) dep.toNat ≤ 1000000000000000
    · have h25 : dep.toNat < 25 := by
        rcases Nat.lt_or_ge dep.toNat 25 with h | h
        · exact h
        · have := pw_big (b3 hs) h; omega
      exact ⟨_, scV_yes hs hpw, hp, hpw, by omega, rfl⟩
    · rw [scV_no hs b1 (Nat.le_refl _) (by omega)] at h3
      cases h3
end Go.Proofs.Ytmhmhbiihcdgiaa
