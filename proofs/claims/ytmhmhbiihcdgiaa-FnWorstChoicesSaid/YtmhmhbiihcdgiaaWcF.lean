/-
  What FnWorstChoices asks of the list, in plain words.
-/
import Derived.Test.YtmhmhbiihcdgiaaWcU
import Derived.Test.YtmhmhbiihcdgiaaW5C
namespace Go.Proofs.Ytmhmhbiihcdgiaa
open Go.ChangeShapes Go.WideShapes Go.ChangeAt Go.RowKit
set_option linter.unusedVariables false

theorem WcPostC.un {p c h s : Int} {n : Nat} {xs : List Int} {w w' : World} {e : Ending} (H : WcPostC p c h s n xs w e w') :
    ∃ (a : Option Addr) (cap : Nat), e = .returned (.tuple #[.slice a (wcM p c h s n xs) cap, .int .i64 (wcC p c h s n xs)]) ∧ wcM p c h s n xs ≤ cap ∧ RowN w' w.heap.size w'.heap.size 2 a (wcM p c h s n xs) (icell .i64 (wcZ p c h s n xs)) ∧ Below w.heap.size w w' := by
  rcases H with ⟨h0, he, hb⟩ | ⟨h0, a, he, hr, hb⟩
  · have e1 : wcM p c h s n xs = 0 := by unfold wcM; rw [if_neg h0]
    exact ⟨none, 0, by rw [e1]; exact he, by omega, .inl e1, hb⟩
  · have e1 : wcM p c h s n xs = n := by unfold wcM; rw [if_pos h0]
    have e2 : wcZ p c h s n xs = wcY (wcL (s * s) xs) n := by unfold wcZ; rw [if_pos h0]
    rw [e1, e2]
    exact ⟨a, n, by rw [h0]; exact he, Nat.le_refl _, hr, hb⟩
theorem wcC_ok {p c h s : Int} {n : Nat} {xs : List Int} (hC : wcC p c h s n xs = 0) : vrB p c h s = true ∧ n ≤ 30 ∧ ExL s n xs := by
  unfold wcC at hC
  cases hv : vrB p c h s
  · rw [hv, if_neg (by decide)] at hC; exact absurd hC (by decide)
  · rw [hv, if_pos rfl] at hC
    by_cases h30 : 30 < n
    · rw [if_pos h30] at hC; exact absurd hC (by decide)
    · rw [if_neg h30] at hC
      cases hx : exA s xs n
      · rw [hx, if_neg (by decide)] at hC; exact absurd hC (by decide)
      · exact ⟨rfl, by omega, exA_all n hx⟩
theorem wcM_ok {p c h s : Int} {n : Nat} {xs : List Int} (hC : wcC p c h s n xs = 0) : wcM p c h s n xs = n := by unfold wcM; rw [if_pos hC]
theorem wcM_no {p c h s : Int} {n : Nat} {xs : List Int} (hC : wcC p c h s n xs ≠ 0) : wcM p c h s n xs = 0 := by unfold wcM; rw [if_neg hC]
theorem wc_rng {p c h s : Int} {n i : Nat} {xs : List Int} (hC : wcC p c h s n xs = 0) (hi : i < n) : 0 ≤ (wcZ p c h s n xs).getD i 0 ∧ (wcZ p c h s n xs).getD i 0 < n := by
  unfold wcZ; rw [if_pos hC]; exact wcY_rng (wcL_tot _ _) hi
theorem wc_new {p c h s : Int} {n i : Nat} {xs : List Int} (hC : wcC p c h s n xs = 0) (hi : i < n) : (wcZ p c h s n xs).getD i 0 ∉ (wcZ p c h s n xs).take i := by
  intro hm
  have hl := wcY_len (wcL_tot (s * s) xs) n
  unfold wcZ at hm; rw [if_pos hC] at hm
  obtain ⟨j, hj, e⟩ := List.mem_take_iff_getElem.1 hm
  have hji : j < i := by omega
  have := wcY_pw (wcL_tot (s * s) xs) hji hi
  rw [List.getD_eq_getElem?_getD, List.getElem?_eq_getElem (by omega), Option.getD_some, e] at this
  rw [(wcL_tot (s * s) xs).irr] at this
  exact absurd this (by decide)
theorem wc_step {p c h s : Int} {n i : Nat} {xs : List Int} (hC : wcC p c h s n xs = 0) (hi : i < n) (h0 : 0 < i) :
    ∃ (A B : Nat) (z : Int), (wcZ p c h s n xs).getD (i - 1) 0 = A ∧ (wcZ p c h s n xs).getD i 0 = B ∧ A < n ∧ B < n ∧ (z = 0 ∨ z = 1) ∧ (z = 0 → (A : Int) < B) ∧ ∀ W,
      Calls Try.prog 18 #[vrV p c h s, exV (xs.getD (A * 2) 0) (xs.getD (A * 2 + 1) 0), exV (xs.getD (B * 2) 0) (xs.getD (B * 2 + 1) 0)] W fun e w' => e = .returned (.int .i64 z) ∧ Below W.heap.size W w' := by
  obtain ⟨hv, _, hE⟩ := wcC_ok hC
  obtain ⟨_, _, _, s1, s6⟩ := vrB_true.1 hv
  have ra := wc_rng hC (i := i - 1) (by omega)
  have rb := wc_rng hC hi
  obtain ⟨A, hA⟩ := Int.eq_ofNat_of_zero_le ra.1
  obtain ⟨B, hB⟩ := Int.eq_ofNat_of_zero_le rb.1
  have hAn : A < n := by omega
  have hBn : B < n := by omega
  have hL : wcL (s * s) xs A B = true := by
    have := wcY_pw (wcL_tot (s * s) xs) (show i - 1 < i by omega) hi
    have e : wcZ p c h s n xs = wcY (wcL (s * s) xs) n := by unfold wcZ; rw [if_pos hC]
    rw [← e, hA, hB] at this
    exact this
  obtain ⟨q1, q2, K1, K2, e1, e2, k1⟩ := hE.cmp s1 s6 hAn hBn
  obtain ⟨q2', q1', K2', K1', e2', e1', k2⟩ := hE.cmp s1 s6 hBn hAn
  obtain rfl : q1' = q1 := by rw [e1, e1']
  obtain rfl : q2' = q2 := by rw [e2, e2']
  rw [cmpS_neg] at k2
  obtain ⟨D1, d1⟩ := Int.eq_ofNat_of_zero_le K1.d0
  obtain ⟨D2, d2⟩ := Int.eq_ofNat_of_zero_le K2.d0
  have x1 := hE A hAn
  have x2 := hE B hBn
  rw [d1, Int.toNat_natCast] at e1
  rw [d2, Int.toNat_natCast] at e2
  refine ⟨A, B, cmpS (xs.getD (A * 2) 0) q1' (xs.getD (B * 2) 0) q2', hA, hB, hAn, hBn, ?_, fun hz => ?_, fun W => ?_⟩
  · have hn : ¬ cmpS (xs.getD (A * 2) 0) q1' (xs.getD (B * 2) 0) q2' < 0 := fun hc => absurd (k1.1 hc) (by
      rcases wcL_true.1 hL with hk | ⟨hk, _⟩ <;> omega)
    rcases Int.lt_trichotomy (xs.getD (A * 2) 0 * q2') (xs.getD (B * 2) 0 * q1') with h | h | h
    · rw [cmpS_lt h] at hn; exact absurd (by decide) hn
    · exact .inl (cmpS_eq h)
    · exact .inr (cmpS_gt h)
  · rcases wcL_true.1 hL with hk | ⟨_, hk⟩
    · have := cmpS_gt (k2.2 hk)
      rw [hz] at this
      exact absurd this (by decide)
    · exact hk
  · rw [d1] at K1 x1 ⊢
    rw [d2] at K2 x2 ⊢
    exact w5Compare_ok p c h s _ _ q1' q2' D1 D2 W hv x1 x2 K1 K2 e1 e2
end Go.Proofs.Ytmhmhbiihcdgiaa
