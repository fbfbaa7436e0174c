/-
  Plain facts: the other player's chance, and fewer points that are needed are never worse.
-/
import Derived.Test.YtkioliioakmepaaMchR
namespace Go.Proofs.Ytkioliioakmepaa
open Go.ChangeShapes Go.WideShapes Go.ChangeAt Go.RowKit
set_option linter.unusedVariables false

theorem gcd_co (c : Int) : Int.gcd SC (SC - c) = Int.gcd SC c := by
  apply Nat.dvd_antisymm
  · have h1 : ((Int.gcd SC (SC - c) : Nat) : Int) ∣ SC := Int.gcd_dvd_left ..
    have h2 : ((Int.gcd SC (SC - c) : Nat) : Int) ∣ SC - c := Int.gcd_dvd_right ..
    have h3 : ((Int.gcd SC (SC - c) : Nat) : Int) ∣ c := by
      have := Int.dvd_sub h1 h2
      rwa [Int.sub_sub_self] at this
    exact Int.natCast_dvd_natCast.1 (Int.dvd_coe_gcd h1 h3)
  · have h1 : ((Int.gcd SC c : Nat) : Int) ∣ SC := Int.gcd_dvd_left ..
    have h2 : ((Int.gcd SC c : Nat) : Int) ∣ c := Int.gcd_dvd_right ..
    exact Int.natCast_dvd_natCast.1 (Int.dvd_coe_gcd h1 (Int.dvd_sub h1 h2))
theorem s_co {c : Int} (h0 : 0 ≤ c) (h1 : c ≤ SC) : sD (SC - c) = sD c ∧ sN c + sN (SC - c) = sD c := by
  have s0 : 0 < SC := by decide
  obtain ⟨g0, e1, e2, _⟩ := lo_facts h0 s0
  obtain ⟨_, f1, f2, _⟩ := lo_facts (n := SC - c) (by omega) s0
  rw [gcd_co] at f1 f2
  have hD : sD (SC - c) = sD c := Int.eq_of_mul_eq_mul_right (by omega) (f2.trans e2.symm)
  refine ⟨hD, Int.eq_of_mul_eq_mul_right (a := (Int.gcd SC c : Int)) (by omega) ?_⟩
  rw [Int.add_mul]
  show loN c SC * _ + loN (SC - c) SC * _ = loD c SC * _
  rw [e1, f1, e2]; omega
theorem stB_swap (a b ph : Int) : stB b a ph = stB a b ph := by
  unfold stB
  rw [Int.add_comm b a]
  cases wB a 0 9 <;> cases wB b 0 9 <;> rfl
/-- the other player's value and code -/
theorem mc_swap {M : Mm} {w : World} {B : Nat} (hA : M.at w B) (a b ph : Int) : (mcV M b a ph).2.2 = (mcV M a b ph).2.2 ∧ ((mcV M a b ph).2.2 = 0 → (mcV M b a ph).2.1 = (mcV M a b ph).2.1 ∧ (mcV M a b ph).1 + (mcV M b a ph).1 = (mcV M a b ph).2.1) ∧ (¬ (mcV M a b ph).2.2 = 0 → (mcV M a b ph).1 = 0 ∧ (mcV M a b ph).2.1 = 0 ∧ (mcV M b a ph).1 = 0 ∧ (mcV M b a ph).2.1 = 0) := by
  by_cases hg : M.good = true
  · have hM := Mm.good_ok hg hA
    by_cases hs : stB a b ph = true
    · rw [mcV_yes hg hs, mcV_yes hg ((stB_swap a b ph).trans hs)]
      obtain ⟨⟨a0, a9⟩, ⟨b0, b9⟩, ab, p0, p2⟩ := stB_out hs
      have hc : M.ch b.toNat a.toNat ph = co (M.ch a.toNat b.toNat ph) := chV_co hM.1 hM.2.1 hM.2.2.1 (a.toNat + b.toNat) a.toNat b.toNat ph (Nat.le_refl _) (by omega)
      rw [hc]
      cases hv : M.ch a.toNat b.toNat ph with
      | none => exact ⟨rfl, fun h => absurd h (by decide), fun _ => ⟨rfl, rfl, rfl, rfl⟩⟩
      | some c =>
        obtain ⟨c0, c1⟩ := Mm.ch_bd hM hv
        obtain ⟨k1, k2⟩ := s_co c0 c1
        exact ⟨rfl, fun _ => ⟨k1, k2⟩, fun h => absurd rfl h⟩
    · have hs' : stB a b ph = false := by cases h : stB a b ph; rfl; exact absurd h hs
      rw [mcV_st hg hs', mcV_st hg ((stB_swap a b ph).trans hs')]
      exact ⟨rfl, fun h => absurd h (by decide), fun _ => ⟨rfl, rfl, rfl, rfl⟩⟩
  · have hg' : M.good = false := by cases h : M.good; rfl; exact absurd h hg
    rw [mcV_no hg', mcV_no hg']
    exact ⟨rfl, fun h => absurd h (by decide), fun _ => ⟨rfl, rfl, rfl, rfl⟩⟩
theorem mc_ok {M : Mm} {a b ph : Int} (h : (mcV M a b ph).2.2 = 0) : M.good = true ∧ stB a b ph = true ∧ ∃ c, M.ch a.toNat b.toNat ph = some c ∧ (mcV M a b ph).1 = sN c ∧ (mcV M a b ph).2.1 = sD c := by
  by_cases hg : M.good = true
  · by_cases hs : stB a b ph = true
    · rw [mcV_yes hg hs] at h ⊢
      cases hv : M.ch a.toNat b.toNat ph with
      | none => rw [hv] at h; exact absurd h (by decide)
      | some c => exact ⟨hg, hs, c, rfl, rfl, rfl⟩
    · have hs' : stB a b ph = false := by cases h : stB a b ph; rfl; exact absurd h hs
      rw [mcV_st hg hs'] at h; exact absurd h (by decide)
  · have hg' : M.good = false := by cases h : M.good; rfl; exact absurd h hg
    rw [mcV_no hg'] at h; exact absurd h (by decide)
/-- after the Crawford game a player who needs one point less is never worse off -/
theorem ch_mono {M : Mm} (hM : M.ok) : ∀ (n a b : Nat), a + b ≤ n → ∀ c c', M.ch (a + 1) b 2 = some c → M.ch a b 2 = some c' → c ≤ c'
  | n, a, b, hn, c, c', h1, h2 => by
    rcases Nat.eq_zero_or_pos b with rfl | hb
    · have e : M.ch (a + 1) 0 2 = some 0 := chV_b0 (by omega)
      rw [e] at h1; injection h1 with h1
      have := Mm.ch_bd hM h2
      omega
    rcases Nat.eq_zero_or_pos a with rfl | ha
    · have e : M.ch 0 b 2 = some SC := chV_a0
      rw [e] at h2; injection h2 with h2
      have := Mm.ch_bd hM h1
      omega
    match n, hn with
    | 0, hn => exact absurd hn (by omega)
    | n + 1, hn =>
      have IH := ch_mono hM n
      have g1 : gp (a + 1) b 2 = 2 := if_neg (by omega)
      have g2 : gp a b 2 = 2 := if_neg (by omega)
      rw [Mm.ch_acc (by omega) hb, g1] at h1
      rw [Mm.ch_acc ha hb, g2] at h2
      obtain ⟨_, w0, w1, w2, w3, okS⟩ := Mm.wt_ok hM 2
      have AC : ∀ j, j ≤ 4 → ∀ T T', M.acc (a + 1) b 2 j = some T → M.acc a b 2 j = some T' → T ≤ T' := by
        intro j
        induction j with
        | zero => intro _ T T' k1 k2; injection k1 with k1; injection k2 with k2; omega
        | succ j ih =>
          intro hj T T' k1 k2
          have hw : 0 ≤ (M.wt 2).getD j 0 := by
            match j, hj with
            | 0, _ => exact w0.1
            | 1, _ => exact w1.1
            | 2, _ => exact w2.1
            | 3, _ => exact w3.1
          rcases stp_some k1 with ⟨z, q1⟩ | ⟨z, x, y, t, hx, hy, ht, rfl⟩
          · rcases stp_some k2 with ⟨_, q2⟩ | ⟨z', _⟩
            · exact ih (by omega) T T' q1 q2
            · exact absurd z z'
          · rcases stp_some k2 with ⟨z', _⟩ | ⟨_, x', y', t', hx', hy', ht', rfl⟩
            · exact absurd z' z
            · have a1 : x ≤ x' := by
                by_cases hle : j + 1 ≤ a
                · have e : a + 1 - (j + 1) = (a - (j + 1)) + 1 := by omega
                  rw [e] at hx
                  exact IH (a - (j + 1)) b (by omega) x x' hx hx'
                · have e : a + 1 - (j + 1) = a - (j + 1) := by omega
                  rw [e] at hx
                  have := hx.symm.trans hx'
                  injection this with this
                  omega
              have a2 : y ≤ y' := IH a (b - (j + 1)) (by omega) y y' hy hy'
              have a3 := ih (by omega) t t' ht ht'
              have : (M.wt 2).getD j 0 * (x + y) ≤ (M.wt 2).getD j 0 * (x' + y') := Int.mul_le_mul_of_nonneg_left (by omega) hw
              omega
      obtain ⟨T, hT⟩ : ∃ T, M.acc (a + 1) b 2 4 = some T := by
        cases h : M.acc (a + 1) b 2 4 with
        | none => rw [h] at h1; cases h1
        | some T => exact ⟨T, rfl⟩
      obtain ⟨T', hT'⟩ : ∃ T', M.acc a b 2 4 = some T' := by
        cases h : M.acc a b 2 4 with
        | none => rw [h] at h2; cases h2
        | some T => exact ⟨T, rfl⟩
      have hTT := AC 4 (by omega) T T' hT hT'
      rw [hT] at h1
      rw [hT'] at h2
      have mp := (okM_pos okS).1
      unfold mean at h1 h2
      simp only at h1 h2
      split at h1
      · split at h2
        · injection h1 with h1
          injection h2 with h2
          rw [← h1, ← h2]
          exact Int.ediv_le_ediv mp hTT
        · cases h2
      · cases h1
/-- shares of chances compare as the chances -/
theorem s_cmp {c d : Int} (c0 : 0 ≤ c) (c1 : c ≤ SC) (d0 : 0 ≤ d) (d1 : d ≤ SC) (h : c ≤ d) : sN c * sD d ≤ sN d * sD c := by
  obtain ⟨_, p0, _, q0, _, m1, e1⟩ := s_facts c0 c1
  obtain ⟨_, p0', _, q0', _, m2, e2⟩ := s_facts d0 d1
  have D1 := D2.share c0 c1
  have DD := D2.share d0 d1
  have s1 := D1.scq
  have s2 := DD.scq
  have k1 : 0 < SC / sD c := D1.qpos D2.sc D1.le
  have k2 : 0 < SC / sD d := DD.qpos D2.sc DD.le
  -- both sides times (SC / sD c) * (SC / sD d)
  refine Int.le_of_mul_le_mul_right (a := SC / sD c * (SC / sD d)) ?_ (Int.mul_pos k1 k2)
  have l : sN c * sD d * (SC / sD c * (SC / sD d)) = (sN c * (SC / sD c)) * (SC / sD d * sD d) := by ac_rfl
  have r : sN d * sD c * (SC / sD c * (SC / sD d)) = (sN d * (SC / sD d)) * (SC / sD c * sD c) := by ac_rfl
  rw [l, r, e1, e2, s1, s2]
  exact Int.mul_le_mul_of_nonneg_right h (by decide)
end Go.Proofs.Ytkioliioakmepaa
