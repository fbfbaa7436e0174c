/-
  Plain facts: the double points of both players add up to 1.
-/
import Derived.Test.YtkioliioakmepaaMchDP
namespace Go.Proofs.Ytkioliioakmepaa
open Go.ChangeShapes Go.WideShapes Go.ChangeAt Go.RowKit
set_option linter.unusedVariables false

theorem gcd_co2 (D c : Int) : Int.gcd D (D - c) = Int.gcd D c := by
  apply Nat.dvd_antisymm
  · have h1 : ((Int.gcd D (D - c) : Nat) : Int) ∣ D := Int.gcd_dvd_left ..
    have h2 : ((Int.gcd D (D - c) : Nat) : Int) ∣ D - c := Int.gcd_dvd_right ..
    have h3 : ((Int.gcd D (D - c) : Nat) : Int) ∣ c := by
      have := Int.dvd_sub h1 h2
      rwa [Int.sub_sub_self] at this
    exact Int.natCast_dvd_natCast.1 (Int.dvd_coe_gcd h1 h3)
  · have h1 : ((Int.gcd D c : Nat) : Int) ∣ D := Int.gcd_dvd_left ..
    have h2 : ((Int.gcd D c : Nat) : Int) ∣ c := Int.gcd_dvd_right ..
    exact Int.natCast_dvd_natCast.1 (Int.dvd_coe_gcd h1 (Int.dvd_sub h1 h2))
theorem lo_co {c D : Int} (h0 : 0 ≤ c) (h1 : c ≤ D) (s0 : 0 < D) : loD (D - c) D = loD c D ∧ loN c D + loN (D - c) D = loD c D := by
  obtain ⟨g0, e1, e2, _⟩ := lo_facts h0 s0
  obtain ⟨_, f1, f2, _⟩ := lo_facts (n := D - c) (by omega) s0
  rw [gcd_co2] at f1 f2
  have hD : loD (D - c) D = loD c D := Int.eq_of_mul_eq_mul_right (by omega) (f2.trans e2.symm)
  refine ⟨hD, Int.eq_of_mul_eq_mul_right (a := (Int.gcd D c : Int)) (by omega) ?_⟩
  rw [Int.add_mul, e1, f1, e2]; omega
theorem gp_sw (a b : Nat) (ph : Int) : gp b a ph = gp a b ph := by
  unfold gp
  split <;> split <;> first | rfl | omega
/-- the other player's chance after the same game -/
theorem af_sw {M : Mm} (hM : M.ok) {a b : Nat} (ha : 0 < a) (hb : 0 < b) (ph p : Int) (hp : p ≠ 0) : M.af b a ph (-p) = co (M.af a b ph p) := by
  unfold Mm.af
  rw [gp_sw]
  by_cases h : 0 < p
  · rw [if_pos h, if_neg (by omega), Int.neg_neg]
    exact chV_co hM.1 hM.2.1 hM.2.2.1 ((a - p.toNat) + b) (a - p.toNat) b _ (Nat.le_refl _) (by omega)
  · rw [if_neg h, if_pos (by omega)]
    exact chV_co hM.1 hM.2.1 hM.2.2.1 (a + (b - (-p).toNat)) a (b - (-p).toNat) _ (Nat.le_refl _) (by omega)
theorem Mm.afK_st {M : Mm} {a b : Nat} {ph : Int} {ps : List Int} (k : Nat) {l : List Int} (hl : M.afK a b ph ps (k + 1) = some l) : ∃ l' c, M.afK a b ph ps k = some l' ∧ M.af a b ph (ps.getD k 0) = some c ∧ l = l' ++ [sN c, sD c] := by
  have hl : (match M.afK a b ph ps k, M.af a b ph (ps.getD k 0) with | some l, some c => some (l ++ [sN c, sD c]) | _, _ => none) = some l := hl
  cases e1 : M.afK a b ph ps k with
  | none => rw [e1] at hl; cases hl
  | some l' =>
    cases e2 : M.af a b ph (ps.getD k 0) with
    | none => rw [e1, e2] at hl; cases hl
    | some c => rw [e1, e2] at hl; injection hl with hl; exact ⟨l', c, rfl, rfl, hl.symm⟩
theorem Mm.af_bd {M : Mm} (hM : M.ok) {a b : Nat} {ph p c : Int} (hc : M.af a b ph p = some c) : 0 ≤ c ∧ c ≤ SC := by
  unfold Mm.af at hc
  split at hc
  · exact Mm.ch_bd hM hc
  · exact Mm.ch_bd hM hc
theorem prV_c (R G : Int) : (prV R G).2.2 = 0 → loB R (R + G) = true ∧ prV R G = (loN R (R + G), loD R (R + G), 0) := by
  unfold prV
  split
  · rename_i h; exact fun _ => ⟨h, rfl⟩
  · exact fun h => absurd h (by decide)
theorem dpQ_c (G R : Int) (ft : Bool) : (dpQ G R ft).2.2 = 0 → ¬ (G < 0 ∨ R < 0 ∨ G + R = 0) ∧ loB R (R + G) = true ∧ dpQ G R ft = (loN R (R + G), loD R (R + G), 0) := by
  unfold dpQ
  split
  · exact fun h => absurd h (by decide)
  · split
    · exact fun h => absurd h (by decide)
    · rename_i h1 h2
      exact fun h => ⟨h1, prV_c R G h⟩
theorem dp_ok {M : Mm} {w : World} {B : Nat} (hA : M.at w B) {a b ph c : Int} (h : (dpV M a b ph c).2.2 = 0) : ∃ (X Y : Nat) (k0 k1 k2 k3 : Int), a = X ∧ b = Y ∧ 0 < X ∧ 0 < Y ∧ 1 ≤ c ∧ M.ok ∧ M.af X Y ph c = some k0 ∧ M.af X Y ph (-c) = some k1 ∧ M.af X Y ph (2 * c) = some k2 ∧ M.af X Y ph (-(2 * c)) = some k3 ∧ 0 ≤ k2 - k0 ∧ 0 ≤ k1 - k3 ∧ 0 < (k1 - k3) + (k2 - k0) ∧ loB (k1 - k3) ((k1 - k3) + (k2 - k0)) = true ∧ dpV M a b ph c = (loN (k1 - k3) ((k1 - k3) + (k2 - k0)), loD (k1 - k3) ((k1 - k3) + (k2 - k0)), 0) := by
  by_cases hc : cdV M a b ph c = 0
  · have e : dpV M a b ph c = dpR (M.afK a.toNat b.toNat ph [c, -c, 2 * c, -(2 * c)] 4) := by unfold dpV; rw [if_pos hc]
    rw [e] at h ⊢
    obtain ⟨kg, ks, kc, ka, kb⟩ := cdV_out hc
    obtain ⟨⟨a0, a9⟩, ⟨b0, b9⟩, ab, p0, p2⟩ := stB_out ks
    obtain ⟨c1, c64⟩ := pwB_pos kc
    obtain ⟨X, rfl⟩ := Int.eq_ofNat_of_zero_le a0
    obtain ⟨Y, rfl⟩ := Int.eq_ofNat_of_zero_le b0
    have hM := Mm.good_ok kg hA
    simp only [Int.toNat_natCast] at h ⊢
    cases hl : M.afK X Y ph [c, -c, 2 * c, -(2 * c)] 4 with
    | none => rw [hl] at h; exact absurd h (by decide)
    | some l =>
      rw [hl] at h
      obtain ⟨l3, k3, h3, f3, rfl⟩ := Mm.afK_st 3 hl
      obtain ⟨l2, k2, h2, f2, rfl⟩ := Mm.afK_st 2 h3
      obtain ⟨l1, k1, h1, f1, rfl⟩ := Mm.afK_st 1 h2
      obtain ⟨l0, k0, h0, f0, rfl⟩ := Mm.afK_st 0 h1
      injection h0 with h0
      subst h0
      obtain ⟨k00, k01⟩ := Mm.af_bd hM f0
      obtain ⟨k10, k11⟩ := Mm.af_bd hM f1
      obtain ⟨k20, k21⟩ := Mm.af_bd hM f2
      obtain ⟨k30, k31⟩ := Mm.af_bd hM f3
      have e2 : dpR (some ([] ++ [sN k0, sD k0] ++ [sN k1, sD k1] ++ [sN k2, sD k2] ++ [sN k3, sD k3])) = dpQ (k2 - k0) (k1 - k3) (fitsB [sN k0, sD k0, sN k1, sD k1, sN k2, sD k2, sN k3, sD k3] 4) := by
        show dpQ (sN k2 * (SC / sD k2) - sN k0 * (SC / sD k0)) (sN k1 * (SC / sD k1) - sN k3 * (SC / sD k3)) _ = _
        rw [(s_facts k00 k01).2.2.2.2.2.2, (s_facts k10 k11).2.2.2.2.2.2, (s_facts k20 k21).2.2.2.2.2.2, (s_facts k30 k31).2.2.2.2.2.2]
      rw [e2] at h ⊢
      obtain ⟨q1, q2, q3⟩ := dpQ_c _ _ _ h
      exact ⟨X, Y, k0, k1, k2, k3, rfl, rfl, by omega, by omega, c1, hM, f0, f1, f2, f3, by omega, by omega, by omega, q2, q3⟩
  · have e : dpV M a b ph c = (0, 0, cdV M a b ph c) := by unfold dpV; rw [if_neg hc]
    rw [e] at h; exact absurd h hc
theorem dpQ_z (G R : Int) (ft : Bool) : ¬ (dpQ G R ft).2.2 = 0 → (dpQ G R ft).1 = 0 ∧ (dpQ G R ft).2.1 = 0 := by
  unfold dpQ prV
  split
  · exact fun _ => ⟨rfl, rfl⟩
  · split
    · exact fun _ => ⟨rfl, rfl⟩
    · split
      · exact fun h => absurd rfl h
      · exact fun _ => ⟨rfl, rfl⟩
theorem dp_err {M : Mm} {a b ph c : Int} (h : ¬ (dpV M a b ph c).2.2 = 0) : (dpV M a b ph c).1 = 0 ∧ (dpV M a b ph c).2.1 = 0 := by
  unfold dpV at h ⊢
  split
  · rename_i hc
    rw [if_pos hc] at h
    unfold dpR at h ⊢
    split
    · rename_i hq
      rw [hq] at h
      exact dpQ_z _ _ _ h
    · exact ⟨rfl, rfl⟩
  · exact ⟨rfl, rfl⟩
theorem dp_swap {M : Mm} {w : World} {B : Nat} (hA : M.at w B) {a b ph c : Int} (h1 : (dpV M a b ph c).2.2 = 0) (h2 : (dpV M b a ph c).2.2 = 0) :
    (dpV M b a ph c).2.1 = (dpV M a b ph c).2.1 ∧ (dpV M a b ph c).1 + (dpV M b a ph c).1 = (dpV M a b ph c).2.1 ∧ shB (dpV M a b ph c).1 (dpV M a b ph c).2.1 = true := by
  obtain ⟨X, Y, k0, k1, k2, k3, rfl, rfl, hX, hY, hc, hM, f0, f1, f2, f3, g0, g1, g2, hb, hv⟩ := dp_ok hA h1
  obtain ⟨X', Y', j0, j1, j2, j3, e1, e2, _, _, _, _, f0', f1', f2', f3', g0', g1', g2', hb', hv'⟩ := dp_ok hA h2
  obtain rfl : Y = X' := by omega
  obtain rfl : X = Y' := by omega
  have s0 := af_sw hM hX hY ph c (by omega)
  have s1 := af_sw hM hX hY ph (-c) (by omega)
  have s2 := af_sw hM hX hY ph (2 * c) (by omega)
  have s3 := af_sw hM hX hY ph (-(2 * c)) (by omega)
  rw [Int.neg_neg] at s1 s3
  rw [f0, f1'] at s0
  rw [f1, f0'] at s1
  rw [f2, f3'] at s2
  rw [f3, f2'] at s3
  replace s0 : j1 = SC - k0 := Option.some.inj s0
  replace s1 : j0 = SC - k1 := Option.some.inj s1
  replace s2 : j3 = SC - k2 := Option.some.inj s2
  replace s3 : j2 = SC - k3 := Option.some.inj s3
  have eR : j1 - j3 = k2 - k0 := by omega
  have eG : j2 - j0 = k1 - k3 := by omega
  rw [eR, eG] at hv'
  have k := lo_co (c := k1 - k3) (D := (k1 - k3) + (k2 - k0)) g1 (by omega) g2
  rw [show (k1 - k3) + (k2 - k0) - (k1 - k3) = k2 - k0 by omega] at k
  rw [hv, hv', Int.add_comm (k2 - k0) (k1 - k3)]
  exact ⟨k.1, k.2, by rw [shB_lo g1 g2 (by omega)]; exact hb⟩
end Go.Proofs.Ytkioliioakmepaa
