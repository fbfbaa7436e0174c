/-
  Plain facts of double points: both packages reduce the same fraction.
-/
import Derived.Test.YtkioliioakmepaaMchTP
namespace Go.Proofs.Ytkioliioakmepaa
open Go.ChangeShapes Go.WideShapes Go.ChangeAt Go.RowKit
set_option linter.unusedVariables false

/-- equal fractions reduce alike -/
theorem lo_cross {a b c d : Int} (hb : 0 < b) (hd : 0 < d) (h : a * d = c * b) : loN a b = loN c d ∧ loD a b = loD c d ∧ loB a b = loB c d := by
  have h1 := lo_scale (g := d) (n := a) (d := b) hd
  have h2 := lo_scale (g := b) (n := c) (d := d) hb
  have e1 : d * a = b * c := by rw [Int.mul_comm d a, h, Int.mul_comm]
  have e2 : d * b = b * d := Int.mul_comm d b
  rw [e1, e2] at h1
  have k1 : loN a b = loN c d := h1.1.symm.trans h2.1
  have k2 : loD a b = loD c d := h1.2.symm.trans h2.2
  exact ⟨k1, k2, by rw [loB, loB, k2]⟩
theorem less_aux {p d q f c e S k l : Int} (h1 : k * d = S) (h2 : p * k = c) (h3 : l * f = S) (h4 : q * l = e) : (p * f - q * d) * S = (c - e) * (d * f) := by
  have a1 : p * f * S = c * (d * f) := by rw [← h1, ← h2]; ac_rfl
  have a2 : q * d * S = e * (d * f) := by rw [← h3, ← h4]; ac_rfl
  rw [Int.sub_mul, a1, a2, Int.sub_mul]
/-- the difference of two shares of chances over the product of their denominators is the difference of the chances over SC -/
theorem less_eq {c e : Int} (c0 : 0 ≤ c) (c1 : c ≤ SC) (e0 : 0 ≤ e) (e1 : e ≤ SC) : (sN c * sD e - sN e * sD c) * SC = (c - e) * (sD c * sD e) := by
  obtain ⟨_, _, _, _, _, _, k1⟩ := s_facts c0 c1
  obtain ⟨_, _, _, _, _, _, k2⟩ := s_facts e0 e1
  exact less_aux (D2.share c0 c1).scq k1 (D2.share e0 e1).scq k2
theorem lo_aux {a b g n d : Int} (h1 : a * g = n) (h2 : b * g = d) : a * d = n * b := by rw [← h1, ← h2]; ac_rfl
/-- a reduced fraction times what was cancelled -/
theorem lo_eq {n d : Int} (hn : 0 ≤ n) (hd : 0 < d) : loN n d * d = n * loD n d := by
  obtain ⟨g0, e1, e2, _⟩ := lo_facts hn hd
  exact lo_aux e1 e2
/-- what l19Diff returns for chances c ≥ e: p / n with p * SC = (c - e) * n -/
theorem diff_eq {c e : Int} (c0 : 0 ≤ c) (c1 : c ≤ SC) (e0 : 0 ≤ e) (e1 : e ≤ SC) (h : e ≤ c) :
    0 ≤ sN c * sD e - sN e * sD c ∧ loN (sN c * sD e - sN e * sD c) (sD c * sD e) * SC = (c - e) * loD (sN c * sD e - sN e * sD c) (sD c * sD e) := by
  have hl := less_eq c0 c1 e0 e1
  have hD : 0 < sD c * sD e := Int.mul_pos (D2.share c0 c1).pos (D2.share e0 e1).pos
  have hL : 0 ≤ sN c * sD e - sN e * sD c := by have := s_cmp e0 e1 c0 c1 h; omega
  refine ⟨hL, ?_⟩
  have k := lo_eq hL hD
  refine Int.eq_of_mul_eq_mul_right (a := sD c * sD e) (by omega) ?_
  generalize loN (sN c * sD e - sN e * sD c) (sD c * sD e) = p at k ⊢
  generalize loD (sN c * sD e - sN e * sD c) (sD c * sD e) = n at k ⊢
  generalize sN c * sD e - sN e * sD c = L at hl k ⊢
  generalize sD c * sD e = D at hl k ⊢
  have a1 : p * SC * D = (p * D) * SC := by ac_rfl
  have a2 : (c - e) * n * D = ((c - e) * D) * n := by ac_rfl
  rw [a1, a2, k, ← hl]
  ac_rfl
/-- the cross products of l19Parts: p' = p * (d / g), q' = q * (n / g) stand as R to G -/
theorem parts_eq {p q n d g R G S ng dg : Int} (hS : ¬ S = 0) (h1 : p * S = R * n) (h2 : q * S = G * d) (hn : ng * g = n) (hd : dg * g = d) : (p * dg) * G = R * (q * ng) := by
  refine Int.eq_of_mul_eq_mul_right (a := S) hS ?_
  have a1 : p * dg * G * S = (p * S) * (dg * G) := by ac_rfl
  have a2 : R * (q * ng) * S = (q * S) * (R * ng) := by ac_rfl
  rw [a1, a2, h1, h2, ← hn, ← hd]
  ac_rfl
/-- .. so both packages reduce the same fraction -/
theorem parts_lo {a b R G : Int} (hb : 0 < a + b) (hR : 0 < R + G) (h : a * G = R * b) : loN a (a + b) = loN R (R + G) ∧ loD a (a + b) = loD R (R + G) ∧ loB a (a + b) = loB R (R + G) :=
  lo_cross hb hR (by rw [Int.mul_add, Int.mul_add, h, Int.mul_comm a R])
/-- l19Diff returns the share of the difference -/
theorem diff_s {c e : Int} (c0 : 0 ≤ c) (c1 : c ≤ SC) (e0 : 0 ≤ e) (e1 : e ≤ SC) : loN (sN c * sD e - sN e * sD c) (sD c * sD e) = sN (c - e) ∧ loD (sN c * sD e - sN e * sD c) (sD c * sD e) = sD (c - e) := by
  have hD : 0 < sD c * sD e := Int.mul_pos (D2.share c0 c1).pos (D2.share e0 e1).pos
  have h := lo_cross hD (show 0 < SC by decide) (less_eq c0 c1 e0 e1)
  exact ⟨h.1, h.2.1⟩
/-- the denominator of a chance that is a whole number of den-ths -/
theorem sD_le {m den R : Int} (hd : D2 den) (hm : 0 ≤ m) (h : m * (SC / den) = R) : sD R ≤ den := by
  have s0 : 0 < SC := by decide
  have q := hd.scq
  have hc : m * SC = R * den := by rw [← h, Int.mul_assoc, q]
  have k := lo_cross hd.pos s0 hc
  obtain ⟨_, _, _, _, _, _, le, _⟩ := lo_facts hm hd.pos
  show loD R SC ≤ den
  rw [← k.2.1]; exact le
end Go.Proofs.Ytkioliioakmepaa
