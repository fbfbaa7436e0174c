/-
  Plain facts of the sum of a game over growing powers of two.
-/
import Derived.Test.YtkioliioakmepaaMchS
namespace Go.Proofs.Ytkioliioakmepaa
open Go.ChangeShapes Go.WideShapes Go.ChangeAt Go.RowKit
set_option linter.unusedVariables false

/-- a power of two up to 2^49 -/
def D2 (d : Int) : Prop := ∃ k : Nat, k ≤ 49 ∧ d = ((2 ^ k : Nat) : Int)
theorem D2.one : D2 1 := ⟨0, by omega, rfl⟩
theorem D2.pos {d : Int} (h : D2 d) : 0 < d := by
  obtain ⟨k, _, rfl⟩ := h
  have : 0 < 2 ^ k := Nat.pow_pos (show 0 < 2 by omega)
  omega
theorem D2.le {d : Int} (h : D2 d) : d ≤ 562949953421312 := by
  obtain ⟨k, hk, rfl⟩ := h
  have : 2 ^ k ≤ 2 ^ 49 := Nat.pow_le_pow_right (by omega) hk
  have e : (2 : Nat) ^ 49 = 562949953421312 := by decide
  omega
theorem D2.dvd {d e : Int} (h : D2 d) (k : D2 e) (hle : d ≤ e) : e / d * d = e := by
  obtain ⟨i, hi, rfl⟩ := h
  obtain ⟨j, hj, rfl⟩ := k
  have hij : i ≤ j := by
    rcases Nat.lt_or_ge j i with q | q
    · have : 2 ^ j < 2 ^ i := Nat.pow_lt_pow_right (by omega) q
      omega
    · exact q
  exact Int.ediv_mul_cancel (Int.natCast_dvd_natCast.2 (Nat.pow_dvd_pow 2 hij))
theorem D2.sc : D2 SC := ⟨49, Nat.le_refl _, SC_eq⟩
theorem D2.scq {d : Int} (h : D2 d) : SC / d * d = SC := h.dvd D2.sc h.le
theorem D2.qpos {d e : Int} (h : D2 d) (k : D2 e) (hle : d ≤ e) : 0 < e / d := by
  rcases Int.lt_or_le 0 (e / d) with q | q
  · exact q
  · have h1 := h.dvd k hle
    have h2 := h.pos
    have h3 := k.pos
    have : e / d * d ≤ 0 := Int.mul_nonpos_of_nonpos_of_nonneg q (by omega)
    omega
theorem D2.share {c : Int} (h0 : 0 ≤ c) (h1 : c ≤ SC) : D2 (sD c) := by
  have s0 : 0 < SC := by decide
  obtain ⟨g0, e1, e2, n0, d0, _, _, _⟩ := lo_facts h0 s0
  obtain ⟨G, hG⟩ : ∃ G : Nat, Int.gcd SC c = G := ⟨_, rfl⟩
  rw [hG] at e2
  obtain ⟨dn, hdn⟩ := Int.eq_ofNat_of_zero_le (show 0 ≤ loD c SC by omega)
  rw [hdn] at e2
  have e3 : dn * G = 2 ^ 49 := by
    have : ((dn * G : Nat) : Int) = ((2 ^ 49 : Nat) : Int) := by rw [Int.natCast_mul, e2, SC_eq]
    exact Int.ofNat.inj this
  obtain ⟨i, hi, hd⟩ := pow_split 49 dn _ e3
  exact ⟨i, hi, by show loD c SC = _; rw [hdn, hd]⟩
/-- a number that grows by a positive factor is not greater than what it grows to -/
theorem le_grow {x q T : Int} (h0 : 0 ≤ x) (hq : 0 < q) (h : x * q = T) : x ≤ T := by
  have : x * 1 ≤ x * q := Int.mul_le_mul_of_nonneg_left (by omega) h0
  omega
theorem nn_shrink {x q T : Int} (hT : 0 ≤ T) (hq : 0 < q) (h : x * q = T) : 0 ≤ x := by
  rcases Int.lt_or_le x 0 with k | k
  · have := Int.mul_neg_of_neg_of_pos k hq; omega
  · exact k
/-- the denominator stays: the next numerator -/
theorem same_den {d e num U c p x : Int} (hd : D2 d) (he : D2 e) (hle : d ≤ e) (hU : num * (SC / e) = U) (hc : p * (SC / d) = c) (hp : 0 ≤ p) (hx : 0 ≤ x) :
    (num + x * p * (e / d)) * (SC / e) = U + x * c ∧ x * p * (e / d) * (SC / e) = x * c ∧ 0 ≤ x * p * (e / d) ∧ x * p ≤ x * p * (e / d) := by
  have q1 := hd.dvd he hle
  have q2 := he.scq
  have q3 := hd.scq
  have qp := hd.qpos he hle
  have k : e / d * (SC / e) = SC / d := by
    have : (e / d * (SC / e)) * d = SC / d * d := by
      rw [q3, Int.mul_comm (e / d), Int.mul_assoc, q1]; exact q2
    exact Int.eq_of_mul_eq_mul_right (by have := hd.pos; omega) this
  have m : x * p * (e / d) * (SC / e) = x * c := by rw [Int.mul_assoc, k, Int.mul_assoc, hc]
  have xp : 0 ≤ x * p := Int.mul_nonneg hx hp
  refine ⟨by rw [Int.add_mul, hU, m], m, Int.mul_nonneg xp (by omega), ?_⟩
  have : x * p * 1 ≤ x * p * (e / d) := Int.mul_le_mul_of_nonneg_left (by omega) xp
  omega
/-- the denominator grows from e to d -/
theorem grow_den {d e num U : Int} (hd : D2 d) (he : D2 e) (hle : e ≤ d) (hU : num * (SC / e) = U) : num * (d / e) * (SC / d) = U := by
  have q1 := he.dvd hd hle
  have q2 := hd.scq
  have q3 := he.scq
  have k : d / e * (SC / d) = SC / e := by
    have : (d / e * (SC / d)) * e = SC / e * e := by
      rw [q3, Int.mul_comm (d / e), Int.mul_assoc, q1]; exact q2
    exact Int.eq_of_mul_eq_mul_right (by have := he.pos; omega) this
  rw [Int.mul_assoc, k, hU]
theorem Mm.acc4_bd {M : Mm} (hM : M.ok) {a b : Nat} {q T : Int} (h : M.acc a b q 4 = some T) : 0 ≤ T ∧ T ≤ (2 * sum4 (M.wt q)) * SC := by
  obtain ⟨_, ⟨w0, _⟩, ⟨w1, _⟩, ⟨w2, _⟩, ⟨w3, _⟩, hm⟩ := Mm.wt_ok hM q
  have IH := fun (a' b' : Nat) => chV_bd hM.1 hM.2.1 hM.2.2.1 (a' + b') a' b' (nx q) (Nat.le_refl _)
  have s0 := stp_bd (B := 0) (acc := some 0) w0 (IH (a - 1) b) (IH a (b - 1)) (fun t h => by injection h with h; subst h; omega)
  have s1 := stp_bd w1 (IH (a - 2) b) (IH a (b - 2)) s0
  have s2 := stp_bd w2 (IH (a - 3) b) (IH a (b - 3)) s1
  have s3 := stp_bd w3 (IH (a - 4) b) (IH a (b - 4)) s2
  have e : 0 + 2 * (M.wt q).getD 0 0 + 2 * (M.wt q).getD 1 0 + 2 * (M.wt q).getD 2 0 + 2 * (M.wt q).getD 3 0 = 2 * sum4 (M.wt q) := by unfold sum4; omega
  rw [e] at s3
  exact s3 T h
/-- what makeShare makes of the sum of a game -/
theorem mix_end {M : Mm} (hM : M.ok) {a b : Nat} {ph q T num den S : Int} (ha : 0 < a) (hb : 0 < b) (hq : gp a b ph = q) (hS : sum4 (M.wt q) = S) (hacc : M.acc a b q 4 = some T) (hd : D2 den) (hT : num * (SC / den) = T) :
    0 ≤ num ∧ 0 < den * 2 * S ∧ num ≤ den * 2 * S ∧ den * 2 * S ≤ 18014398509481984 ∧ 1 ≤ S ∧ S ≤ 16 ∧
    (loB num (den * 2 * S) = true → ∃ c, M.ch a b ph = some c ∧ loN num (den * 2 * S) = sN c ∧ loD num (den * 2 * S) = sD c) ∧ (loB num (den * 2 * S) = false → M.ch a b ph = none) := by
  obtain ⟨t0, t1⟩ := Mm.acc4_bd hM hacc
  obtain ⟨_, _, _, _, _, okS⟩ := Mm.wt_ok hM q
  rw [hS] at okS t1
  obtain ⟨S1, S2⟩ : 1 ≤ S ∧ S ≤ 16 := by unfold okM at okS; omega
  have dp := hd.pos
  have dl := hd.le
  have qp := hd.qpos D2.sc hd.le
  have n0 := nn_shrink t0 qp hT
  have dS : 0 < den * 2 * S := Int.mul_pos (by omega) (by omega)
  have scale : (SC / den) * (den * 2 * S) = 2 * S * SC := by
    rw [Int.mul_assoc den, ← Int.mul_assoc, hd.scq, Int.mul_comm]
  have hle : num ≤ den * 2 * S := by
    refine Int.le_of_mul_le_mul_left (a := SC / den) ?_ qp
    rw [scale, Int.mul_comm, hT]; exact t1
  have e1 : loN num (den * 2 * S) = loN T (2 * S * SC) := by rw [← hT, ← scale, Int.mul_comm num]; exact (lo_scale qp).1.symm
  have e2 : loD num (den * 2 * S) = loD T (2 * S * SC) := by rw [← hT, ← scale, Int.mul_comm num]; exact (lo_scale qp).2.symm
  have e3 : loB num (den * 2 * S) = loB T (2 * S * SC) := by rw [← hT, ← scale, Int.mul_comm num]; exact (lo_scaleB qp).symm
  have CH : M.ch a b ph = mean (2 * S) (some T) := by rw [Mm.ch_acc ha hb, hq, hS, hacc]
  refine ⟨n0, dS, hle, ?_, S1, S2, ?_, ?_⟩
  · have : den * 2 * S ≤ den * 2 * 16 := Int.mul_le_mul_of_nonneg_left S2 (by omega)
    omega
  · intro hk
    rw [e3, lo_okM okS t0] at hk
    have hk := of_decide_eq_true hk
    refine ⟨T / (2 * S), ?_, ?_, ?_⟩
    · rw [CH]; exact if_pos hk
    · rw [e1]; exact (lo_mix okS hk).1
    · rw [e2]; exact (lo_mix okS hk).2
  · intro hk
    rw [e3, lo_okM okS t0] at hk
    rw [CH]; exact if_neg (of_decide_eq_false hk)
/-- the sum within a step: before, between and behind its two chances -/
def inS (M : Mm) (a b : Nat) (q r x T : Int) (j : Nat) : Nat → Int → Prop
  | 0, U => U = T
  | 1, U => ∃ c, M.ch (a - (j + 1)) b r = some c ∧ U = T + x * c
  | _, U => M.acc a b q (j + 1) = some U
theorem inS.next1 {M : Mm} {a b : Nat} {q r x T U c : Int} {j : Nat} (h : inS M a b q r x T j 0 U) (hc : M.ch (a - (j + 1)) b r = some c) : inS M a b q r x T j 1 (U + x * c) := ⟨c, hc, by rw [show U = T from h]⟩
theorem inS.next2 {M : Mm} {a b : Nat} {q r x T U c : Int} {j : Nat} (hr : nx q = r) (hx : (M.wt q).getD j 0 = x) (hT : M.acc a b q j = some T) (h : inS M a b q r x T j 1 U) (hc : M.ch a (b - (j + 1)) r = some c) : inS M a b q r x T j 2 (U + x * c) := by
  obtain ⟨c1, h1, rfl⟩ := h
  show M.acc a b q (j + 1) = _
  rw [Mm.acc_some hr hx hT h1 hc, Int.mul_add, Int.add_assoc]
end Go.Proofs.Ytkioliioakmepaa
