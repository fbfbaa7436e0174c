/-
  Plain facts of match chances: a chance is a number of 2^-49ths.
-/
import Derived.Test.YtkioliioakmepaaFits
namespace Go.Proofs.Ytkioliioakmepaa
open Go.ChangeShapes Go.WideShapes Go.ChangeAt Go.RowKit

theorem pow_split : ∀ (j d g : Nat), d * g = 2 ^ j → ∃ i, i ≤ j ∧ d = 2 ^ i
  | 0, d, g, h => ⟨0, Nat.le_refl _, by rw [Nat.pow_zero] at h ⊢; exact Nat.eq_one_of_mul_eq_one_right h⟩
  | j + 1, d, g, h => by
    have hp : (d * g) % 2 = 0 := by rw [h, Nat.pow_succ]; exact Nat.mul_mod_left _ _
    have hc : d % 2 = 0 ∨ g % 2 = 0 := by
      rw [Nat.mul_mod] at hp
      rcases Nat.mod_two_eq_zero_or_one d with e | e
      · exact .inl e
      · rw [e, Nat.one_mul, Nat.mod_mod] at hp; exact .inr hp
    rcases hc with e | e
    · obtain ⟨d', rfl⟩ : ∃ d', d = 2 * d' := ⟨d / 2, by omega⟩
      have h2 : d' * g = 2 ^ j := by
        rw [Nat.pow_succ, Nat.mul_assoc, Nat.mul_comm (2 ^ j) 2] at h
        exact Nat.eq_of_mul_eq_mul_left (by omega) h
      obtain ⟨i, hi, hd⟩ := pow_split j d' g h2
      exact ⟨i + 1, by omega, by rw [hd, Nat.pow_succ, Nat.mul_comm]⟩
    · obtain ⟨g', rfl⟩ : ∃ g', g = 2 * g' := ⟨g / 2, by omega⟩
      have h2 : d * g' = 2 ^ j := by
        have : 2 * (d * g') = 2 * 2 ^ j := by rw [Nat.pow_succ] at h; rw [← Nat.mul_assoc, Nat.mul_comm 2 d, Nat.mul_assoc, h, Nat.mul_comm]
        exact Nat.eq_of_mul_eq_mul_left (by omega) this
      obtain ⟨i, hi, hd⟩ := pow_split j d g' h2
      exact ⟨i, by omega, hd⟩
theorem pow_bound {i : Nat} (h : 2 ^ i ≤ 1000000000000000) : i ≤ 49 := by
  rcases Nat.lt_or_ge 49 i with q | q
  · have : 2 ^ 50 ≤ 2 ^ i := Nat.pow_le_pow_right (by omega) q
    have : (2 : Nat) ^ 50 = 1125899906842624 := by decide
    omega
  · exact q

/-- two to the 49 -/
def SC : Int := 562949953421312
theorem SC_eq : SC = ((2 ^ 49 : Nat) : Int) := by decide
/-- the sums of weights, twice -/
def okM (M : Int) : Prop := M = 2 ∨ M = 4 ∨ M = 8 ∨ M = 16 ∨ M = 32
theorem okM_pow {M : Int} (h : okM M) : ∃ j, M * SC = ((2 ^ j : Nat) : Int) := by
  rcases h with rfl | rfl | rfl | rfl | rfl
  · exact ⟨50, by decide⟩
  · exact ⟨51, by decide⟩
  · exact ⟨52, by decide⟩
  · exact ⟨53, by decide⟩
  · exact ⟨54, by decide⟩
/-- a reduced fraction over M * 2^49 has a small denominator where M divides the numerator -/
theorem lo_okM {T M : Int} (hM : okM M) (hT : 0 ≤ T) : loB T (M * SC) = decide (T % M = 0) := by
  have m0 : 0 < M := by rcases hM with rfl | rfl | rfl | rfl | rfl <;> decide
  have s0 : 0 < SC := by decide
  have ms : 0 < M * SC := Int.mul_pos m0 s0
  by_cases hd : T % M = 0
  · rw [decide_eq_true hd]
    obtain ⟨v, rfl⟩ : M ∣ T := Int.dvd_of_emod_eq_zero hd
    have v0 : 0 ≤ v := by
      rcases Int.lt_or_le v 0 with q | q
      · have := Int.mul_neg_of_pos_of_neg m0 q; omega
      · exact q
    rw [lo_scaleB m0, loB]
    obtain ⟨_, _, _, _, _, _, h6, _⟩ := lo_facts v0 s0
    have : SC ≤ 1000000000000000 := by decide
    exact decide_eq_true (by omega)
  · rw [decide_eq_false hd]
    obtain ⟨g0, e1, e2, n0, d0, _, _, _⟩ := lo_facts hT ms
    rw [loB]
    refine decide_eq_false fun hle => hd ?_
    obtain ⟨j, hj⟩ := okM_pow hM
    obtain ⟨G, hG⟩ : ∃ G : Nat, Int.gcd (M * SC) T = G := ⟨_, rfl⟩
    rw [hG] at g0 e1 e2
    obtain ⟨dn, hdn⟩ := Int.eq_ofNat_of_zero_le (show 0 ≤ loD T (M * SC) by omega)
    rw [hdn] at e2 hle
    have e3 : dn * G = 2 ^ j := by
      have : ((dn * G : Nat) : Int) = ((2 ^ j : Nat) : Int) := by rw [Int.natCast_mul, e2, hj]
      exact Int.ofNat.inj this
    obtain ⟨i, hi, hdi⟩ := pow_split j dn _ e3
    have hi2 : i ≤ 49 := pow_bound (by rw [← hdi]; omega)
    obtain ⟨c, hc⟩ : (2 ^ i : Nat) ∣ 2 ^ 49 := Nat.pow_dvd_pow 2 hi2
    -- M * 2^49 = 2^i * G, 2^49 = 2^i * c, so G = M * c
    have hg : (G : Int) = M * (c : Int) := by
      have q1 : ((2 ^ i : Nat) : Int) * (G : Int) = ((2 ^ i : Nat) : Int) * (M * (c : Int)) := by
        have q2 : ((2 ^ i : Nat) : Int) * (G : Int) = M * SC := by rw [hj, ← e3, hdi, Int.natCast_mul]
        rw [q2, SC_eq, hc, Int.natCast_mul]
        ac_rfl
      exact Int.eq_of_mul_eq_mul_left (by have : 0 < 2 ^ i := Nat.pow_pos (show 0 < 2 by omega); omega) q1
    rw [← e1, hg]
    have : loN T (M * SC) * (M * (c : Int)) = M * (loN T (M * SC) * (c : Int)) := by ac_rfl
    rw [this]
    exact Int.mul_emod_right ..

/-- the share of v 2^-49ths -/
def sN (v : Int) : Int := loN v SC
def sD (v : Int) : Int := loD v SC
theorem lo_mix {T M : Int} (hM : okM M) (h : T % M = 0) : loN T (M * SC) = sN (T / M) ∧ loD T (M * SC) = sD (T / M) := by
  have m0 : 0 < M := by rcases hM with rfl | rfl | rfl | rfl | rfl <;> decide
  obtain ⟨v, rfl⟩ : M ∣ T := Int.dvd_of_emod_eq_zero h
  rw [Int.mul_ediv_cancel_left _ (by omega)]
  exact lo_scale m0
theorem s_facts {v : Int} (h0 : 0 ≤ v) (h1 : v ≤ SC) : shB (sN v) (sD v) = true ∧ 0 ≤ sN v ∧ sN v ≤ sD v ∧ 0 < sD v ∧ sD v ≤ SC ∧ SC % sD v = 0 ∧ sN v * (SC / sD v) = v := by
  have s0 : 0 < SC := by decide
  have s1 : SC ≤ 1000000000000000 := by decide
  obtain ⟨g0, e1, e2, n0, d0, d1, d2, d3⟩ := lo_facts h0 s0
  have hb : shB (sN v) (sD v) = true := by
    show shB (loN _ _) (loD _ _) = true
    rw [shB_lo h0 s0 h1, loB]; exact decide_eq_true (by omega)
  obtain ⟨_, _, _, hle, _⟩ := shB_out hb
  have hq : SC / sD v = (Int.gcd SC v : Int) := by
    have : sD v * (Int.gcd SC v : Int) = SC := e2
    rw [← this, Int.mul_ediv_cancel_left _ (by have : 0 < sD v := d0; omega)]
    rw [this]
  refine ⟨hb, n0, hle, d0, d2, ?_, by rw [hq]; exact e1⟩
  have : sD v * (Int.gcd SC v : Int) = SC := e2
  rw [← this]; exact Int.mul_emod_right ..

/-- the phase of the next game, and the phase after it -/
def gp (a b : Nat) (ph : Int) : Int := if ph = 0 ∧ ((a = 1 ∧ 1 < b) ∨ (b = 1 ∧ 1 < a)) then 1 else ph
def nx (ph : Int) : Int := if ph = 0 then 0 else 2
theorem gp_gp (a b : Nat) (ph : Int) : gp a b (gp a b ph) = gp a b ph := by
  unfold gp
  split
  · rename_i h
    rw [if_neg (by omega)]
  · rfl
/-- the weights of a phase out of the three lists -/
def wts (P C A : List Int) (ph : Int) : List Int := if ph = 1 then C else if ph = 2 then A else P
def sum4 (l : List Int) : Int := l.getD 0 0 + l.getD 1 0 + l.getD 2 0 + l.getD 3 0
/-- one step of the sum of a game: weight, chance after winning, chance after losing -/
def stp (w : Int) (x y acc : Option Int) : Option Int :=
  if w = 0 then acc else match x, y, acc with
  | some x, some y, some t => some (t + w * (x + y))
  | _, _, _ => none
/-- the mean of a game -/
def mean (M : Int) (t : Option Int) : Option Int := match t with
  | some t => if t % M = 0 then some (t / M) else none
  | none => none
/-- the match chance in 2^-49ths, where all chances that are needed have a share -/
def chV (P C A : List Int) (a b : Nat) (ph : Int) : Option Int :=
  if ha : a = 0 then some SC else if hb : b = 0 then some 0 else
  mean (2 * sum4 (wts P C A (gp a b ph)))
    (stp ((wts P C A (gp a b ph)).getD 3 0) (chV P C A (a - 4) b (nx (gp a b ph))) (chV P C A a (b - 4) (nx (gp a b ph)))
    (stp ((wts P C A (gp a b ph)).getD 2 0) (chV P C A (a - 3) b (nx (gp a b ph))) (chV P C A a (b - 3) (nx (gp a b ph)))
    (stp ((wts P C A (gp a b ph)).getD 1 0) (chV P C A (a - 2) b (nx (gp a b ph))) (chV P C A a (b - 2) (nx (gp a b ph)))
    (stp ((wts P C A (gp a b ph)).getD 0 0) (chV P C A (a - 1) b (nx (gp a b ph))) (chV P C A a (b - 1) (nx (gp a b ph))) (some 0)))))
termination_by a + b
decreasing_by all_goals omega
theorem chV_a0 {P C A : List Int} {b : Nat} {ph : Int} : chV P C A 0 b ph = some SC := by rw [chV]; rfl
theorem chV_b0 {P C A : List Int} {a : Nat} {ph : Int} (h : 0 < a) : chV P C A a 0 ph = some 0 := by rw [chV, dif_neg (by omega)]; rfl
theorem chV_eq {P C A : List Int} {a b : Nat} {ph : Int} (h1 : 0 < a) (h2 : 0 < b) : chV P C A a b ph = mean (2 * sum4 (wts P C A (gp a b ph)))
    (stp ((wts P C A (gp a b ph)).getD 3 0) (chV P C A (a - 4) b (nx (gp a b ph))) (chV P C A a (b - 4) (nx (gp a b ph)))
    (stp ((wts P C A (gp a b ph)).getD 2 0) (chV P C A (a - 3) b (nx (gp a b ph))) (chV P C A a (b - 3) (nx (gp a b ph)))
    (stp ((wts P C A (gp a b ph)).getD 1 0) (chV P C A (a - 2) b (nx (gp a b ph))) (chV P C A a (b - 2) (nx (gp a b ph)))
    (stp ((wts P C A (gp a b ph)).getD 0 0) (chV P C A (a - 1) b (nx (gp a b ph))) (chV P C A a (b - 1) (nx (gp a b ph))) (some 0))))) := by
  conv => lhs; rw [chV]
  rw [dif_neg (by omega), dif_neg (by omega)]
theorem chV_gp {P C A : List Int} {a b : Nat} {ph : Int} : chV P C A a b (gp a b ph) = chV P C A a b ph := by
  rcases Nat.eq_zero_or_pos a with rfl | ha
  · rw [chV_a0, chV_a0]
  rcases Nat.eq_zero_or_pos b with rfl | hb
  · rw [chV_b0 ha, chV_b0 ha]
  rw [chV_eq ha hb, chV_eq ha hb, gp_gp]

theorem stp_some {w : Int} {x y acc : Option Int} {t' : Int} (h : stp w x y acc = some t') : (w = 0 ∧ acc = some t') ∨ (w ≠ 0 ∧ ∃ x' y' t, x = some x' ∧ y = some y' ∧ acc = some t ∧ t' = t + w * (x' + y')) := by
  unfold stp at h
  by_cases hw : w = 0
  · rw [if_pos hw] at h; exact .inl ⟨hw, h⟩
  · rw [if_neg hw] at h
    cases x with
    | none => cases h
    | some x' =>
      cases y with
      | none => cases h
      | some y' =>
        cases acc with
        | none => cases h
        | some t => injection h with h; exact .inr ⟨hw, x', y', t, rfl, rfl, rfl, h.symm⟩
theorem stp_zero {x y acc : Option Int} : stp 0 x y acc = acc := if_pos rfl
theorem stp_none {w : Int} {x y : Option Int} : stp w x y none = none := by
  unfold stp
  split
  · rfl
  · cases x <;> cases y <;> rfl
/-- what holds of both chances of a step and of the sum so far -/
def Bd (x : Option Int) : Prop := ∀ v, x = some v → 0 ≤ v ∧ v ≤ SC
theorem stp_bd {w B : Int} {x y acc : Option Int} (hw : 0 ≤ w) (hx : Bd x) (hy : Bd y) (ha : ∀ t, acc = some t → 0 ≤ t ∧ t ≤ B * SC) : ∀ t, stp w x y acc = some t → 0 ≤ t ∧ t ≤ (B + 2 * w) * SC := by
  intro t h
  rcases stp_some h with ⟨rfl, h⟩ | ⟨_, x', y', t0, hx', hy', ht0, rfl⟩
  · have := ha t h
    rw [Int.mul_zero, Int.add_zero]; exact this
  · have b1 := hx x' hx'
    have b2 := hy y' hy'
    have b3 := ha t0 ht0
    have b4 : 0 ≤ w * (x' + y') := Int.mul_nonneg hw (by omega)
    have b5 : w * (x' + y') ≤ w * (2 * SC) := Int.mul_le_mul_of_nonneg_left (by omega) hw
    have b6 : (B + 2 * w) * SC = B * SC + w * (2 * SC) := by rw [Int.add_mul]; congr 1; ac_rfl
    exact ⟨by omega, by rw [b6]; omega⟩
/-- a valid list of weights -/
def wOk (l : List Int) : Prop := l.length = 4 ∧ (0 ≤ l.getD 0 0 ∧ l.getD 0 0 ≤ 16) ∧ (0 ≤ l.getD 1 0 ∧ l.getD 1 0 ≤ 16) ∧ (0 ≤ l.getD 2 0 ∧ l.getD 2 0 ≤ 16) ∧ (0 ≤ l.getD 3 0 ∧ l.getD 3 0 ≤ 16) ∧ okM (2 * sum4 l)
theorem wts_ok {P C A : List Int} (h1 : wOk P) (h2 : wOk C) (h3 : wOk A) (ph : Int) : wOk (wts P C A ph) := by
  unfold wts
  split
  · exact h2
  · split
    · exact h3
    · exact h1
theorem okM_pos {M : Int} (h : okM M) : 0 < M ∧ M ≤ 32 := by rcases h with rfl | rfl | rfl | rfl | rfl <;> decide
theorem mean_bd {M : Int} {acc : Option Int} (hM : 0 < M) (ha : ∀ t, acc = some t → 0 ≤ t ∧ t ≤ M * SC) : Bd (mean M acc) := by
  intro v h
  unfold mean at h
  cases acc with
  | none => cases h
  | some t =>
    simp only at h
    split at h
    · injection h with h
      obtain ⟨t0, t1⟩ := ha t rfl
      subst h
      refine ⟨Int.ediv_nonneg t0 (by omega), ?_⟩
      have := Int.ediv_le_ediv hM t1
      rwa [Int.mul_ediv_cancel_left _ (by omega)] at this
    · cases h
theorem chV_bd {P C A : List Int} (h1 : wOk P) (h2 : wOk C) (h3 : wOk A) : ∀ (n a b : Nat) (ph : Int), a + b ≤ n → Bd (chV P C A a b ph)
  | n, a, b, ph, hn => by
    rcases Nat.eq_zero_or_pos a with rfl | ha
    · intro v h; rw [chV_a0] at h; injection h with h; subst h; exact ⟨by decide, Int.le_refl _⟩
    rcases Nat.eq_zero_or_pos b with rfl | hb
    · intro v h; rw [chV_b0 ha] at h; injection h with h; subst h; exact ⟨Int.le_refl _, by decide⟩
    match n, hn with
    | 0, hn => exact absurd hn (by omega)
    | n + 1, hn =>
      have IH := fun (a' b' : Nat) (h : a' + b' ≤ n) => chV_bd h1 h2 h3 n a' b' (nx (gp a b ph)) h
      obtain ⟨_, ⟨w0, _⟩, ⟨w1, _⟩, ⟨w2, _⟩, ⟨w3, _⟩, hm⟩ := wts_ok h1 h2 h3 (gp a b ph)
      rw [chV_eq ha hb]
      refine mean_bd (okM_pos hm).1 ?_
      have s0 := stp_bd (B := 0) (acc := some 0) w0 (IH (a - 1) b (by omega)) (IH a (b - 1) (by omega)) (fun t h => by injection h with h; subst h; omega)
      have s1 := stp_bd w1 (IH (a - 2) b (by omega)) (IH a (b - 2) (by omega)) s0
      have s2 := stp_bd w2 (IH (a - 3) b (by omega)) (IH a (b - 3) (by omega)) s1
      have s3 := stp_bd w3 (IH (a - 4) b (by omega)) (IH a (b - 4) (by omega)) s2
      have e : 0 + 2 * (wts P C A (gp a b ph)).getD 0 0 + 2 * (wts P C A (gp a b ph)).getD 1 0 + 2 * (wts P C A (gp a b ph)).getD 2 0 + 2 * (wts P C A (gp a b ph)).getD 3 0 = 2 * sum4 (wts P C A (gp a b ph)) := by unfold sum4; omega
      rw [e] at s3
      exact s3

/-- the other player's chance -/
def co (x : Option Int) : Option Int := x.map (fun v => SC - v)
theorem gp_swap (a b : Nat) (ph : Int) : gp b a ph = gp a b ph := by
  unfold gp
  by_cases h : ph = 0 ∧ ((a = 1 ∧ 1 < b) ∨ (b = 1 ∧ 1 < a))
  · rw [if_pos h, if_pos ⟨h.1, h.2.symm⟩]
  · rw [if_neg h, if_neg (fun q => h ⟨q.1, q.2.symm⟩)]
theorem stp_co {w B : Int} {x y acc acc' : Option Int} (h : acc' = acc.map (fun t => B * SC - t)) : stp w (co y) (co x) acc' = (stp w x y acc).map (fun t => (B + 2 * w) * SC - t) := by
  subst h
  unfold stp co
  by_cases hw : w = 0
  · subst hw; rw [if_pos rfl, if_pos rfl, Int.mul_zero, Int.add_zero]
  · rw [if_neg hw, if_neg hw]
    cases x <;> cases y <;> cases acc <;> simp only [Option.map_none, Option.map_some]
    rename_i x y t
    congr 1
    have e : (B + 2 * w) * SC = B * SC + w * SC + w * SC := by rw [Int.add_mul, show 2 * w = w + w by omega, Int.add_mul]; omega
    rw [e, Int.mul_add, Int.mul_add, Int.mul_sub, Int.mul_sub]; omega
theorem mean_co {M : Int} (hM : 0 < M) {acc acc' : Option Int} (h : acc' = acc.map (fun t => M * SC - t)) : mean M acc' = co (mean M acc) := by
  subst h
  cases acc with
  | none => rfl
  | some t =>
    show (if (M * SC - t) % M = 0 then some ((M * SC - t) / M) else none) = co (if t % M = 0 then some (t / M) else none)
    by_cases hd : t % M = 0
    · obtain ⟨v, rfl⟩ : M ∣ t := Int.dvd_of_emod_eq_zero hd
      rw [← Int.mul_sub, if_pos (Int.mul_emod_right ..), if_pos hd, Int.mul_ediv_cancel_left _ (by omega), Int.mul_ediv_cancel_left _ (by omega)]
      rfl
    · rw [if_neg hd, if_neg]
      · rfl
      · intro q
        apply hd
        obtain ⟨c, hc⟩ : M ∣ M * SC - t := Int.dvd_of_emod_eq_zero q
        have : t = M * (SC - c) := by rw [Int.mul_sub, ← hc]; omega
        rw [this]; exact Int.mul_emod_right ..
theorem chV_co {P C A : List Int} (h1 : wOk P) (h2 : wOk C) (h3 : wOk A) : ∀ (n a b : Nat) (ph : Int), a + b ≤ n → 0 < a + b → chV P C A b a ph = co (chV P C A a b ph)
  | n, a, b, ph, hn, hp => by
    rcases Nat.eq_zero_or_pos a with rfl | ha
    · rw [chV_a0, chV_b0 (by omega)]; show _ = some (SC - SC); rw [Int.sub_self]
    rcases Nat.eq_zero_or_pos b with rfl | hb
    · rw [chV_b0 ha, chV_a0]; show _ = some (SC - 0); rw [Int.sub_zero]
    match n, hn with
    | 0, hn => exact absurd hn (by omega)
    | n + 1, hn =>
      have IH := fun (a' b' : Nat) (h : a' + b' ≤ n) (h' : 0 < a' + b') => chV_co h1 h2 h3 n a' b' (nx (gp a b ph)) h h'
      obtain ⟨_, _, _, _, _, hm⟩ := wts_ok h1 h2 h3 (gp a b ph)
      rw [chV_eq hb ha, chV_eq ha hb, gp_swap]
      have s0 := stp_co (w := (wts P C A (gp a b ph)).getD 0 0) (x := chV P C A (a - 1) b (nx (gp a b ph))) (y := chV P C A a (b - 1) (nx (gp a b ph))) (B := 0) (acc := some 0) (acc' := some 0) (by show _ = some (0 * SC - 0); rw [Int.zero_mul, Int.sub_zero])
      rw [← IH (a - 1) b (by omega) (by omega), ← IH a (b - 1) (by omega) (by omega)] at s0
      have s1 := stp_co (w := (wts P C A (gp a b ph)).getD 1 0) (x := chV P C A (a - 2) b (nx (gp a b ph))) (y := chV P C A a (b - 2) (nx (gp a b ph))) s0
      rw [← IH (a - 2) b (by omega) (by omega), ← IH a (b - 2) (by omega) (by omega)] at s1
      have s2 := stp_co (w := (wts P C A (gp a b ph)).getD 2 0) (x := chV P C A (a - 3) b (nx (gp a b ph))) (y := chV P C A a (b - 3) (nx (gp a b ph))) s1
      rw [← IH (a - 3) b (by omega) (by omega), ← IH a (b - 3) (by omega) (by omega)] at s2
      have s3 := stp_co (w := (wts P C A (gp a b ph)).getD 3 0) (x := chV P C A (a - 4) b (nx (gp a b ph))) (y := chV P C A a (b - 4) (nx (gp a b ph))) s2
      rw [← IH (a - 4) b (by omega) (by omega), ← IH a (b - 4) (by omega) (by omega)] at s3
      have e : 0 + 2 * (wts P C A (gp a b ph)).getD 0 0 + 2 * (wts P C A (gp a b ph)).getD 1 0 + 2 * (wts P C A (gp a b ph)).getD 2 0 + 2 * (wts P C A (gp a b ph)).getD 3 0 = 2 * sum4 (wts P C A (gp a b ph)) := by unfold sum4; omega
      rw [e] at s3
      exact mean_co (okM_pos hm).1 s3
end Go.Proofs.Ytkioliioakmepaa
