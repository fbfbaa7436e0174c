/-
  Plain facts of take points: (p - l) / (w - l) in lowest terms.
-/
import Derived.Test.YtkioliioakmepaaMix
import Derived.Test.YtkioliioakmepaaCmp
namespace Go.Proofs.Ytkioliioakmepaa
open Go.ChangeShapes Go.WideShapes Go.ChangeAt Go.RowKit

theorem gcd_mul_one {a b c : Int} (h1 : (Int.gcd a b : Int) = 1) (h2 : (Int.gcd a c : Int) = 1) : (Int.gcd a (b * c) : Int) = 1 := by
  have e1 : Nat.Coprime a.natAbs b.natAbs := by show Nat.gcd _ _ = 1; have : Int.gcd a b = 1 := by omega
                                                exact this
  have e2 : Nat.Coprime a.natAbs c.natAbs := by show Nat.gcd _ _ = 1; have : Int.gcd a c = 1 := by omega
                                                exact this
  have e3 : Nat.gcd a.natAbs (b.natAbs * c.natAbs) = 1 := e1.mul_right e2
  have : Int.gcd a (b * c) = 1 := by show Nat.gcd _ _ = 1; rw [Int.natAbs_mul]; exact e3
  omega
theorem gcd_of_mul {a b c : Int} (h : (Int.gcd a (b * c) : Int) = 1) : (Int.gcd a c : Int) = 1 := by
  have e : Nat.Coprime a.natAbs (b.natAbs * c.natAbs) := by
    have h2 : Int.gcd a (b * c) = 1 := by omega
    have : Nat.gcd a.natAbs (b * c).natAbs = 1 := h2
    rw [Int.natAbs_mul] at this
    exact this
  have e2 : Nat.Coprime a.natAbs c.natAbs := Nat.Coprime.coprime_mul_left_right e
  have : Int.gcd a c = 1 := e2
  omega
theorem gcd_swap {a b : Int} (h : (Int.gcd a b : Int) = 1) : (Int.gcd b a : Int) = 1 := by rw [Int.gcd_comm]; exact h
theorem gcd_split {b d : Int} (hb : 0 < b) (hd : 0 ≤ d) : ∃ g u v : Int, (Int.gcd b d : Int) = g ∧ 0 < g ∧ g * u = b ∧ g * v = d ∧ 0 < u ∧ u ≤ b ∧ 0 ≤ v ∧ v ≤ d ∧ (Int.gcd u v : Int) = 1 := by
  obtain ⟨h0, h1, h2, h3, h4, h5, h6, h7⟩ := lo_facts (n := d) (d := b) hd hb
  exact ⟨_, loD d b, loN d b, rfl, h0, by rw [Int.mul_comm]; exact h2, by rw [Int.mul_comm]; exact h1, h4, h6, h3, h5, h7⟩
theorem mul_le1 {x y : Int} (hx : 0 < x) (hy : 0 ≤ y) : y ≤ x * y := by
  have : 1 * y ≤ x * y := Int.mul_le_mul_of_nonneg_right (by omega) hy
  omega

/-- the parts of (n / d) * (f / b), reduced crosswise -/
theorem ratio_facts {n d f b : Int} (hn : 0 ≤ n) (hd : 0 < d) (hf : 0 < f) (hb : 0 < b) :
    ∃ g n1 d1 h u v k n2 v2 k2 u2 d2 : Int, (Int.gcd d n : Int) = g ∧ 0 < g ∧ n / g = n1 ∧ d / g = d1 ∧ 0 ≤ n1 ∧ n1 ≤ n ∧ 0 < d1 ∧ d1 ≤ d ∧
      (Int.gcd f b : Int) = h ∧ 0 < h ∧ f / h = u ∧ b / h = v ∧ 0 < u ∧ u ≤ f ∧ 0 < v ∧ v ≤ b ∧
      (Int.gcd n1 v : Int) = k ∧ 0 < k ∧ n1 / k = n2 ∧ v / k = v2 ∧ 0 ≤ n2 ∧ n2 ≤ n1 ∧ 0 < v2 ∧ v2 ≤ v ∧
      (Int.gcd u d1 : Int) = k2 ∧ 0 < k2 ∧ u / k2 = u2 ∧ d1 / k2 = d2 ∧ 0 < u2 ∧ u2 ≤ u ∧ 0 < d2 ∧ d2 ≤ d1 ∧
      loN (n * f) (d * b) = n2 * u2 ∧ loD (n * f) (d * b) = d2 * v2 := by
  obtain ⟨g, d1, n1, hg, g0, e1, e2, p1, p2, p3, p4, c1⟩ := gcd_split hd hn
  obtain ⟨h, v, u, hh, h0, e3, e4, q1, q2, q3, q4, c2⟩ := gcd_split hb (show 0 ≤ f by omega)
  have u0 : 0 < u := by
    rcases Int.lt_or_le 0 u with x | x
    · exact x
    · have : u = 0 := by omega
      rw [this, Int.mul_zero] at e4; omega
  obtain ⟨k, v2, n2, hk, k0, e5, e6, r1, r2, r3, r4, c3⟩ := gcd_split q1 p3
  obtain ⟨k2, d2, u2, hk2, k20, e7, e8, s1, s2, s3, s4, c4⟩ := gcd_split p1 (show 0 ≤ u by omega)
  have u20 : 0 < u2 := by
    rcases Int.lt_or_le 0 u2 with x | x
    · exact x
    · have : u2 = 0 := by omega
      rw [this, Int.mul_zero] at e8; omega
  have dv : ∀ {x y z : Int}, 0 < x → x * y = z → z / x = y := fun {x y z} hx e => by rw [← e, Int.mul_ediv_cancel_left _ (by omega)]
  have eN : n * f = (g * k * h * k2) * (n2 * u2) := by rw [← e2, ← e4, ← e6, ← e8]; ac_rfl
  have eD : d * b = (g * k * h * k2) * (d2 * v2) := by rw [← e1, ← e3, ← e5, ← e7]; ac_rfl
  have G0 : 0 < g * k * h * k2 := Int.mul_pos (Int.mul_pos (Int.mul_pos g0 k0) h0) k20
  -- pairwise coprime
  have a1 : (Int.gcd d2 n2 : Int) = 1 := by
    have x : (Int.gcd d1 n2 : Int) = 1 := gcd_of_mul (b := k) (by rw [e6]; exact c1)
    exact gcd_swap (gcd_of_mul (b := k2) (by rw [e7]; exact gcd_swap x))
  have a2 : (Int.gcd v2 u2 : Int) = 1 := by
    have x : (Int.gcd v u2 : Int) = 1 := gcd_of_mul (b := k2) (by rw [e8]; exact c2)
    exact gcd_swap (gcd_of_mul (b := k) (by rw [e5]; exact gcd_swap x))
  have a3 : (Int.gcd (d2 * v2) (n2 * u2) : Int) = 1 := by
    refine gcd_swap (gcd_mul_one ?_ ?_)
    · exact gcd_swap (gcd_mul_one a1 c4)
    · exact gcd_swap (gcd_mul_one c3 a2)
  refine ⟨g, n1, d1, h, u, v, k, n2, v2, k2, u2, d2, hg, g0, dv g0 e2, dv g0 e1, p3, p4, p1, p2, by rw [Int.gcd_comm]; exact hh, h0, dv h0 e4, dv h0 e3, u0, q4, q1, q2, by rw [Int.gcd_comm]; exact hk, k0, dv k0 e6, dv k0 e5, r3, r4, r1, r2, by rw [Int.gcd_comm]; exact hk2, k20, dv k20 e8, dv k20 e7, u20, s4, s1, s2, ?_, ?_⟩
  · rw [eN, eD, (lo_scale G0).1, loN_one a3]
  · rw [eN, eD, (lo_scale G0).2, loD_one a3]

/-- numerator and denominator of the take point of a/b (pass), c/d (lose), e/f (win) -/
def tpN (a b c d f : Int) : Int := (a * d - c * b) * f
def tpD (b c d e f : Int) : Int := (e * d - c * f) * b
def tpOrd (a b c d e f : Int) : Prop := 0 < cmpS c d a b ∨ 0 < cmpS a b e f ∨ 0 ≤ cmpS c d e f
instance (a b c d e f : Int) : Decidable (tpOrd a b c d e f) := by unfold tpOrd; infer_instance
/-- what takePoint returns of three valid shares: numerator, denominator, code -/
def tpV (a b c d e f : Int) : Int × Int × Int :=
  if tpOrd a b c d e f then (0, 0, 5) else if fitsB [a, b, c, d, e, f] 3 = false then (0, 0, 3) else
  if loB (tpN a b c d f) (tpD b c d e f) = false then (0, 0, 3) else (loN (tpN a b c d f) (tpD b c d e f), loD (tpN a b c d f) (tpD b c d e f), 0)
theorem tpV_5 {a b c d e f : Int} (h : tpOrd a b c d e f) : tpV a b c d e f = (0, 0, 5) := by rw [tpV, if_pos h]
theorem tpV_3 {a b c d e f : Int} (h : ¬ tpOrd a b c d e f) (hf : fitsB [a, b, c, d, e, f] 3 = false) : tpV a b c d e f = (0, 0, 3) := by rw [tpV, if_neg h, if_pos hf]
theorem tpV_4 {a b c d e f : Int} (h : ¬ tpOrd a b c d e f) (hf : fitsB [a, b, c, d, e, f] 3 = true) (hl : loB (tpN a b c d f) (tpD b c d e f) = false) : tpV a b c d e f = (0, 0, 3) := by
  rw [tpV, if_neg h, if_neg (by rw [hf]; simp), if_pos hl]
theorem tpV_0 {a b c d e f : Int} (h : ¬ tpOrd a b c d e f) (hf : fitsB [a, b, c, d, e, f] 3 = true) (hl : loB (tpN a b c d f) (tpD b c d e f) = true) : tpV a b c d e f = (loN (tpN a b c d f) (tpD b c d e f), loD (tpN a b c d f) (tpD b c d e f), 0) := by
  rw [tpV, if_neg h, if_neg (by rw [hf]; simp), if_neg (by rw [hl]; simp)]
theorem cmpS_pos {a b c d : Int} : 0 < cmpS a b c d ↔ c * b < a * d := by
  unfold cmpS
  rw [Int.sign_pos_iff]
  omega
theorem cmpS_neg {a b c d : Int} : cmpS a b c d < 0 ↔ a * d < c * b := by
  unfold cmpS
  rw [Int.sign_neg_iff]
  omega
theorem fits3 {a b c d e f : Int} (h : fitsB [a, b, c, d, e, f] 3 = true) : b ≤ 1000000 ∧ d ≤ 1000000 ∧ f ≤ 1000000 := by
  simp only [fitsB, Bool.and_eq_true, Bool.true_and] at h
  exact ⟨of_decide_eq_true h.1.1, of_decide_eq_true h.1.2, of_decide_eq_true h.2⟩
/-- shares in the ranges of valid shares -/
def shOk (a b : Int) : Prop := 0 ≤ a ∧ a ≤ b ∧ 0 < b ∧ b ≤ 1000000000000000
theorem shOk_of {a b : Int} (h : shB a b = true) : shOk a b := by
  obtain ⟨h1, h2, h3, h4, _⟩ := shB_out h
  exact ⟨h3, h4, by omega, h2⟩
theorem tp_facts {a b c d e f : Int} (h1 : shOk a b) (h2 : shOk c d) (h3 : shOk e f) (h : ¬ tpOrd a b c d e f) (hf : fitsB [a, b, c, d, e, f] 3 = true) :
    (0 ≤ a * d ∧ a * d ≤ 1000000000000) ∧ (0 ≤ c * b ∧ c * b ≤ 1000000000000) ∧ (0 ≤ e * d ∧ e * d ≤ 1000000000000) ∧ (0 ≤ c * f ∧ c * f ≤ 1000000000000) ∧ c * b ≤ a * d ∧ c * f < e * d ∧
    0 ≤ tpN a b c d f ∧ tpN a b c d f ≤ tpD b c d e f ∧ 0 < tpD b c d e f ∧ tpD b c d e f ≤ 1000000000000000000 := by
  obtain ⟨a0, a1, b0, b1⟩ := h1
  obtain ⟨c0, c1, d0, d1⟩ := h2
  obtain ⟨e0, e1, f0, f1⟩ := h3
  obtain ⟨fb, fd, ff⟩ := fits3 hf
  have m1 := mul_bd a0 (show a ≤ 1000000 by omega) (show 0 ≤ d by omega) fd
  have m2 := mul_bd c0 (show c ≤ 1000000 by omega) (show 0 ≤ b by omega) fb
  have m3 := mul_bd e0 (show e ≤ 1000000 by omega) (show 0 ≤ d by omega) fd
  have m4 := mul_bd c0 (show c ≤ 1000000 by omega) (show 0 ≤ f by omega) ff
  have o1 : c * b ≤ a * d := by
    have : ¬ 0 < cmpS c d a b := fun q => h (.inl q)
    rw [cmpS_pos] at this; omega
  have o2 : a * f ≤ e * b := by
    have : ¬ 0 < cmpS a b e f := fun q => h (.inr (.inl q))
    rw [cmpS_pos] at this; omega
  have o3 : c * f < e * d := by
    have : ¬ 0 ≤ cmpS c d e f := fun q => h (.inr (.inr q))
    have h9 : cmpS c d e f < 0 := by omega
    rw [cmpS_neg] at h9; exact h9
  have n0 : 0 ≤ tpN a b c d f := Int.mul_nonneg (by omega) (by omega)
  have d0' : 0 < tpD b c d e f := Int.mul_pos (by omega) b0
  have le : tpN a b c d f ≤ tpD b c d e f := by
    unfold tpN tpD
    rw [Int.sub_mul, Int.sub_mul]
    have q : a * f * d ≤ e * b * d := Int.mul_le_mul_of_nonneg_right o2 (by omega)
    have q1 : a * d * f = a * f * d := by ac_rfl
    have q2 : e * d * b = e * b * d := by ac_rfl
    have q3 : c * b * f = c * f * b := by ac_rfl
    omega
  have up : tpD b c d e f ≤ 1000000000000 * 1000000 := (mul_bd (x := e * d - c * f) (by omega) (show e * d - c * f ≤ 1000000000000 by omega) (show 0 ≤ b by omega) fb).2
  exact ⟨⟨m1.1, by omega⟩, ⟨m2.1, by omega⟩, ⟨m3.1, by omega⟩, ⟨m4.1, by omega⟩, o1, o3, n0, le, d0', by omega⟩
theorem six_ints (w : World) (a b c d e f : Int) (t : TypeId) : Ints (w.alloc (.cells #[.int .i64 a, .int .i64 b, .int .i64 c, .int .i64 d, .int .i64 e, .int .i64 f] t)) (w.heap.size + 1) .i64 (some ⟨w.heap.size, 0, none⟩) (3 * 2) [a, b, c, d, e, f] :=
  ⟨rfl, fun _ => ⟨w.heap.size, 0, rfl, by omega, fun i hi => by
    rw [Nat.zero_add, new_cell]
    match i, hi with
    | 0, _ => rfl
    | 1, _ => rfl
    | 2, _ => rfl
    | 3, _ => rfl
    | 4, _ => rfl
    | 5, _ => rfl⟩⟩
/-- what both packages' TakePoint return -/
def tpA (a b c d e f : Int) : Int × Int × Int := if (shB a b && shB c d && shB e f) = false then (0, 0, 1) else tpV a b c d e f
theorem tpA_1 {a b c d e f : Int} (h : (shB a b && shB c d && shB e f) = false) : tpA a b c d e f = (0, 0, 1) := by rw [tpA, if_pos h]
theorem tpA_2 {a b c d e f : Int} (h : (shB a b && shB c d && shB e f) = true) : tpA a b c d e f = tpV a b c d e f := by rw [tpA, if_neg (by rw [h]; simp)]
end Go.Proofs.Ytkioliioakmepaa
