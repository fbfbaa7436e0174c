/-
  The walks of math/bits.Mul64 and of the comparisons of shares (both packages).
-/
import Derived.Test.YtkioliioakmepaaGcd
import Derived.Lib.Mul64
import Derived.Laws.Bits64b
import Derived.IntWalk
import Derived.Deep.QuietTactic
import Derived.BigQuiet
namespace Go.Proofs.Ytkioliioakmepaa
open Go.ChangeShapes Go.WideShapes Go.ChangeAt Go.RowKit
set_option linter.unusedVariables false

namespace Mul64
theorem maskN (a : Nat) (ha : a < 18446744073709551616) : bits .and .u64 (a : Int) 4294967295 = ((a % 4294967296 : Nat) : Int) := by
  have h := bits_and_u64_nat a 4294967295 ha (by omega)
  have e : a &&& 4294967295 = a % 4294967296 := Nat.and_two_pow_sub_one_eq_mod a 32
  rw [e] at h
  exact h
theorem divN (a : Nat) : (a : Int) / 4294967296 = ((a / 4294967296 : Nat) : Int) := by omega
theorem mulN (a b : Nat) : (a : Int) * (b : Int) = ((a * b : Nat) : Int) := (Int.natCast_mul a b).symm
theorem addN (a b : Nat) : (a : Int) + (b : Int) = ((a + b : Nat) : Int) := (Int.natCast_add a b).symm
theorem wrapN (a : Nat) (ha : a < 18446744073709551616) : IntKind.u64.wrap (a : Int) = (a : Int) := by rw [IntKind.wrap_u64]; omega
theorem wrapM (a : Nat) : IntKind.u64.wrap (a : Int) = ((a % 18446744073709551616 : Nat) : Int) := by rw [IntKind.wrap_u64]; omega
end Mul64

set_option maxHeartbeats 1000000 in
theorem mul64_any (x y : Nat) (hx : x < 18446744073709551616) (hy : y < 18446744073709551616) (w : World) :
    Calls Try.prog 102 #[.int .u64 x, .int .u64 y] w fun e w' => e = .returned (.tuple #[.int .u64 ((x * y / 18446744073709551616 : Nat) : Int), .int .u64 ((x * y % 18446744073709551616 : Nat) : Int)]) ∧ w = w' := by
  obtain ⟨bd, bt, bw, hhi⟩ := Lib.mul64_hi x y hx hy
  have ba := Lib.half_mul_le (a := x / 4294967296) (b := y / 4294967296) (by omega) (by omega)
  have bb := Lib.half_mul_le (a := x / 4294967296) (b := y % 4294967296) (by omega) (by omega)
  have bc := Lib.half_mul_le (a := x % 4294967296) (b := y / 4294967296) (by omega) (by omega)
  have ba' : x / 4294967296 * (y / 4294967296) < 18446744073709551616 := by omega
  have bb' : x / 4294967296 * (y % 4294967296) < 18446744073709551616 := by omega
  have bc' : x % 4294967296 * (y / 4294967296) < 18446744073709551616 := by omega
  have bh1 : x / 4294967296 * (y / 4294967296) + (x / 4294967296 * (y % 4294967296) + x % 4294967296 * (y % 4294967296) / 4294967296) / 4294967296 < 18446744073709551616 := by omega
  have bh : x / 4294967296 * (y / 4294967296) + (x / 4294967296 * (y % 4294967296) + x % 4294967296 * (y % 4294967296) / 4294967296) / 4294967296 + ((x / 4294967296 * (y % 4294967296) + x % 4294967296 * (y % 4294967296) / 4294967296) % 4294967296 + x % 4294967296 * (y / 4294967296)) / 4294967296 < 18446744073709551616 := by omega
  go_enter Try.func102, Try.ntmps102
  go_wp2
  simp only [Mul64.maskN x hx, Mul64.maskN y hy, Mul64.divN, Mul64.mulN, Mul64.addN, Mul64.wrapN _ bd, Mul64.wrapN _ bb', Mul64.wrapN _ bt, Mul64.maskN _ bt, Mul64.wrapN _ bc', Mul64.wrapN _ bw, Mul64.wrapN _ ba', Mul64.wrapN _ bh1, Mul64.wrapN _ bh, Mul64.wrapM (x * y)]
  rw [hhi]
  go_ret2
  exact ⟨rfl, rfl⟩
theorem mul64_int (x y : Int) (hx : 0 ≤ x) (hx2 : x ≤ 1000000000000000) (hy : 0 ≤ y) (hy2 : y ≤ 1000000000000000) (w : World) :
    Calls Try.prog 102 #[.int .u64 x, .int .u64 y] w fun e w' => e = .returned (.tuple #[.int .u64 (x * y / 18446744073709551616), .int .u64 (x * y % 18446744073709551616)]) ∧ w = w' := by
  obtain ⟨a, rfl⟩ := Int.eq_ofNat_of_zero_le hx
  obtain ⟨b, rfl⟩ := Int.eq_ofNat_of_zero_le hy
  refine (mul64_any a b (by omega) (by omega) w).mono fun e w' h => ⟨?_, h.2⟩
  rw [h.1, Int.natCast_ediv, Int.natCast_emod, Int.natCast_mul]
  rfl

/-- the sign of a / b - c / d -/
def cmpS (a b c d : Int) : Int := Int.sign (a * d - c * b)
theorem cmpS_lt {a b c d : Int} (h : a * d < c * b) : cmpS a b c d = -1 := Int.sign_eq_neg_one_of_neg (by omega)
theorem cmpS_gt {a b c d : Int} (h : c * b < a * d) : cmpS a b c d = 1 := Int.sign_eq_one_of_pos (by omega)
theorem cmpS_eq {a b c d : Int} (h : a * d = c * b) : cmpS a b c d = 0 := by rw [cmpS, show a * d - c * b = 0 by omega]; rfl

theorem hilo (u v : Int) (hu : 0 ≤ u) (hv : 0 ≤ v) : (u / 18446744073709551616 = v / 18446744073709551616 ∧ u % 18446744073709551616 = v % 18446744073709551616 → u = v) ∧
    (u / 18446744073709551616 < v / 18446744073709551616 ∨ u / 18446744073709551616 = v / 18446744073709551616 ∧ u % 18446744073709551616 < v % 18446744073709551616 ↔ u < v) := by omega
set_option maxHeartbeats 1600000 in
theorem compareShares_any (a b c d : Int) (w : World) (a0 : 0 ≤ a) (a1 : a ≤ 1000000000000000) (b0 : 0 < b) (b1 : b ≤ 1000000000000000) (c0 : 0 ≤ c) (c1 : c ≤ 1000000000000000) (d0 : 0 < d) (d1 : d ≤ 1000000000000000) :
    Calls Try.prog 94 #[shV a b, shV c d] w fun e w' => e = .returned (.int .i64 (cmpS a b c d)) ∧ Below w.heap.size w w' := by
  have HB0 := ((Below.refl w.heap.size w).alloc (Nat.le_refl _) (.cells #[.int .i64 a, .int .i64 b] 30)).alloc (by simp) (.cells #[.int .i64 c, .int .i64 d] 30)
  have M1 := Lib.hid (fun W => mul64_int a d a0 a1 (by omega) d1 W)
  have M2 := Lib.hid (fun W => mul64_int c b c0 c1 (by omega) b1 W)
  have u0 : 0 ≤ a * d := Int.mul_nonneg a0 (by omega)
  have v0 : 0 ≤ c * b := Int.mul_nonneg c0 (by omega)
  have HH := Lib.hid (hilo (a * d) (c * b) u0 v0)
  obtain ⟨U, hU⟩ : ∃ U, a * d = U := ⟨_, rfl⟩
  obtain ⟨V, hV⟩ : ∃ V, c * b = V := ⟨_, rfl⟩
  have HS : Hid (cmpS a b c d = Int.sign (U - V)) := by show _ = _; rw [cmpS, hU, hV]
  rw [hU, hV] at HH
  rw [hU] at M1 u0
  rw [hV] at M2 v0
  clear hU hV
  obtain ⟨h1, hh1⟩ : ∃ x, U / 18446744073709551616 = x := ⟨_, rfl⟩
  obtain ⟨l1, hl1⟩ : ∃ x, U % 18446744073709551616 = x := ⟨_, rfl⟩
  obtain ⟨h2, hh2⟩ : ∃ x, V / 18446744073709551616 = x := ⟨_, rfl⟩
  obtain ⟨l2, hl2⟩ : ∃ x, V % 18446744073709551616 = x := ⟨_, rfl⟩
  rw [hh1, hl1] at M1
  rw [hh2, hl2] at M2
  rw [hh1, hl1, hh2, hl2] at HH
  have hE : (h1 = h2 ∧ l1 = l2) → U = V := HH.out.1
  have hL := HH.out.2
  have hr : U = V → h1 = h2 ∧ l1 = l2 := fun e => ⟨by rw [← hh1, ← hh2, e], by rw [← hl1, ← hl2, e]⟩
  clear hh1 hl1 hh2 hl2 HH u0 v0
  rcases Int.lt_trichotomy U V with h | h | h
  · have HV := Lib.hid (show cmpS a b c d = -1 by rw [HS.out]; exact Int.sign_eq_neg_one_of_neg (by omega))
    rcases hL.2 h with hlt | ⟨heq, hlt⟩
    · have e1 : (h1 == h2) = false := by simp; omega
      have e2 : decide (h1 < h2) = true := by simpa using hlt
      clear hE hL hr h
      go_enter Try.func94, Try.ntmps94
      go_wp2_with (first | (go_at_call 102; (first | ((with_reducible refine (M1.out _).mono ?_); rintro e w' ⟨rfl, rfl⟩) | ((with_reducible refine (M2.out _).mono ?_); rintro e w' ⟨rfl, rfl⟩))))
      go_ret
      exact ⟨ret_int HV.out, HB0⟩
    · have e1 : (h1 == h2) = true := by simpa using heq
      have e3 : (l1 == l2) = false := by simp; omega
      have e2 : decide (h1 < h2) = false := by simp; omega
      have e4 : decide (l1 < l2) = true := by simpa using hlt
      clear hE hL hr h
      go_enter Try.func94, Try.ntmps94
      go_wp2_with (first | (go_at_call 102; (first | ((with_reducible refine (M1.out _).mono ?_); rintro e w' ⟨rfl, rfl⟩) | ((with_reducible refine (M2.out _).mono ?_); rintro e w' ⟨rfl, rfl⟩))))
      go_ret
      exact ⟨ret_int HV.out, HB0⟩
  · have HV := Lib.hid (show cmpS a b c d = 0 by rw [HS.out, h, Int.sub_self]; rfl)
    obtain ⟨p1, p2⟩ := hr h
    have e1 : (h1 == h2) = true := by simpa using p1
    have e3 : (l1 == l2) = true := by simpa using p2
    clear hE hL hr h p1 p2
    go_enter Try.func94, Try.ntmps94
    go_wp2_with (first | (go_at_call 102; (first | ((with_reducible refine (M1.out _).mono ?_); rintro e w' ⟨rfl, rfl⟩) | ((with_reducible refine (M2.out _).mono ?_); rintro e w' ⟨rfl, rfl⟩))))
    go_ret
    exact ⟨ret_int HV.out, HB0⟩
  · have HV := Lib.hid (show cmpS a b c d = 1 by rw [HS.out]; exact Int.sign_eq_one_of_pos (by omega))
    have hnl : ¬ (h1 < h2 ∨ h1 = h2 ∧ l1 < l2) := fun q => by have := hL.1 q; omega
    have hne : ¬ (h1 = h2 ∧ l1 = l2) := fun q => by have := hE q; omega
    by_cases heq : h1 = h2
    · have e1 : (h1 == h2) = true := by simpa using heq
      have e3 : (l1 == l2) = false := by simp; exact fun q => hne ⟨heq, q⟩
      have e2 : decide (h1 < h2) = false := by simp; omega
      have e4 : decide (l1 < l2) = false := by simp; omega
      clear hE hL hr h hnl hne heq
      go_enter Try.func94, Try.ntmps94
      go_wp2_with (first | (go_at_call 102; (first | ((with_reducible refine (M1.out _).mono ?_); rintro e w' ⟨rfl, rfl⟩) | ((with_reducible refine (M2.out _).mono ?_); rintro e w' ⟨rfl, rfl⟩))))
      go_ret
      exact ⟨ret_int HV.out, HB0⟩
    · have e1 : (h1 == h2) = false := by simpa using heq
      have e2 : decide (h1 < h2) = false := by simp; omega
      clear hE hL hr h hnl hne heq
      go_enter Try.func94, Try.ntmps94
      go_wp2_with (first | (go_at_call 102; (first | ((with_reducible refine (M1.out _).mono ?_); rintro e w' ⟨rfl, rfl⟩) | ((with_reducible refine (M2.out _).mono ?_); rintro e w' ⟨rfl, rfl⟩))))
      go_ret
      exact ⟨ret_int HV.out, HB0⟩

theorem cmp_quo {a b c d P Q : Int} (b0 : 0 < b) (d0 : 0 < d) (h1 : a < P * b + b) (h2 : Q * d ≤ c) (h : P < Q) : a * d < c * b := by
  have e1 : P * b + b ≤ Q * b := by
    have : (P + 1) * b ≤ Q * b := Int.mul_le_mul_of_nonneg_right (by omega) (by omega)
    rw [Int.add_mul, Int.one_mul] at this
    exact this
  have e2 : a * d < Q * b * d := by
    have h3 : a < Q * b := by omega
    exact Int.mul_lt_mul_of_pos_right h3 d0
  have e3 : Q * d * b ≤ c * b := Int.mul_le_mul_of_nonneg_right h2 (by omega)
  have e4 : Q * b * d = Q * d * b := by rw [Int.mul_assoc, Int.mul_comm b d, ← Int.mul_assoc]
  omega
theorem cmpS_rem {a b c d P : Int} : cmpS a b c d = cmpS (a - P * b) b (c - P * d) d := by
  unfold cmpS
  congr 1
  rw [Int.sub_mul, Int.sub_mul]
  have : P * b * d = P * d * b := by rw [Int.mul_assoc, Int.mul_comm b d, ← Int.mul_assoc]
  omega
theorem cmpS_swap {a b c d : Int} : cmpS b a d c = - cmpS a b c d := by
  unfold cmpS
  rw [← Int.sign_neg]
  congr 1
  rw [Int.mul_comm b c, Int.mul_comm d a]
  omega

set_option maxHeartbeats 1600000 in
theorem l18Compare_any (a b c d : Int) (w : World) (a0 : 0 ≤ a) (a1 : a ≤ 1000000000000000) (b0 : 0 < b) (b1 : b ≤ 1000000000000000) (c0 : 0 ≤ c) (c1 : c ≤ 1000000000000000) (d0 : 0 < d) (d1 : d ≤ 1000000000000000) :
    Calls Try.prog 56 #[shV a b, shV c d] w fun e w' => e = .returned (.int .i64 (cmpS a b c d)) ∧ Below w.heap.size w w' := by
  have HB0 := ((Below.refl w.heap.size w).alloc (Nat.le_refl _) (.cells #[.int .i64 a, .int .i64 b] 30)).alloc (by simp) (.cells #[.int .i64 c, .int .i64 d] 30)
  go_enter Try.func56, Try.ntmps56
  go_wp2_with fail
  go_quiet (fail)
  rename_i nq
  obtain ⟨wq, hwq⟩ : ∃ W, W = (((w.alloc (.cells #[.int .i64 a, .int .i64 b] 30)).alloc (.cells #[.int .i64 c, .int .i64 d] 30)).drewN nq) := ⟨_, rfl⟩
  have HB1 : Hid (Below w.heap.size w wq) := by show Below _ _ _; rw [hwq]; exact below_drewN HB0 nq
  rw [← hwq]
  clear hwq HB0
  go_wp2_with fail
  go_loopw [5, 6, 7, 8, 9] (fun s x y u v wr => ∃ (S A B C D : Int) (n : Nat), s = .int .i64 S ∧ x = .int .i64 A ∧ y = .int .i64 B ∧ u = .int .i64 C ∧ v = .int .i64 D ∧ wr = wq.drewN n ∧ 0 ≤ A ∧ A ≤ 1000000000000000 ∧ 0 < B ∧ B ≤ 1000000000000000 ∧ 0 ≤ C ∧ C ≤ 1000000000000000 ∧ 0 < D ∧ D ≤ 1000000000000000 ∧ -1 ≤ S ∧ S ≤ 1 ∧ Hid (cmpS a b c d = S * cmpS A B C D)) (fun _ _ y _ _ _ => (intOf y).toNat)
  case atStart => exact ⟨1, a, b, c, d, 0, rfl, rfl, rfl, rfl, rfl, rfl, a0, a1, b0, b1, c0, c1, d0, d1, by omega, by omega, by show _ = _; rw [Int.one_mul]⟩
  case round =>
    obtain ⟨S, A, B, C, D, n, rfl, rfl, rfl, rfl, rfl, rfl, x0, x1, y0, y1, u0, u1, v0, v1, s1, s2, hc⟩ := hrel
    obtain ⟨P, hP⟩ : ∃ P, A / B = P := ⟨_, rfl⟩
    obtain ⟨Q, hQ⟩ : ∃ Q, C / D = Q := ⟨_, rfl⟩
    have p1 : P * B ≤ A := by rw [← hP]; exact Int.ediv_mul_le A (by omega)
    have p2 : A < P * B + B := by have := Int.lt_ediv_add_one_mul_self A y0; rw [hP, Int.add_mul, Int.one_mul] at this; exact this
    have p3 : 0 ≤ P := by rw [← hP]; exact Int.ediv_nonneg x0 (by omega)
    have p4 : P ≤ A := by rw [← hP]; exact Int.ediv_le_self _ x0
    have q1 : Q * D ≤ C := by rw [← hQ]; exact Int.ediv_mul_le C (by omega)
    have q2 : C < Q * D + D := by have := Int.lt_ediv_add_one_mul_self C v0; rw [hQ, Int.add_mul, Int.one_mul] at this; exact this
    have q3 : 0 ≤ Q := by rw [← hQ]; exact Int.ediv_nonneg u0 (by omega)
    have q4 : Q ≤ C := by rw [← hQ]; exact Int.ediv_le_self _ u0
    have p5 : 0 ≤ P * B := Int.mul_nonneg p3 (by omega)
    have q5 : 0 ≤ Q * D := Int.mul_nonneg q3 (by omega)
    have wt1 : IntKind.i64.wrap (A.tdiv B) = P := by rw [Int.tdiv_eq_ediv_of_nonneg x0, hP]; exact IntWalk.i64_in _ (by omega)
    have wt2 : IntKind.i64.wrap (C.tdiv D) = Q := by rw [Int.tdiv_eq_ediv_of_nonneg u0, hQ]; exact IntWalk.i64_in _ (by omega)
    have wp : IntKind.i64.wrap P = P := IntWalk.i64_in _ (by omega)
    have wq' : IntKind.i64.wrap Q = Q := IntWalk.i64_in _ (by omega)
    have b9 : ¬ B = 0 := by omega
    have d9 : ¬ D = 0 := by omega
    have b8 : (B == 0) = false := by simp; omega
    have d8 : (D == 0) = false := by simp; omega
    by_cases hpq : P = Q
    · subst hpq
      have e1 : (P != P) = false := by simp
      have HR := Lib.hid (cmpS_rem (a := A) (b := B) (c := C) (d := D) (P := P))
      by_cases hA : A - P * B = 0
      · have eA : (A - P * B == 0) = true := by simpa using hA
        by_cases hC : C - P * D = 0
        · have eC : (C - P * D == 0) = true := by simpa using hC
          have HV := Lib.hid (show cmpS a b c d = 0 by rw [hc.out, HR.out, hA, hC, cmpS_eq (by rw [Int.zero_mul, Int.zero_mul]), Int.mul_zero])
          clear hA hC
          go_wp2_with fail
          go_quiet (fail)
          go_wp2
          go_ret
          exact ⟨ret_int HV.out, below_drewN HB1.out _⟩
        · have eC : (C - P * D == 0) = false := by simpa using hC
          have HV := Lib.hid (show cmpS a b c d = -S by rw [hc.out, HR.out, hA, cmpS_lt (by rw [Int.zero_mul]; exact Int.mul_pos (by omega) y0)]; omega)
          clear hA hC
          go_wp2_with fail
          go_quiet (fail)
          go_wp2
          go_ret
          exact ⟨ret_int HV.out, below_drewN HB1.out _⟩
      · have eA : (A - P * B == 0) = false := by simpa using hA
        by_cases hC : C - P * D = 0
        · have eC : (C - P * D == 0) = true := by simpa using hC
          have HV := Lib.hid (show cmpS a b c d = S by rw [hc.out, HR.out, hC, cmpS_gt (by rw [Int.zero_mul]; exact Int.mul_pos (by omega) v0), Int.mul_one])
          clear hC
          go_wp2_with fail
          go_quiet (fail)
          go_wp2
          go_ret
          exact ⟨ret_int HV.out, below_drewN HB1.out _⟩
        · have eC : (C - P * D == 0) = false := by simpa using hC
          have HN := Lib.hid (show cmpS a b c d = -S * cmpS B (A - P * B) D (C - P * D) by rw [hc.out, HR.out, cmpS_swap (a := A - P * B), Int.neg_mul_neg])
          have k1 : 0 < A - P * B := by omega
          have k2 : 0 < C - P * D := by omega
          go_wp2_with fail
          go_quiet (fail)
          go_wp2
          go_roundw
          case rel => exact ⟨-S, B, A - P * B, D, C - P * D, _, rfl, rfl, rfl, rfl, rfl, rfl, by omega, by omega, by omega, by omega, by omega, by omega, by omega, by omega, by omega, by omega, HN⟩
          case measure => simp [intOf]; omega
    · have e1 : (P != Q) = true := by rw [bne_iff_ne]; exact hpq
      by_cases hgt : Q < P
      · have HV := Lib.hid (show cmpS a b c d = S by rw [hc.out, cmpS_gt (cmp_quo v0 y0 q2 p1 hgt), Int.mul_one])
        go_wp2_with fail
        go_quiet (fail)
        go_wp2
        go_ret
        exact ⟨ret_int HV.out, below_drewN HB1.out _⟩
      · have HV := Lib.hid (show cmpS a b c d = -S by rw [hc.out, cmpS_lt (cmp_quo y0 v0 p2 q1 (by omega))]; omega)
        go_wp2_with fail
        go_quiet (fail)
        go_wp2
        go_ret
        exact ⟨ret_int HV.out, below_drewN HB1.out _⟩
end Go.Proofs.Ytkioliioakmepaa
