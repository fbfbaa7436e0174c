/-
  The walks of MixPoints (both packages).
-/
import Derived.Test.YtjagidpjdajpnaaFits
import Derived.Test.YtjagidpjdajpnaaMtp
import Derived.IntWalk
import Derived.Deep.QuietTactic
import Derived.BigQuiet
namespace Go.Proofs.Ytjagidpjdajpnaa
open Go.ChangeShapes Go.WideShapes Go.ChangeAt Go.RowKit
set_option linter.unusedVariables false

def mixN (a b c d t : Int) : Int := a * d * (1000 - t) + c * b * t
def mixD (b d : Int) : Int := 1000 * b * d
/-- what both packages' MixPoints return: numerator, denominator, code -/
def mixV (a b c d t : Int) : Int × Int × Int :=
  if (shB a b && shB c d) = false then (0, 0, 1) else if wB t 0 1000 = false then (0, 0, 2) else if fitsB [a, b, c, d] 2 = false then (0, 0, 3) else
  if loB (mixN a b c d t) (mixD b d) = false then (0, 0, 3) else (loN (mixN a b c d t) (mixD b d), loD (mixN a b c d t) (mixD b d), 0)
theorem four_ints (w : World) (a b c d : Int) (t : TypeId) : Ints (w.alloc (.cells #[.int .i64 a, .int .i64 b, .int .i64 c, .int .i64 d] t)) (w.heap.size + 1) .i64 (some ⟨w.heap.size, 0, none⟩) (2 * 2) [a, b, c, d] :=
  ⟨rfl, fun _ => ⟨w.heap.size, 0, rfl, by omega, fun i hi => by
    rw [Nat.zero_add, new_cell]
    match i, hi with
    | 0, _ => rfl
    | 1, _ => rfl
    | 2, _ => rfl
    | 3, _ => rfl⟩⟩
theorem mul_bd {x y : Int} {M N : Int} (x0 : 0 ≤ x) (x1 : x ≤ M) (y0 : 0 ≤ y) (y1 : y ≤ N) : 0 ≤ x * y ∧ x * y ≤ M * N := ⟨Int.mul_nonneg x0 y0, Int.mul_le_mul x1 y1 y0 (by omega)⟩
theorem mix_facts {a b c d t : Int} (hs : (shB a b && shB c d) = true) (ht : wB t 0 1000 = true) (hf : fitsB [a, b, c, d] 2 = true) :
    (0 ≤ a * d ∧ a * d ≤ 1000000000000) ∧ (0 ≤ c * b ∧ c * b ≤ 1000000000000) ∧ (0 ≤ a * d * (1000 - t) ∧ a * d * (1000 - t) ≤ 1000000000000000) ∧ (0 ≤ c * b * t ∧ c * b * t ≤ 1000000000000000) ∧ (0 ≤ mixN a b c d t ∧ mixN a b c d t ≤ mixD b d) ∧ (0 < mixD b d ∧ mixD b d ≤ 1000000000000000) := by
  simp only [Bool.and_eq_true] at hs
  obtain ⟨b1, b2, a1, a2, _⟩ := shB_out hs.1
  obtain ⟨d1, d2, c1, c2, _⟩ := shB_out hs.2
  obtain ⟨t1, t2⟩ := wB_true.1 ht
  simp only [fitsB, Bool.and_eq_true, Bool.true_and] at hf
  have hb : b ≤ 1000000 := of_decide_eq_true hf.1
  have hd : d ≤ 1000000 := of_decide_eq_true hf.2
  have m1 := mul_bd a1 (show a ≤ 1000000 by omega) (show 0 ≤ d by omega) hd
  have m2 := mul_bd c1 (show c ≤ 1000000 by omega) (show 0 ≤ b by omega) hb
  have m3 := mul_bd m1.1 m1.2 (show 0 ≤ 1000 - t by omega) (show 1000 - t ≤ 1000 by omega)
  have m4 := mul_bd m2.1 m2.2 t1 t2
  have bd : 1 * 1 ≤ b * d := Int.mul_le_mul b1 d1 (by omega) (by omega)
  have bd2 : b * d ≤ 1000000 * 1000000 := Int.mul_le_mul hb hd (by omega) (by omega)
  have eD : mixD b d = 1000 * (b * d) := by rw [mixD, Int.mul_assoc]
  have q1 : a * d ≤ b * d := Int.mul_le_mul_of_nonneg_right a2 (by omega)
  have q2 : c * b ≤ b * d := by rw [Int.mul_comm b d]; exact Int.mul_le_mul_of_nonneg_right c2 (by omega)
  have q3 : a * d * (1000 - t) ≤ b * d * (1000 - t) := Int.mul_le_mul_of_nonneg_right q1 (by omega)
  have q4 : c * b * t ≤ b * d * t := Int.mul_le_mul_of_nonneg_right q2 t1
  have q5 : b * d * (1000 - t) + b * d * t = 1000 * (b * d) := by rw [← Int.mul_add, Int.mul_comm]; congr 1; omega
  refine ⟨⟨m1.1, by omega⟩, ⟨m2.1, by omega⟩, ⟨m3.1, by omega⟩, ⟨m4.1, by omega⟩, ⟨?_, ?_⟩, ?_, ?_⟩
  · unfold mixN; omega
  · rw [eD]; unfold mixN; omega
  · rw [eD]; omega
  · rw [eD]; omega
theorem gcd_parts {b d : Int} (hb : 0 < b) (hd : 0 < d) : ∃ g u v : Int, (Int.gcd b d : Int) = g ∧ 0 < g ∧ g * u = b ∧ g * v = d ∧ 0 < u ∧ u ≤ b ∧ 0 < v ∧ v ≤ d := by
  have h0 : 0 < Int.gcd b d := Int.gcd_pos_of_ne_zero_left d (by omega)
  obtain ⟨u, hu⟩ : ((Int.gcd b d : Nat) : Int) ∣ b := Int.gcd_dvd_left ..
  obtain ⟨v, hv⟩ : ((Int.gcd b d : Nat) : Int) ∣ d := Int.gcd_dvd_right ..
  have g0 : 0 < ((Int.gcd b d : Nat) : Int) := by omega
  have u0 : 0 < u := by
    rcases Int.lt_or_le 0 u with h | h
    · exact h
    · have : (Int.gcd b d : Int) * u ≤ 0 := Int.mul_nonpos_of_nonneg_of_nonpos (by omega) h
      omega
  have v0 : 0 < v := by
    rcases Int.lt_or_le 0 v with h | h
    · exact h
    · have : (Int.gcd b d : Int) * v ≤ 0 := Int.mul_nonpos_of_nonneg_of_nonpos (by omega) h
      omega
  have u1 : 1 * u ≤ (Int.gcd b d : Int) * u := Int.mul_le_mul_of_nonneg_right (by omega) (by omega)
  have v1 : 1 * v ≤ (Int.gcd b d : Int) * v := Int.mul_le_mul_of_nonneg_right (by omega) (by omega)
  exact ⟨_, u, v, rfl, g0, hu.symm, hv.symm, u0, by omega, v0, by omega⟩
theorem mix_small {a b c d t g u v : Int} (g0 : 0 < g) (ub : g * u = b) (vd : g * v = d) (m9 : 0 ≤ mixN a b c d t) (m10 : mixN a b c d t ≤ mixD b d) (m11 : 0 < mixD b d) (m12 : mixD b d ≤ 1000000000000000) (m1 : 0 ≤ a * d) (m2 : a * d ≤ 1000000000000) (m3 : 0 ≤ c * b) (m4 : c * b ≤ 1000000000000) (t1 : 0 ≤ t) (t2 : t ≤ 1000) (ha : 0 ≤ a) (hc : 0 ≤ c) (hu : 0 < u) (hv : 0 < v) :
    (0 ≤ a * v ∧ a * v ≤ 1000000000000 ∧ 0 ≤ c * u ∧ c * u ≤ 1000000000000) ∧ (0 ≤ a * v * (1000 - t) ∧ a * v * (1000 - t) ≤ 1000000000000000) ∧ (0 ≤ c * u * t ∧ c * u * t ≤ 1000000000000000) ∧ (0 < u * d * 1000 ∧ u * d * 1000 ≤ 1000000000000000) ∧
    (loN (mixN a b c d t) (mixD b d) = loN (a * v * (1000 - t) + c * u * t) (u * d * 1000) ∧ loD (mixN a b c d t) (mixD b d) = loD (a * v * (1000 - t) + c * u * t) (u * d * 1000) ∧ loB (mixN a b c d t) (mixD b d) = loB (a * v * (1000 - t) + c * u * t) (u * d * 1000)) := by
  have le1 : ∀ x : Int, 0 ≤ x → x ≤ g * x := fun x hx => by
    have : 1 * x ≤ g * x := Int.mul_le_mul_of_nonneg_right (by omega) hx
    omega
  have p1 : 0 ≤ a * v := Int.mul_nonneg ha (by omega)
  have p2 : 0 ≤ c * u := Int.mul_nonneg hc (by omega)
  have e1 : g * (a * v) = a * d := by rw [← vd]; ac_rfl
  have e2 : g * (c * u) = c * b := by rw [← ub]; ac_rfl
  have q1 := le1 _ p1
  have q2 := le1 _ p2
  have d0 : 0 < d := by rw [← vd]; exact Int.mul_pos g0 hv
  have p3 : 0 < u * d := Int.mul_pos hu d0
  have e3 : g * (u * d * 1000) = mixD b d := by rw [mixD, ← ub]; ac_rfl
  have eN : g * (a * v * (1000 - t) + c * u * t) = mixN a b c d t := by rw [mixN, ← e1, ← e2, Int.mul_add, Int.mul_assoc g, Int.mul_assoc g (c * u)]
  have q3 := le1 (u * d * 1000) (by omega)
  have n1 := mul_bd p1 (show a * v ≤ 1000000000000 by omega) (show 0 ≤ 1000 - t by omega) (show 1000 - t ≤ 1000 by omega)
  have n2 := mul_bd p2 (show c * u ≤ 1000000000000 by omega) t1 t2
  refine ⟨⟨p1, by omega, p2, by omega⟩, ⟨n1.1, by omega⟩, ⟨n2.1, by omega⟩, ⟨by omega, by omega⟩, ?_⟩
  rw [← eN, ← e3]
  exact ⟨(lo_scale g0).1, (lo_scale g0).2, lo_scaleB g0⟩
theorem mixV_1 {a b c d t : Int} (hs : (shB a b && shB c d) = false) : mixV a b c d t = (0, 0, 1) := by rw [mixV, if_pos hs]
theorem mixV_2 {a b c d t : Int} (hs : (shB a b && shB c d) = true) (ht : wB t 0 1000 = false) : mixV a b c d t = (0, 0, 2) := by rw [mixV, if_neg (by rw [hs]; simp), if_pos ht]
theorem mixV_3 {a b c d t : Int} (hs : (shB a b && shB c d) = true) (ht : wB t 0 1000 = true) (hf : fitsB [a, b, c, d] 2 = false) : mixV a b c d t = (0, 0, 3) := by rw [mixV, if_neg (by rw [hs]; simp), if_neg (by rw [ht]; simp), if_pos hf]
theorem mixV_4 {a b c d t : Int} (hs : (shB a b && shB c d) = true) (ht : wB t 0 1000 = true) (hf : fitsB [a, b, c, d] 2 = true) (hl : loB (mixN a b c d t) (mixD b d) = false) : mixV a b c d t = (0, 0, 3) := by
  rw [mixV, if_neg (by rw [hs]; simp), if_neg (by rw [ht]; simp), if_neg (by rw [hf]; simp), if_pos hl]
theorem mixV_5 {a b c d t : Int} (hs : (shB a b && shB c d) = true) (ht : wB t 0 1000 = true) (hf : fitsB [a, b, c, d] 2 = true) (hl : loB (mixN a b c d t) (mixD b d) = true) : mixV a b c d t = (loN (mixN a b c d t) (mixD b d), loD (mixN a b c d t) (mixD b d), 0) := by
  rw [mixV, if_neg (by rw [hs]; simp), if_neg (by rw [ht]; simp), if_neg (by rw [hf]; simp), if_neg (by rw [hl]; simp)]
theorem ret_sh3 {v : Int × Int × Int} {n d c : Int} (h : v = (n, d, c)) : Ending.returned (.tuple #[shV n d, .int .i64 c]) = .returned (.tuple #[shV v.1 v.2.1, .int .i64 v.2.2]) := by rw [h]

set_option maxHeartbeats 1600000 in
theorem impl_MixPoints_any (a b c d t : Int) (w : World) : Calls Try.prog 17 #[shV a b, shV c d, .int .i64 t] w fun e w' => e = .returned (.tuple #[shV (mixV a b c d t).1 (mixV a b c d t).2.1, .int .i64 (mixV a b c d t).2.2]) ∧ Below w.heap.size w w' := by
  have HB0 := (((Below.refl w.heap.size w).alloc (Nat.le_refl _) (.cells #[.int .i64 a, .int .i64 b] 23)).alloc (by simp) (.cells #[.int .i64 c, .int .i64 d] 23)).alloc (by simp; omega) (.cells #[.int .i64 0, .int .i64 0] 23)
  have r0 := ((two_new w a b 23).alloc (.cells #[.int .i64 c, .int .i64 d] 23)).alloc (.cells #[.int .i64 0, .int .i64 0] 23)
  have r1 := (two_new (w.alloc (.cells #[.int .i64 a, .int .i64 b] 23)) c d 23).alloc (.cells #[.int .i64 0, .int .i64 0] 23)
  have r2 := two_new ((w.alloc (.cells #[.int .i64 a, .int .i64 b] 23)).alloc (.cells #[.int .i64 c, .int .i64 d] 23)) 0 0 23
  simp only [World.size_alloc] at r1 r2
  have R0 := Lib.hid r0
  have R1 := Lib.hid r1
  have R2 := Lib.hid r2
  clear r0 r1 r2
  cases hs1 : shB a b
  · have HV := Lib.hid (mixV_1 (t := t) (show (shB a b && shB c d) = false by rw [hs1]; rfl))
    go_enter Try.func17, Try.ntmps17
    go_wp2_with fail
    refine (impl_IsShare_any _ _ _).mono ?_
    rintro e v ⟨rfl, hb⟩
    rw [hs1]
    replace R0 := Lib.hid (rowIs_below R0.out hb R0.out.lt)
    replace R1 := Lib.hid (rowIs_below R1.out hb R1.out.lt)
    replace R2 := Lib.hid (rowIs_below R2.out hb R2.out.lt)
    replace HB0 := HB0.trans (hb.mono HB0.size)
    have z1 := hb.size
    simp only [World.size_alloc] at z1
    clear hb
    obtain ⟨a0, a1, _, _⟩ := two_cells R0.out
    obtain ⟨b0, b1, _, _⟩ := two_cells R1.out
    obtain ⟨q0, q1, g0, g1⟩ := two_cells R2.out
    go_wp2_with fail
    obtain ⟨p0, p1, _, _⟩ := two_cells (two_set R2.out 0 0)
    refine bodyPost_ret (v := .tuple #[shV 0 0, .int .i64 1]) (by simp [results, Try.results17, go_sem, p0, p1]) rfl ⟨ret_sh3 HV.out, (HB0.setCell (by simp; omega) _).setCell (by simp; omega) _⟩
  · cases hs2 : shB c d
    · have HV := Lib.hid (mixV_1 (t := t) (show (shB a b && shB c d) = false by rw [hs1, hs2]; rfl))
      go_enter Try.func17, Try.ntmps17
      go_wp2_with fail
      refine (impl_IsShare_any _ _ _).mono ?_
      rintro e v ⟨rfl, hb⟩
      rw [hs1]
      replace R0 := Lib.hid (rowIs_below R0.out hb R0.out.lt)
      replace R1 := Lib.hid (rowIs_below R1.out hb R1.out.lt)
      replace R2 := Lib.hid (rowIs_below R2.out hb R2.out.lt)
      replace HB0 := HB0.trans (hb.mono HB0.size)
      have z1 := hb.size
      simp only [World.size_alloc] at z1
      clear hb
      obtain ⟨a0, a1, _, _⟩ := two_cells R0.out
      obtain ⟨b0, b1, _, _⟩ := two_cells R1.out
      obtain ⟨q0, q1, g0, g1⟩ := two_cells R2.out
      go_wp2_with fail
      clear a0 a1 b0 b1 q0 q1 g0 g1
      refine (impl_IsShare_any _ _ _).mono ?_
      rintro e v2 ⟨rfl, hb⟩
      rw [hs2]
      replace R0 := Lib.hid (rowIs_below R0.out hb R0.out.lt)
      replace R1 := Lib.hid (rowIs_below R1.out hb R1.out.lt)
      replace R2 := Lib.hid (rowIs_below R2.out hb R2.out.lt)
      replace HB0 := HB0.trans (hb.mono HB0.size)
      have z2 := hb.size
      clear hb
      obtain ⟨a0, a1, _, _⟩ := two_cells R0.out
      obtain ⟨b0, b1, _, _⟩ := two_cells R1.out
      obtain ⟨q0, q1, g0, g1⟩ := two_cells R2.out
      go_wp2_with fail
      obtain ⟨p0, p1, _, _⟩ := two_cells (two_set R2.out 0 0)
      refine bodyPost_ret (v := .tuple #[shV 0 0, .int .i64 1]) (by simp [results, Try.results17, go_sem, p0, p1]) rfl ⟨ret_sh3 HV.out, (HB0.setCell (by simp; omega) _).setCell (by simp; omega) _⟩
    · have HS := Lib.hid (show (shB a b && shB c d) = true by rw [hs1, hs2]; rfl)
      cases ht : wB t 0 1000
      · have HV := Lib.hid (mixV_2 HS.out ht)
        go_enter Try.func17, Try.ntmps17
        go_wp2_with fail
        refine (impl_IsShare_any _ _ _).mono ?_
        rintro e v ⟨rfl, hb⟩
        rw [hs1]
        replace R0 := Lib.hid (rowIs_below R0.out hb R0.out.lt)
        replace R1 := Lib.hid (rowIs_below R1.out hb R1.out.lt)
        replace R2 := Lib.hid (rowIs_below R2.out hb R2.out.lt)
        replace HB0 := HB0.trans (hb.mono HB0.size)
        have z1 := hb.size
        simp only [World.size_alloc] at z1
        clear hb
        obtain ⟨a0, a1, _, _⟩ := two_cells R0.out
        obtain ⟨b0, b1, _, _⟩ := two_cells R1.out
        obtain ⟨q0, q1, g0, g1⟩ := two_cells R2.out
        go_wp2_with fail
        clear a0 a1 b0 b1 q0 q1 g0 g1
        refine (impl_IsShare_any _ _ _).mono ?_
        rintro e v2 ⟨rfl, hb⟩
        rw [hs2]
        replace R0 := Lib.hid (rowIs_below R0.out hb R0.out.lt)
        replace R1 := Lib.hid (rowIs_below R1.out hb R1.out.lt)
        replace R2 := Lib.hid (rowIs_below R2.out hb R2.out.lt)
        replace HB0 := HB0.trans (hb.mono HB0.size)
        have z2 := hb.size
        clear hb
        obtain ⟨a0, a1, _, _⟩ := two_cells R0.out
        obtain ⟨b0, b1, _, _⟩ := two_cells R1.out
        obtain ⟨q0, q1, g0, g1⟩ := two_cells R2.out
        go_wp2_with fail
        refine (within_any _ _ _ _).mono ?_
        rintro e v3 ⟨rfl, rfl⟩
        rw [ht]
        go_wp2_with fail
        obtain ⟨p0, p1, _, _⟩ := two_cells (two_set R2.out 0 0)
        refine bodyPost_ret (v := .tuple #[shV 0 0, .int .i64 2]) (by simp [results, Try.results17, go_sem, p0, p1]) rfl ⟨ret_sh3 HV.out, (HB0.setCell (by simp; omega) _).setCell (by simp; omega) _⟩
      · cases hf : fitsB [a, b, c, d] 2
        · have HV := Lib.hid (mixV_3 HS.out ht hf)
          go_enter Try.func17, Try.ntmps17
          go_wp2_with fail
          refine (impl_IsShare_any _ _ _).mono ?_
          rintro e v ⟨rfl, hb⟩
          rw [hs1]
          replace R0 := Lib.hid (rowIs_below R0.out hb R0.out.lt)
          replace R1 := Lib.hid (rowIs_below R1.out hb R1.out.lt)
          replace R2 := Lib.hid (rowIs_below R2.out hb R2.out.lt)
          replace HB0 := HB0.trans (hb.mono HB0.size)
          have z1 := hb.size
          simp only [World.size_alloc] at z1
          clear hb
          obtain ⟨a0, a1, _, _⟩ := two_cells R0.out
          obtain ⟨b0, b1, _, _⟩ := two_cells R1.out
          obtain ⟨q0, q1, g0, g1⟩ := two_cells R2.out
          go_wp2_with fail
          clear a0 a1 b0 b1 q0 q1 g0 g1
          refine (impl_IsShare_any _ _ _).mono ?_
          rintro e v2 ⟨rfl, hb⟩
          rw [hs2]
          replace R0 := Lib.hid (rowIs_below R0.out hb R0.out.lt)
          replace R1 := Lib.hid (rowIs_below R1.out hb R1.out.lt)
          replace R2 := Lib.hid (rowIs_below R2.out hb R2.out.lt)
          replace HB0 := HB0.trans (hb.mono HB0.size)
          have z2 := hb.size
          clear hb
          obtain ⟨a0, a1, _, _⟩ := two_cells R0.out
          obtain ⟨b0, b1, _, _⟩ := two_cells R1.out
          obtain ⟨q0, q1, g0, g1⟩ := two_cells R2.out
          go_wp2_with fail
          refine (within_any _ _ _ _).mono ?_
          rintro e v3 ⟨rfl, rfl⟩
          rw [ht]
          go_wp2_with fail
          have hb := (Below.refl v2.heap.size v2).alloc (Nat.le_refl _) (.cells #[.int .i64 a, .int .i64 b, .int .i64 c, .int .i64 d] 23)
          replace R0 := Lib.hid (rowIs_below R0.out hb R0.out.lt)
          replace R1 := Lib.hid (rowIs_below R1.out hb R1.out.lt)
          replace R2 := Lib.hid (rowIs_below R2.out hb R2.out.lt)
          replace HB0 := HB0.trans (hb.mono HB0.size)
          clear hb
          clear a0 a1 b0 b1 q0 q1 g0 g1
          refine (smallDens_any _ 2 _ _ _ _ (four_ints v2 a b c d _) (by simp) (by omega) (by omega)).mono ?_
          rintro e v4 ⟨rfl, hb⟩
          rw [hf]
          replace R0 := Lib.hid (rowIs_below R0.out hb R0.out.lt)
          replace R1 := Lib.hid (rowIs_below R1.out hb R1.out.lt)
          replace R2 := Lib.hid (rowIs_below R2.out hb R2.out.lt)
          replace HB0 := HB0.trans (hb.mono HB0.size)
          have z4 := hb.size
          simp only [World.size_alloc] at z4
          clear hb
          obtain ⟨a0, a1, _, _⟩ := two_cells R0.out
          obtain ⟨b0, b1, _, _⟩ := two_cells R1.out
          obtain ⟨q0, q1, g0, g1⟩ := two_cells R2.out
          go_wp2_with fail
          obtain ⟨p0, p1, _, _⟩ := two_cells (two_set R2.out 0 0)
          refine bodyPost_ret (v := .tuple #[shV 0 0, .int .i64 3]) (by simp [results, Try.results17, go_sem, p0, p1]) rfl ⟨ret_sh3 HV.out, (HB0.setCell (by simp; omega) _).setCell (by simp; omega) _⟩
        · obtain ⟨⟨m1, m2⟩, ⟨m3, m4⟩, ⟨m5, m6⟩, ⟨m7, m8⟩, ⟨m9, m10⟩, m11, m12⟩ := mix_facts HS.out ht hf
          obtain ⟨t1, t2⟩ := wB_true.1 ht
          obtain ⟨bb1, bb2, aa1, aa2, _⟩ := shB_out hs1
          obtain ⟨dd1, dd2, cc1, cc2, _⟩ := shB_out hs2
          have fb : b ≤ 1000000 := by simp only [fitsB, Bool.and_eq_true, Bool.true_and] at hf; exact of_decide_eq_true hf.1
          have fd : d ≤ 1000000 := by simp only [fitsB, Bool.and_eq_true, Bool.true_and] at hf; exact of_decide_eq_true hf.2
          have MK := Lib.hid (fun W => makeShare_in (mixN a b c d t) (mixD b d) W m9 m11 m10 (by omega))
          have m13 : 0 ≤ 1000 * b * d := by unfold mixD at m11; omega
          have m14 : 1000 * b * d ≤ 1000000000000000 := m12
          cases hl : loB (mixN a b c d t) (mixD b d)
          · have HV := Lib.hid (mixV_4 HS.out ht hf hl)
            obtain ⟨NN, hNN⟩ : ∃ x, loN (mixN a b c d t) (mixD b d) = x := ⟨_, rfl⟩
            obtain ⟨DD, hDD⟩ : ∃ x, loD (mixN a b c d t) (mixD b d) = x := ⟨_, rfl⟩
            rw [hl, hNN, hDD] at MK
            clear hNN hDD
            simp only [mixN, mixD] at m9 m10 m11 m12 MK
            go_enter Try.func17, Try.ntmps17
            go_wp2_with fail
            refine (impl_IsShare_any _ _ _).mono ?_
            rintro e v ⟨rfl, hb⟩
            rw [hs1]
            replace R0 := Lib.hid (rowIs_below R0.out hb R0.out.lt)
            replace R1 := Lib.hid (rowIs_below R1.out hb R1.out.lt)
            replace R2 := Lib.hid (rowIs_below R2.out hb R2.out.lt)
            replace HB0 := HB0.trans (hb.mono HB0.size)
            have z1 := hb.size
            simp only [World.size_alloc] at z1
            clear hb
            obtain ⟨a0, a1, _, _⟩ := two_cells R0.out
            obtain ⟨b0, b1, _, _⟩ := two_cells R1.out
            obtain ⟨q0, q1, g0, g1⟩ := two_cells R2.out
            go_wp2_with fail
            clear a0 a1 b0 b1 q0 q1 g0 g1
            refine (impl_IsShare_any _ _ _).mono ?_
            rintro e v2 ⟨rfl, hb⟩
            rw [hs2]
            replace R0 := Lib.hid (rowIs_below R0.out hb R0.out.lt)
            replace R1 := Lib.hid (rowIs_below R1.out hb R1.out.lt)
            replace R2 := Lib.hid (rowIs_below R2.out hb R2.out.lt)
            replace HB0 := HB0.trans (hb.mono HB0.size)
            have z2 := hb.size
            clear hb
            obtain ⟨a0, a1, _, _⟩ := two_cells R0.out
            obtain ⟨b0, b1, _, _⟩ := two_cells R1.out
            obtain ⟨q0, q1, g0, g1⟩ := two_cells R2.out
            go_wp2_with fail
            refine (within_any _ _ _ _).mono ?_
            rintro e v3 ⟨rfl, rfl⟩
            rw [ht]
            go_wp2_with fail
            have hb := (Below.refl v2.heap.size v2).alloc (Nat.le_refl _) (.cells #[.int .i64 a, .int .i64 b, .int .i64 c, .int .i64 d] 23)
            replace R0 := Lib.hid (rowIs_below R0.out hb R0.out.lt)
            replace R1 := Lib.hid (rowIs_below R1.out hb R1.out.lt)
            replace R2 := Lib.hid (rowIs_below R2.out hb R2.out.lt)
            replace HB0 := HB0.trans (hb.mono HB0.size)
            clear hb
            clear a0 a1 b0 b1 q0 q1 g0 g1
            refine (smallDens_any _ 2 _ _ _ _ (four_ints v2 a b c d _) (by simp) (by omega) (by omega)).mono ?_
            rintro e v4 ⟨rfl, hb⟩
            rw [hf]
            replace R0 := Lib.hid (rowIs_below R0.out hb R0.out.lt)
            replace R1 := Lib.hid (rowIs_below R1.out hb R1.out.lt)
            replace R2 := Lib.hid (rowIs_below R2.out hb R2.out.lt)
            replace HB0 := HB0.trans (hb.mono HB0.size)
            have z4 := hb.size
            simp only [World.size_alloc] at z4
            clear hb
            obtain ⟨a0, a1, _, _⟩ := two_cells R0.out
            obtain ⟨b0, b1, _, _⟩ := two_cells R1.out
            obtain ⟨q0, q1, g0, g1⟩ := two_cells R2.out
            go_wp2_with fail
            refine (MK.out _).mono ?_
            rintro e v5 ⟨rfl, hb⟩
            replace R0 := Lib.hid (rowIs_below R0.out hb R0.out.lt)
            replace R1 := Lib.hid (rowIs_below R1.out hb R1.out.lt)
            replace R2 := Lib.hid (rowIs_below R2.out hb R2.out.lt)
            replace HB0 := HB0.trans (hb.mono HB0.size)
            have z5 := hb.size
            clear hb a0 a1 b0 b1 q0 q1 g0 g1
            obtain ⟨a0, a1, _, _⟩ := two_cells R0.out
            obtain ⟨b0, b1, _, _⟩ := two_cells R1.out
            obtain ⟨q0, q1, g0, g1⟩ := two_cells R2.out
            have zz : w.heap.size + 1 + 1 < v5.heap.size := R2.out.lt
            go_wp2_with fail
            obtain ⟨p0, p1, _, _⟩ := two_cells ((two_set R2.out 0 0).alloc (.cells #[.int .i64 NN, .int .i64 DD] 23))
            refine bodyPost_ret (v := .tuple #[shV 0 0, .int .i64 3]) (by simp [results, Try.results17, go_sem, p0, p1]) rfl ⟨ret_sh3 HV.out, ?_⟩
            exact ((HB0.setCell (by simp; omega) _).setCell (by simp; omega) _).alloc (by have := HB0.size; simp [World.setCell]; omega) _
          · have HV := Lib.hid (mixV_5 HS.out ht hf hl)
            obtain ⟨NN, hNN⟩ : ∃ x, loN (mixN a b c d t) (mixD b d) = x := ⟨_, rfl⟩
            obtain ⟨DD, hDD⟩ : ∃ x, loD (mixN a b c d t) (mixD b d) = x := ⟨_, rfl⟩
            rw [hl, hNN, hDD] at MK
            rw [hNN, hDD] at HV
            clear hNN hDD
            simp only [mixN, mixD] at m9 m10 m11 m12 MK
            go_enter Try.func17, Try.ntmps17
            go_wp2_with fail
            refine (impl_IsShare_any _ _ _).mono ?_
            rintro e v ⟨rfl, hb⟩
            rw [hs1]
            replace R0 := Lib.hid (rowIs_below R0.out hb R0.out.lt)
            replace R1 := Lib.hid (rowIs_below R1.out hb R1.out.lt)
            replace R2 := Lib.hid (rowIs_below R2.out hb R2.out.lt)
            replace HB0 := HB0.trans (hb.mono HB0.size)
            have z1 := hb.size
            simp only [World.size_alloc] at z1
            clear hb
            obtain ⟨a0, a1, _, _⟩ := two_cells R0.out
            obtain ⟨b0, b1, _, _⟩ := two_cells R1.out
            obtain ⟨q0, q1, g0, g1⟩ := two_cells R2.out
            go_wp2_with fail
            clear a0 a1 b0 b1 q0 q1 g0 g1
            refine (impl_IsShare_any _ _ _).mono ?_
            rintro e v2 ⟨rfl, hb⟩
            rw [hs2]
            replace R0 := Lib.hid (rowIs_below R0.out hb R0.out.lt)
            replace R1 := Lib.hid (rowIs_below R1.out hb R1.out.lt)
            replace R2 := Lib.hid (rowIs_below R2.out hb R2.out.lt)
            replace HB0 := HB0.trans (hb.mono HB0.size)
            have z2 := hb.size
            clear hb
            obtain ⟨a0, a1, _, _⟩ := two_cells R0.out
            obtain ⟨b0, b1, _, _⟩ := two_cells R1.out
            obtain ⟨q0, q1, g0, g1⟩ := two_cells R2.out
            go_wp2_with fail
            refine (within_any _ _ _ _).mono ?_
            rintro e v3 ⟨rfl, rfl⟩
            rw [ht]
            go_wp2_with fail
            have hb := (Below.refl v2.heap.size v2).alloc (Nat.le_refl _) (.cells #[.int .i64 a, .int .i64 b, .int .i64 c, .int .i64 d] 23)
            replace R0 := Lib.hid (rowIs_below R0.out hb R0.out.lt)
            replace R1 := Lib.hid (rowIs_below R1.out hb R1.out.lt)
            replace R2 := Lib.hid (rowIs_below R2.out hb R2.out.lt)
            replace HB0 := HB0.trans (hb.mono HB0.size)
            clear hb
            clear a0 a1 b0 b1 q0 q1 g0 g1
            refine (smallDens_any _ 2 _ _ _ _ (four_ints v2 a b c d _) (by simp) (by omega) (by omega)).mono ?_
            rintro e v4 ⟨rfl, hb⟩
            rw [hf]
            replace R0 := Lib.hid (rowIs_below R0.out hb R0.out.lt)
            replace R1 := Lib.hid (rowIs_below R1.out hb R1.out.lt)
            replace R2 := Lib.hid (rowIs_below R2.out hb R2.out.lt)
            replace HB0 := HB0.trans (hb.mono HB0.size)
            have z4 := hb.size
            simp only [World.size_alloc] at z4
            clear hb
            obtain ⟨a0, a1, _, _⟩ := two_cells R0.out
            obtain ⟨b0, b1, _, _⟩ := two_cells R1.out
            obtain ⟨q0, q1, g0, g1⟩ := two_cells R2.out
            go_wp2_with fail
            refine (MK.out _).mono ?_
            rintro e v5 ⟨rfl, hb⟩
            replace R0 := Lib.hid (rowIs_below R0.out hb R0.out.lt)
            replace R1 := Lib.hid (rowIs_below R1.out hb R1.out.lt)
            replace R2 := Lib.hid (rowIs_below R2.out hb R2.out.lt)
            replace HB0 := HB0.trans (hb.mono HB0.size)
            have z5 := hb.size
            clear hb a0 a1 b0 b1 q0 q1 g0 g1
            obtain ⟨a0, a1, _, _⟩ := two_cells R0.out
            obtain ⟨b0, b1, _, _⟩ := two_cells R1.out
            obtain ⟨q0, q1, g0, g1⟩ := two_cells R2.out
            have zz : w.heap.size + 1 + 1 < v5.heap.size := R2.out.lt
            go_wp2_with fail
            obtain ⟨p0, p1, _, _⟩ := two_cells ((two_set R2.out NN DD).alloc (.cells #[.int .i64 NN, .int .i64 DD] 23))
            refine bodyPost_ret (v := .tuple #[shV NN DD, .int .i64 0]) (by simp [results, Try.results17, go_sem, p0, p1]) rfl ⟨ret_sh3 HV.out, ?_⟩
            exact ((HB0.setCell (by simp; omega) _).setCell (by simp; omega) _).alloc (by have := HB0.size; simp [World.setCell]; omega) _

set_option maxHeartbeats 1600000 in
theorem spec_MixPoints_any (a b c d t : Int) (w : World) : Calls Try.prog 15 #[shV a b, shV c d, .int .i64 t] w fun e w' => e = .returned (.tuple #[shV (mixV a b c d t).1 (mixV a b c d t).2.1, .int .i64 (mixV a b c d t).2.2]) ∧ Below w.heap.size w w' := by
  have HB0 := (((Below.refl w.heap.size w).alloc (Nat.le_refl _) (.cells #[.int .i64 a, .int .i64 b] 23)).alloc (by simp) (.cells #[.int .i64 c, .int .i64 d] 23)).alloc (by simp; omega) (.cells #[.int .i64 0, .int .i64 0] 23)
  have r0 := ((two_new w a b 23).alloc (.cells #[.int .i64 c, .int .i64 d] 23)).alloc (.cells #[.int .i64 0, .int .i64 0] 23)
  have r1 := (two_new (w.alloc (.cells #[.int .i64 a, .int .i64 b] 23)) c d 23).alloc (.cells #[.int .i64 0, .int .i64 0] 23)
  have r2 := two_new ((w.alloc (.cells #[.int .i64 a, .int .i64 b] 23)).alloc (.cells #[.int .i64 c, .int .i64 d] 23)) 0 0 23
  simp only [World.size_alloc] at r1 r2
  have R0 := Lib.hid r0
  have R1 := Lib.hid r1
  have R2 := Lib.hid r2
  clear r0 r1 r2
  cases hs1 : shB a b
  · have HV := Lib.hid (mixV_1 (t := t) (show (shB a b && shB c d) = false by rw [hs1]; rfl))
    go_enter Try.func15, Try.ntmps15
    go_wp2_with fail
    refine (spec_IsShare_any _ _ _).mono ?_
    rintro e v ⟨rfl, hb⟩
    rw [hs1]
    replace R0 := Lib.hid (rowIs_below R0.out hb R0.out.lt)
    replace R1 := Lib.hid (rowIs_below R1.out hb R1.out.lt)
    replace R2 := Lib.hid (rowIs_below R2.out hb R2.out.lt)
    replace HB0 := HB0.trans (hb.mono HB0.size)
    have z1 := hb.size
    simp only [World.size_alloc] at z1
    clear hb
    obtain ⟨a0, a1, _, _⟩ := two_cells R0.out
    obtain ⟨b0, b1, _, _⟩ := two_cells R1.out
    obtain ⟨q0, q1, g0, g1⟩ := two_cells R2.out
    go_wp2_with fail
    obtain ⟨p0, p1, _, _⟩ := two_cells (two_set R2.out 0 0)
    refine bodyPost_ret (v := .tuple #[shV 0 0, .int .i64 1]) (by simp [results, Try.results15, go_sem, p0, p1]) rfl ⟨ret_sh3 HV.out, (HB0.setCell (by simp; omega) _).setCell (by simp; omega) _⟩
  · cases hs2 : shB c d
    · have HV := Lib.hid (mixV_1 (t := t) (show (shB a b && shB c d) = false by rw [hs1, hs2]; rfl))
      go_enter Try.func15, Try.ntmps15
      go_wp2_with fail
      refine (spec_IsShare_any _ _ _).mono ?_
      rintro e v ⟨rfl, hb⟩
      rw [hs1]
      replace R0 := Lib.hid (rowIs_below R0.out hb R0.out.lt)
      replace R1 := Lib.hid (rowIs_below R1.out hb R1.out.lt)
      replace R2 := Lib.hid (rowIs_below R2.out hb R2.out.lt)
      replace HB0 := HB0.trans (hb.mono HB0.size)
      have z1 := hb.size
      simp only [World.size_alloc] at z1
      clear hb
      obtain ⟨a0, a1, _, _⟩ := two_cells R0.out
      obtain ⟨b0, b1, _, _⟩ := two_cells R1.out
      obtain ⟨q0, q1, g0, g1⟩ := two_cells R2.out
      go_wp2_with fail
      clear a0 a1 b0 b1 q0 q1 g0 g1
      refine (spec_IsShare_any _ _ _).mono ?_
      rintro e v2 ⟨rfl, hb⟩
      rw [hs2]
      replace R0 := Lib.hid (rowIs_below R0.out hb R0.out.lt)
      replace R1 := Lib.hid (rowIs_below R1.out hb R1.out.lt)
      replace R2 := Lib.hid (rowIs_below R2.out hb R2.out.lt)
      replace HB0 := HB0.trans (hb.mono HB0.size)
      have z2 := hb.size
      clear hb
      obtain ⟨a0, a1, _, _⟩ := two_cells R0.out
      obtain ⟨b0, b1, _, _⟩ := two_cells R1.out
      obtain ⟨q0, q1, g0, g1⟩ := two_cells R2.out
      go_wp2_with fail
      obtain ⟨p0, p1, _, _⟩ := two_cells (two_set R2.out 0 0)
      refine bodyPost_ret (v := .tuple #[shV 0 0, .int .i64 1]) (by simp [results, Try.results15, go_sem, p0, p1]) rfl ⟨ret_sh3 HV.out, (HB0.setCell (by simp; omega) _).setCell (by simp; omega) _⟩
    · have HS := Lib.hid (show (shB a b && shB c d) = true by rw [hs1, hs2]; rfl)
      cases ht : wB t 0 1000
      · have HV := Lib.hid (mixV_2 HS.out ht)
        go_enter Try.func15, Try.ntmps15
        go_wp2_with fail
        refine (spec_IsShare_any _ _ _).mono ?_
        rintro e v ⟨rfl, hb⟩
        rw [hs1]
        replace R0 := Lib.hid (rowIs_below R0.out hb R0.out.lt)
        replace R1 := Lib.hid (rowIs_below R1.out hb R1.out.lt)
        replace R2 := Lib.hid (rowIs_below R2.out hb R2.out.lt)
        replace HB0 := HB0.trans (hb.mono HB0.size)
        have z1 := hb.size
        simp only [World.size_alloc] at z1
        clear hb
        obtain ⟨a0, a1, _, _⟩ := two_cells R0.out
        obtain ⟨b0, b1, _, _⟩ := two_cells R1.out
        obtain ⟨q0, q1, g0, g1⟩ := two_cells R2.out
        go_wp2_with fail
        clear a0 a1 b0 b1 q0 q1 g0 g1
        refine (spec_IsShare_any _ _ _).mono ?_
        rintro e v2 ⟨rfl, hb⟩
        rw [hs2]
        replace R0 := Lib.hid (rowIs_below R0.out hb R0.out.lt)
        replace R1 := Lib.hid (rowIs_below R1.out hb R1.out.lt)
        replace R2 := Lib.hid (rowIs_below R2.out hb R2.out.lt)
        replace HB0 := HB0.trans (hb.mono HB0.size)
        have z2 := hb.size
        clear hb
        obtain ⟨a0, a1, _, _⟩ := two_cells R0.out
        obtain ⟨b0, b1, _, _⟩ := two_cells R1.out
        obtain ⟨q0, q1, g0, g1⟩ := two_cells R2.out
        go_wp2_with fail
        refine (l01In_any _ _ _ _).mono ?_
        rintro e v3 ⟨rfl, rfl⟩
        rw [ht]
        go_wp2_with fail
        obtain ⟨p0, p1, _, _⟩ := two_cells (two_set R2.out 0 0)
        refine bodyPost_ret (v := .tuple #[shV 0 0, .int .i64 2]) (by simp [results, Try.results15, go_sem, p0, p1]) rfl ⟨ret_sh3 HV.out, (HB0.setCell (by simp; omega) _).setCell (by simp; omega) _⟩
      · cases hf : fitsB [a, b, c, d] 2
        · have HV := Lib.hid (mixV_3 HS.out ht hf)
          go_enter Try.func15, Try.ntmps15
          go_wp2_with fail
          refine (spec_IsShare_any _ _ _).mono ?_
          rintro e v ⟨rfl, hb⟩
          rw [hs1]
          replace R0 := Lib.hid (rowIs_below R0.out hb R0.out.lt)
          replace R1 := Lib.hid (rowIs_below R1.out hb R1.out.lt)
          replace R2 := Lib.hid (rowIs_below R2.out hb R2.out.lt)
          replace HB0 := HB0.trans (hb.mono HB0.size)
          have z1 := hb.size
          simp only [World.size_alloc] at z1
          clear hb
          obtain ⟨a0, a1, _, _⟩ := two_cells R0.out
          obtain ⟨b0, b1, _, _⟩ := two_cells R1.out
          obtain ⟨q0, q1, g0, g1⟩ := two_cells R2.out
          go_wp2_with fail
          clear a0 a1 b0 b1 q0 q1 g0 g1
          refine (spec_IsShare_any _ _ _).mono ?_
          rintro e v2 ⟨rfl, hb⟩
          rw [hs2]
          replace R0 := Lib.hid (rowIs_below R0.out hb R0.out.lt)
          replace R1 := Lib.hid (rowIs_below R1.out hb R1.out.lt)
          replace R2 := Lib.hid (rowIs_below R2.out hb R2.out.lt)
          replace HB0 := HB0.trans (hb.mono HB0.size)
          have z2 := hb.size
          clear hb
          obtain ⟨a0, a1, _, _⟩ := two_cells R0.out
          obtain ⟨b0, b1, _, _⟩ := two_cells R1.out
          obtain ⟨q0, q1, g0, g1⟩ := two_cells R2.out
          go_wp2_with fail
          refine (l01In_any _ _ _ _).mono ?_
          rintro e v3 ⟨rfl, rfl⟩
          rw [ht]
          go_wp2_with fail
          have hb := (Below.refl v2.heap.size v2).alloc (Nat.le_refl _) (.cells #[.int .i64 a, .int .i64 b, .int .i64 c, .int .i64 d] 23)
          replace R0 := Lib.hid (rowIs_below R0.out hb R0.out.lt)
          replace R1 := Lib.hid (rowIs_below R1.out hb R1.out.lt)
          replace R2 := Lib.hid (rowIs_below R2.out hb R2.out.lt)
          replace HB0 := HB0.trans (hb.mono HB0.size)
          clear hb
          clear a0 a1 b0 b1 q0 q1 g0 g1
          refine (l19Fits_any _ 2 _ _ _ _ (four_ints v2 a b c d _) (by omega) (by omega)).mono ?_
          rintro e v4 ⟨rfl, rfl⟩
          rw [hf]
          obtain ⟨a0, a1, _, _⟩ := two_cells R0.out
          obtain ⟨b0, b1, _, _⟩ := two_cells R1.out
          obtain ⟨q0, q1, g0, g1⟩ := two_cells R2.out
          go_wp2_with fail
          obtain ⟨p0, p1, _, _⟩ := two_cells (two_set R2.out 0 0)
          refine bodyPost_ret (v := .tuple #[shV 0 0, .int .i64 3]) (by simp [results, Try.results15, go_sem, p0, p1]) rfl ⟨ret_sh3 HV.out, (HB0.setCell (by simp; omega) _).setCell (by simp; omega) _⟩
        · obtain ⟨⟨m1, m2⟩, ⟨m3, m4⟩, ⟨m5, m6⟩, ⟨m7, m8⟩, ⟨m9, m10⟩, m11, m12⟩ := mix_facts HS.out ht hf
          obtain ⟨t1, t2⟩ := wB_true.1 ht
          obtain ⟨bb1, bb2, aa1, aa2, _⟩ := shB_out hs1
          obtain ⟨dd1, dd2, cc1, cc2, _⟩ := shB_out hs2
          have fb : b ≤ 1000000 := by simp only [fitsB, Bool.and_eq_true, Bool.true_and] at hf; exact of_decide_eq_true hf.1
          have fd : d ≤ 1000000 := by simp only [fitsB, Bool.and_eq_true, Bool.true_and] at hf; exact of_decide_eq_true hf.2
          obtain ⟨g, u, y, hg, gg0, ub, vd, u0, u1, vv0, vv1⟩ := gcd_parts (b := b) (d := d) (by omega) (by omega)
          have HGC := Lib.hid hg
          obtain ⟨s1, s2, s3, s4, s5⟩ := mix_small (a := a) (b := b) (c := c) (d := d) (t := t) gg0 ub vd m9 m10 m11 m12 m1 m2 m3 m4 t1 t2 (by omega) (by omega) (by omega) (by omega)
          have EU := Lib.hid (show b / g = u by rw [← ub, Int.mul_ediv_cancel_left _ (by omega)])
          have EV := Lib.hid (show d / g = y by rw [← vd, Int.mul_ediv_cancel_left _ (by omega)])
          obtain ⟨k1, k2, k3, k4⟩ := s1
          obtain ⟨k5, k6⟩ := s2
          obtain ⟨k7, k8⟩ := s3
          obtain ⟨k9, k10⟩ := s4
          have MK := Lib.hid (fun W => l18Make_any (a * y * (1000 - t) + c * u * t) (u * d * 1000) W (by omega) k9 (by omega) (by omega))
          have ES := Lib.hid s5
          clear s5 hg ub vd
          cases hl : loB (mixN a b c d t) (mixD b d)
          · have HV := Lib.hid (mixV_4 HS.out ht hf hl)
            have MK2 : Hid (∀ W, Calls Try.prog 24 #[.int .i64 (a * y * (1000 - t) + c * u * t), .int .i64 (u * d * 1000)] W fun e w' => e = .returned (.tuple #[shV (loN (mixN a b c d t) (mixD b d)) (loD (mixN a b c d t) (mixD b d)), .bool false]) ∧ Below W.heap.size W w') := fun W => (MK.out W).mono (fun e w' hq => ⟨hq.1.trans (by rw [← ES.out.1, ← ES.out.2.1, ← ES.out.2.2, hl]), hq.2⟩)
            obtain ⟨NN, hNN⟩ : ∃ x, loN (mixN a b c d t) (mixD b d) = x := ⟨_, rfl⟩
            obtain ⟨DD, hDD⟩ : ∃ x, loD (mixN a b c d t) (mixD b d) = x := ⟨_, rfl⟩
            rw [hNN, hDD] at MK2
            clear hNN hDD MK ES hl m9 m10 m11 m12
            go_enter Try.func15, Try.ntmps15
            go_wp2_with fail
            refine (spec_IsShare_any _ _ _).mono ?_
            rintro e v ⟨rfl, hb⟩
            rw [hs1]
            replace R0 := Lib.hid (rowIs_below R0.out hb R0.out.lt)
            replace R1 := Lib.hid (rowIs_below R1.out hb R1.out.lt)
            replace R2 := Lib.hid (rowIs_below R2.out hb R2.out.lt)
            replace HB0 := HB0.trans (hb.mono HB0.size)
            have z1 := hb.size
            simp only [World.size_alloc] at z1
            clear hb
            obtain ⟨a0, a1, _, _⟩ := two_cells R0.out
            obtain ⟨b0, b1, _, _⟩ := two_cells R1.out
            obtain ⟨q0, q1, g0, g1⟩ := two_cells R2.out
            go_wp2_with fail
            clear a0 a1 b0 b1 q0 q1 g0 g1
            refine (spec_IsShare_any _ _ _).mono ?_
            rintro e v2 ⟨rfl, hb⟩
            rw [hs2]
            replace R0 := Lib.hid (rowIs_below R0.out hb R0.out.lt)
            replace R1 := Lib.hid (rowIs_below R1.out hb R1.out.lt)
            replace R2 := Lib.hid (rowIs_below R2.out hb R2.out.lt)
            replace HB0 := HB0.trans (hb.mono HB0.size)
            have z2 := hb.size
            clear hb
            obtain ⟨a0, a1, _, _⟩ := two_cells R0.out
            obtain ⟨b0, b1, _, _⟩ := two_cells R1.out
            obtain ⟨q0, q1, g0, g1⟩ := two_cells R2.out
            go_wp2_with fail
            refine (l01In_any _ _ _ _).mono ?_
            rintro e v3 ⟨rfl, rfl⟩
            rw [ht]
            go_wp2_with fail
            have hb := (Below.refl v2.heap.size v2).alloc (Nat.le_refl _) (.cells #[.int .i64 a, .int .i64 b, .int .i64 c, .int .i64 d] 23)
            replace R0 := Lib.hid (rowIs_below R0.out hb R0.out.lt)
            replace R1 := Lib.hid (rowIs_below R1.out hb R1.out.lt)
            replace R2 := Lib.hid (rowIs_below R2.out hb R2.out.lt)
            replace HB0 := HB0.trans (hb.mono HB0.size)
            clear hb
            clear a0 a1 b0 b1 q0 q1 g0 g1
            refine (l19Fits_any _ 2 _ _ _ _ (four_ints v2 a b c d _) (by omega) (by omega)).mono ?_
            rintro e v4 ⟨rfl, rfl⟩
            rw [hf]
            obtain ⟨a0, a1, _, _⟩ := two_cells R0.out
            obtain ⟨b0, b1, _, _⟩ := two_cells R1.out
            obtain ⟨q0, q1, g0, g1⟩ := two_cells R2.out
            go_wp2_with fail
            refine (l18Gcd_any _ _ _ (by omega) (by omega)).mono ?_
            rintro e v5 ⟨rfl, rfl⟩
            rw [HGC.out]
            have eu := EU.out
            have ev := EV.out
            have eut : IntKind.i64.wrap (b.tdiv g) = u := by rw [Int.tdiv_eq_ediv_of_nonneg (by omega), EU.out]; exact IntWalk.i64_in _ (by omega)
            have evt : IntKind.i64.wrap (d.tdiv g) = y := by rw [Int.tdiv_eq_ediv_of_nonneg (by omega), EV.out]; exact IntWalk.i64_in _ (by omega)
            have w1 : IntKind.i64.wrap (a * y) = a * y := IntWalk.i64_in _ (by omega)
            have w2 : IntKind.i64.wrap (c * u) = c * u := IntWalk.i64_in _ (by omega)
            have w3 : IntKind.i64.wrap (1000 - t) = 1000 - t := IntWalk.i64_in _ (by omega)
            have w4 : IntKind.i64.wrap (a * y * (1000 - t)) = a * y * (1000 - t) := IntWalk.i64_in _ (by omega)
            have w5 : IntKind.i64.wrap (c * u * t) = c * u * t := IntWalk.i64_in _ (by omega)
            have w6 : IntKind.i64.wrap (a * y * (1000 - t) + c * u * t) = a * y * (1000 - t) + c * u * t := IntWalk.i64_in _ (by omega)
            have w7 : IntKind.i64.wrap (u * d) = u * d := IntWalk.i64_in _ (by omega)
            have w8 : IntKind.i64.wrap (u * d * 1000) = u * d * 1000 := IntWalk.i64_in _ (by omega)
            have g9 : (g == 0) = false := by simp; omega
            have g10 : ¬ g = 0 := by omega
            have w9 : IntKind.i64.wrap u = u := IntWalk.i64_in _ (by omega)
            go_wp2_with fail
            go_quiet (fail)
            go_wp2_with fail
            clear a0 a1 b0 b1 q0 q1 g0 g1
            obtain ⟨a0, a1, _, _⟩ := two_cells R0.out
            obtain ⟨b0, b1, _, _⟩ := two_cells R1.out
            go_region_held3 (fun w' => w'.cell? ⟨w.heap.size, 1, none⟩ = some (.int .i64 b) ∧ w'.cell? ⟨w.heap.size + 1, 1, none⟩ = some (.int .i64 d))
              (first | exact ⟨(two_cells ((S0.setOther (a := ⟨v2.heap.size + 1, 0, none⟩) (by first | (simp; done) | (simp; omega)) (.int .i64 NN)).setOther (a := ⟨v2.heap.size + 1, 1, none⟩) (by first | (simp; done) | (simp; omega)) (.int .i64 DD))).2.1, (two_cells ((S1.setOther (a := ⟨v2.heap.size + 1, 0, none⟩) (by first | (simp; done) | (simp; omega)) (.int .i64 NN)).setOther (a := ⟨v2.heap.size + 1, 1, none⟩) (by first | (simp; done) | (simp; omega)) (.int .i64 DD))).2.1⟩ | exact ⟨(two_cells (S0.alloc _)).2.1, (two_cells (S1.alloc _)).2.1⟩ | exact ⟨(two_cells S0).2.1, (two_cells S1).2.1⟩ | exact ⟨a1, b1⟩ | exact ⟨(two_cells (R0.out.alloc _)).2.1, (two_cells (R1.out.alloc _)).2.1⟩ | go_keep)
              ((go_at_call 24; refine (MK2.out _).mono ?_; rintro e v6 ⟨rfl, hb⟩; have S0 : v6.rowIs w.heap.size 23 2 (two a b) := (by refine rowIs_below ?_ hb (by first | (simp; done) | (simp; omega)); first | exact rowIs_drewN R0.out _ | exact (rowIs_drewN R0.out _).alloc _); have S1 : v6.rowIs (w.heap.size + 1) 23 2 (two c d) := (by refine rowIs_below ?_ hb (by first | (simp; done) | (simp; omega)); first | exact rowIs_drewN R1.out _ | exact (rowIs_drewN R1.out _).alloc _); have S2 : v6.rowIs (w.heap.size + 1 + 1) 23 2 (two 0 0) := (by refine rowIs_below ?_ hb (by first | (simp; done) | (simp; omega)); first | exact rowIs_drewN R2.out _ | exact (rowIs_drewN R2.out _).alloc _); have HB6 : Below w.heap.size w v6 := (by refine Below.trans ?_ (hb.mono (by have := HB0.size; simp at this; first | (simp; done) | (simp; omega))); first | exact below_drewN HB0 _ | exact (below_drewN HB0 _).alloc (by have := HB0.size; simp at this; first | (simp; done) | (simp; omega)) _); have z6 := hb.size; (try (have SN := (two_new (v2.alloc (.cells #[.int .i64 a, .int .i64 b, .int .i64 c, .int .i64 d] 23)) 0 0 23).of_block (hb.block (v2.alloc (.cells #[.int .i64 a, .int .i64 b, .int .i64 c, .int .i64 d] 23)).heap.size (by first | (simp; done) | (simp; omega))); simp only [World.size_alloc] at SN; obtain ⟨n0, n1, n2, n3⟩ := two_cells SN))))
            all_goals
              obtain ⟨q0, q1, g0, g1⟩ := two_cells S2
              have zz : w.heap.size + 1 + 1 < v6.heap.size := S2.lt
              have zy : ¬ w.heap.size + 1 + 1 = v2.heap.size + 1 := by omega
              go_wp2
              first
              | (obtain ⟨p0, p1, _, _⟩ := two_cells ((two_set S2 0 0).alloc (.cells #[.int .i64 NN, .int .i64 DD] 23)); refine bodyPost_ret (v := .tuple #[shV 0 0, .int .i64 3]) (by simp [results, Try.results15, go_sem, p0, p1]) rfl ⟨ret_sh3 HV.out, ?_⟩; exact ((HB6.setCell (by simp; omega) _).setCell (by simp; omega) _).alloc (by have := HB6.size; simp [World.setCell]; omega) _)
              | (obtain ⟨p0, p1, _, _⟩ := two_cells (two_set ((S2.setOther (a := ⟨v2.heap.size + 1, 0, none⟩) (by first | (simp; done) | (simp; omega)) (.int .i64 NN)).setOther (a := ⟨v2.heap.size + 1, 1, none⟩) (by first | (simp; done) | (simp; omega)) (.int .i64 DD)) 0 0); refine bodyPost_ret (v := .tuple #[shV 0 0, .int .i64 3]) (by simp [results, Try.results15, go_sem, p0, p1]) rfl ⟨ret_sh3 HV.out, ?_⟩; exact (((HB6.setCell (by simp; omega) _).setCell (by simp; omega) _).setCell (by simp; omega) _).setCell (by simp; omega) _)
          · have HV := Lib.hid (mixV_5 HS.out ht hf hl)
            have MK2 : Hid (∀ W, Calls Try.prog 24 #[.int .i64 (a * y * (1000 - t) + c * u * t), .int .i64 (u * d * 1000)] W fun e w' => e = .returned (.tuple #[shV (loN (mixN a b c d t) (mixD b d)) (loD (mixN a b c d t) (mixD b d)), .bool true]) ∧ Below W.heap.size W w') := fun W => (MK.out W).mono (fun e w' hq => ⟨hq.1.trans (by rw [← ES.out.1, ← ES.out.2.1, ← ES.out.2.2, hl]), hq.2⟩)
            obtain ⟨NN, hNN⟩ : ∃ x, loN (mixN a b c d t) (mixD b d) = x := ⟨_, rfl⟩
            obtain ⟨DD, hDD⟩ : ∃ x, loD (mixN a b c d t) (mixD b d) = x := ⟨_, rfl⟩
            rw [hNN, hDD] at MK2
            rw [hNN, hDD] at HV
            clear hNN hDD MK ES hl m9 m10 m11 m12
            go_enter Try.func15, Try.ntmps15
            go_wp2_with fail
            refine (spec_IsShare_any _ _ _).mono ?_
            rintro e v ⟨rfl, hb⟩
            rw [hs1]
            replace R0 := Lib.hid (rowIs_below R0.out hb R0.out.lt)
            replace R1 := Lib.hid (rowIs_below R1.out hb R1.out.lt)
            replace R2 := Lib.hid (rowIs_below R2.out hb R2.out.lt)
            replace HB0 := HB0.trans (hb.mono HB0.size)
            have z1 := hb.size
            simp only [World.size_alloc] at z1
            clear hb
            obtain ⟨a0, a1, _, _⟩ := two_cells R0.out
            obtain ⟨b0, b1, _, _⟩ := two_cells R1.out
            obtain ⟨q0, q1, g0, g1⟩ := two_cells R2.out
            go_wp2_with fail
            clear a0 a1 b0 b1 q0 q1 g0 g1
            refine (spec_IsShare_any _ _ _).mono ?_
            rintro e v2 ⟨rfl, hb⟩
            rw [hs2]
            replace R0 := Lib.hid (rowIs_below R0.out hb R0.out.lt)
            replace R1 := Lib.hid (rowIs_below R1.out hb R1.out.lt)
            replace R2 := Lib.hid (rowIs_below R2.out hb R2.out.lt)
            replace HB0 := HB0.trans (hb.mono HB0.size)
            have z2 := hb.size
            clear hb
            obtain ⟨a0, a1, _, _⟩ := two_cells R0.out
            obtain ⟨b0, b1, _, _⟩ := two_cells R1.out
            obtain ⟨q0, q1, g0, g1⟩ := two_cells R2.out
            go_wp2_with fail
            refine (l01In_any _ _ _ _).mono ?_
            rintro e v3 ⟨rfl, rfl⟩
            rw [ht]
            go_wp2_with fail
            have hb := (Below.refl v2.heap.size v2).alloc (Nat.le_refl _) (.cells #[.int .i64 a, .int .i64 b, .int .i64 c, .int .i64 d] 23)
            replace R0 := Lib.hid (rowIs_below R0.out hb R0.out.lt)
            replace R1 := Lib.hid (rowIs_below R1.out hb R1.out.lt)
            replace R2 := Lib.hid (rowIs_below R2.out hb R2.out.lt)
            replace HB0 := HB0.trans (hb.mono HB0.size)
            clear hb
            clear a0 a1 b0 b1 q0 q1 g0 g1
            refine (l19Fits_any _ 2 _ _ _ _ (four_ints v2 a b c d _) (by omega) (by omega)).mono ?_
            rintro e v4 ⟨rfl, rfl⟩
            rw [hf]
            obtain ⟨a0, a1, _, _⟩ := two_cells R0.out
            obtain ⟨b0, b1, _, _⟩ := two_cells R1.out
            obtain ⟨q0, q1, g0, g1⟩ := two_cells R2.out
            go_wp2_with fail
            refine (l18Gcd_any _ _ _ (by omega) (by omega)).mono ?_
            rintro e v5 ⟨rfl, rfl⟩
            rw [HGC.out]
            have eu := EU.out
            have ev := EV.out
            have eut : IntKind.i64.wrap (b.tdiv g) = u := by rw [Int.tdiv_eq_ediv_of_nonneg (by omega), EU.out]; exact IntWalk.i64_in _ (by omega)
            have evt : IntKind.i64.wrap (d.tdiv g) = y := by rw [Int.tdiv_eq_ediv_of_nonneg (by omega), EV.out]; exact IntWalk.i64_in _ (by omega)
            have w1 : IntKind.i64.wrap (a * y) = a * y := IntWalk.i64_in _ (by omega)
            have w2 : IntKind.i64.wrap (c * u) = c * u := IntWalk.i64_in _ (by omega)
            have w3 : IntKind.i64.wrap (1000 - t) = 1000 - t := IntWalk.i64_in _ (by omega)
            have w4 : IntKind.i64.wrap (a * y * (1000 - t)) = a * y * (1000 - t) := IntWalk.i64_in _ (by omega)
            have w5 : IntKind.i64.wrap (c * u * t) = c * u * t := IntWalk.i64_in _ (by omega)
            have w6 : IntKind.i64.wrap (a * y * (1000 - t) + c * u * t) = a * y * (1000 - t) + c * u * t := IntWalk.i64_in _ (by omega)
            have w7 : IntKind.i64.wrap (u * d) = u * d := IntWalk.i64_in _ (by omega)
            have w8 : IntKind.i64.wrap (u * d * 1000) = u * d * 1000 := IntWalk.i64_in _ (by omega)
            have g9 : (g == 0) = false := by simp; omega
            have g10 : ¬ g = 0 := by omega
            have w9 : IntKind.i64.wrap u = u := IntWalk.i64_in _ (by omega)
            go_wp2_with fail
            go_quiet (fail)
            go_wp2_with fail
            clear a0 a1 b0 b1 q0 q1 g0 g1
            obtain ⟨a0, a1, _, _⟩ := two_cells R0.out
            obtain ⟨b0, b1, _, _⟩ := two_cells R1.out
            go_region_held3 (fun w' => w'.cell? ⟨w.heap.size, 1, none⟩ = some (.int .i64 b) ∧ w'.cell? ⟨w.heap.size + 1, 1, none⟩ = some (.int .i64 d))
              (first | exact ⟨(two_cells ((S0.setOther (a := ⟨v2.heap.size + 1, 0, none⟩) (by first | (simp; done) | (simp; omega)) (.int .i64 NN)).setOther (a := ⟨v2.heap.size + 1, 1, none⟩) (by first | (simp; done) | (simp; omega)) (.int .i64 DD))).2.1, (two_cells ((S1.setOther (a := ⟨v2.heap.size + 1, 0, none⟩) (by first | (simp; done) | (simp; omega)) (.int .i64 NN)).setOther (a := ⟨v2.heap.size + 1, 1, none⟩) (by first | (simp; done) | (simp; omega)) (.int .i64 DD))).2.1⟩ | exact ⟨(two_cells (S0.alloc _)).2.1, (two_cells (S1.alloc _)).2.1⟩ | exact ⟨(two_cells S0).2.1, (two_cells S1).2.1⟩ | exact ⟨a1, b1⟩ | exact ⟨(two_cells (R0.out.alloc _)).2.1, (two_cells (R1.out.alloc _)).2.1⟩ | go_keep)
              ((go_at_call 24; refine (MK2.out _).mono ?_; rintro e v6 ⟨rfl, hb⟩; have S0 : v6.rowIs w.heap.size 23 2 (two a b) := (by refine rowIs_below ?_ hb (by first | (simp; done) | (simp; omega)); first | exact rowIs_drewN R0.out _ | exact (rowIs_drewN R0.out _).alloc _); have S1 : v6.rowIs (w.heap.size + 1) 23 2 (two c d) := (by refine rowIs_below ?_ hb (by first | (simp; done) | (simp; omega)); first | exact rowIs_drewN R1.out _ | exact (rowIs_drewN R1.out _).alloc _); have S2 : v6.rowIs (w.heap.size + 1 + 1) 23 2 (two 0 0) := (by refine rowIs_below ?_ hb (by first | (simp; done) | (simp; omega)); first | exact rowIs_drewN R2.out _ | exact (rowIs_drewN R2.out _).alloc _); have HB6 : Below w.heap.size w v6 := (by refine Below.trans ?_ (hb.mono (by have := HB0.size; simp at this; first | (simp; done) | (simp; omega))); first | exact below_drewN HB0 _ | exact (below_drewN HB0 _).alloc (by have := HB0.size; simp at this; first | (simp; done) | (simp; omega)) _); have z6 := hb.size; (try (have SN := (two_new (v2.alloc (.cells #[.int .i64 a, .int .i64 b, .int .i64 c, .int .i64 d] 23)) 0 0 23).of_block (hb.block (v2.alloc (.cells #[.int .i64 a, .int .i64 b, .int .i64 c, .int .i64 d] 23)).heap.size (by first | (simp; done) | (simp; omega))); simp only [World.size_alloc] at SN; obtain ⟨n0, n1, n2, n3⟩ := two_cells SN))))
            all_goals
              obtain ⟨q0, q1, g0, g1⟩ := two_cells S2
              have zz : w.heap.size + 1 + 1 < v6.heap.size := S2.lt
              have zy : ¬ w.heap.size + 1 + 1 = v2.heap.size + 1 := by omega
              go_wp2
              first
              | (obtain ⟨p0, p1, _, _⟩ := two_cells ((two_set S2 NN DD).alloc (.cells #[.int .i64 NN, .int .i64 DD] 23)); refine bodyPost_ret (v := .tuple #[shV NN DD, .int .i64 0]) (by simp [results, Try.results15, go_sem, p0, p1]) rfl ⟨ret_sh3 HV.out, ?_⟩; exact ((HB6.setCell (by simp; omega) _).setCell (by simp; omega) _).alloc (by have := HB6.size; simp [World.setCell]; omega) _)
              | (obtain ⟨p0, p1, _, _⟩ := two_cells (two_set ((S2.setOther (a := ⟨v2.heap.size + 1, 0, none⟩) (by first | (simp; done) | (simp; omega)) (.int .i64 NN)).setOther (a := ⟨v2.heap.size + 1, 1, none⟩) (by first | (simp; done) | (simp; omega)) (.int .i64 DD)) NN DD); refine bodyPost_ret (v := .tuple #[shV NN DD, .int .i64 0]) (by simp [results, Try.results15, go_sem, p0, p1]) rfl ⟨ret_sh3 HV.out, ?_⟩; exact (((HB6.setCell (by simp; omega) _).setCell (by simp; omega) _).setCell (by simp; omega) _).setCell (by simp; omega) _)
end Go.Proofs.Ytjagidpjdajpnaa
