/-
  impl.compareExact: the walk (printed by gen_cx.py).
-/
import Derived.Test.YtmhmhbiihcdgiaaEx
import Derived.Test.YtmhmhbiihcdgiaaCmp
namespace Go.Proofs.Ytmhmhbiihcdgiaa
open Go.ChangeShapes Go.WideShapes Go.ChangeAt Go.RowKit
set_option linter.unusedVariables false
theorem hilo2 (u v : Int) (hu : 0 ≤ u) (hv : 0 ≤ v) : (u / 18446744073709551616 = v / 18446744073709551616 ∧ u % 18446744073709551616 = v % 18446744073709551616 → u = v) ∧
    (u / 18446744073709551616 < v / 18446744073709551616 ∨ u / 18446744073709551616 = v / 18446744073709551616 ∧ u % 18446744073709551616 < v % 18446744073709551616 ↔ u < v) := by omega
theorem mul64_big (x y : Int) (hx : 0 ≤ x) (hx2 : x ≤ 1000000000000000000) (hy : 0 ≤ y) (hy2 : y ≤ 1000000000000000) (w : World) :
    Calls Try.prog 41 #[.int .u64 x, .int .u64 y] w fun e w' => e = .returned (.tuple #[.int .u64 (x * y / 18446744073709551616), .int .u64 (x * y % 18446744073709551616)]) ∧ w = w' := by
  obtain ⟨a, rfl⟩ := Int.eq_ofNat_of_zero_le hx
  obtain ⟨b, rfl⟩ := Int.eq_ofNat_of_zero_le hy
  refine (mul64_any a b (by omega) (by omega) w).mono fun e w' h => ⟨?_, h.2⟩
  rw [h.1, Int.natCast_ediv, Int.natCast_emod, Int.natCast_mul]
  rfl
def absI (x : Int) : Int := if x < 0 then -x else x
theorem absolute_any (x : Int) (w : World) (h0 : -1000000000000000000 ≤ x) (h1 : x ≤ 1000000000000000000) : Calls Try.prog 42 #[.int .i64 x] w fun e w' => e = .returned (.int .i64 (absI x)) ∧ w = w' := by
  unfold absI
  by_cases h : x < 0
  · rw [if_pos h]
    have e1 : IntKind.i64.wrap (-x) = -x := IntWalk.i64_in _ (by omega)
    go_enter Try.func42, Try.ntmps42
    go_wp2_with fail
    go_ret
    exact ⟨rfl, rfl⟩
  · rw [if_neg h]
    go_enter Try.func42, Try.ntmps42
    go_wp2_with fail
    go_ret
    exact ⟨rfl, rfl⟩
/-- what is known of an Exact beside its variant: its number, its scale -/
structure ExK (s n d q : Int) : Prop where
  sc : scV s d = (q, true)
  q1 : 1 ≤ q
  q2 : q ≤ 1000000000000000
  d0 : 0 ≤ d
  d1 : d ≤ 24
  n0 : -1000000000000000000 ≤ n
  n1 : n ≤ 1000000000000000000
theorem exK_of {s n d : Int} (s1 : 1 ≤ s) (s6 : s ≤ 6) (h : exB s n d = true) : ∃ q, ExK s n d q ∧ q = pw (s * s) d.toNat := by
  obtain ⟨q, a, b, c, d', e⟩ := scV_of s1 s6 h
  obtain ⟨e0, ⟨e1, e2⟩, _⟩ := exB_out h
  exact ⟨q, ⟨a, b, c, e0, d', e1, e2⟩, e⟩
set_option maxHeartbeats 3200000 in
theorem compareExact_np (p c h s n1 d1 n2 d2 q1 q2 : Int) (w : World) (s1 : 1 ≤ s) (s6 : s ≤ 6) (K1 : ExK s n1 d1 q1) (K2 : ExK s n2 d2 q2) (t1 : n1 < 0) (t2 : ¬ n2 < 0) :
    Calls Try.prog 27 #[vrV p c h s, exV n1 d1, exV n2 d2] w fun e w' => e = .returned (.int .i64 (cmpS n1 q1 n2 q2)) ∧ Below w.heap.size w w' := by
  obtain ⟨k11, k12, k13, k14, k15, k16, k17⟩ := K1
  obtain ⟨k21, k22, k23, k24, k25, k26, k27⟩ := K2
  have HB0 := Lib.hid ((((Below.refl w.heap.size w).alloc (Nat.le_refl _) (.cells #[.int .i64 p, .int .i64 c, .int .i64 h, .int .i64 s] 29)).alloc (by simp) (.cells #[.int .i64 n1, .int .i64 d1] 45)).alloc (by simp; omega) (.cells #[.int .i64 n2, .int .i64 d2] 45))
  have HV := Lib.hid (show cmpS n1 q1 n2 q2 = -1 by
    have a1 : n1 * q2 < 0 := Int.mul_neg_of_neg_of_pos t1 (by omega)
    have a2 : 0 ≤ n2 * q1 := Int.mul_nonneg (by omega) (by omega)
    exact cmpS_lt (by omega))
  clear k11 k21
  go_enter Try.func27, Try.ntmps27
  go_wp2_with fail
  go_ret
  exact ⟨ret_int HV.out, HB0.out⟩
set_option maxHeartbeats 3200000 in
theorem compareExact_pn (p c h s n1 d1 n2 d2 q1 q2 : Int) (w : World) (s1 : 1 ≤ s) (s6 : s ≤ 6) (K1 : ExK s n1 d1 q1) (K2 : ExK s n2 d2 q2) (t1 : ¬ n1 < 0) (t2 : n2 < 0) :
    Calls Try.prog 27 #[vrV p c h s, exV n1 d1, exV n2 d2] w fun e w' => e = .returned (.int .i64 (cmpS n1 q1 n2 q2)) ∧ Below w.heap.size w w' := by
  obtain ⟨k11, k12, k13, k14, k15, k16, k17⟩ := K1
  obtain ⟨k21, k22, k23, k24, k25, k26, k27⟩ := K2
  have HB0 := Lib.hid ((((Below.refl w.heap.size w).alloc (Nat.le_refl _) (.cells #[.int .i64 p, .int .i64 c, .int .i64 h, .int .i64 s] 29)).alloc (by simp) (.cells #[.int .i64 n1, .int .i64 d1] 45)).alloc (by simp; omega) (.cells #[.int .i64 n2, .int .i64 d2] 45))
  have HV := Lib.hid (show cmpS n1 q1 n2 q2 = 1 by
    have a1 : n2 * q1 < 0 := Int.mul_neg_of_neg_of_pos t2 (by omega)
    have a2 : 0 ≤ n1 * q2 := Int.mul_nonneg (by omega) (by omega)
    exact cmpS_gt (by omega))
  clear k11 k21
  go_enter Try.func27, Try.ntmps27
  go_wp2_with fail
  go_ret
  exact ⟨ret_int HV.out, HB0.out⟩
set_option maxHeartbeats 3200000 in
theorem compareExact_pp (p c h s n1 d1 n2 d2 q1 q2 : Int) (w : World) (s1 : 1 ≤ s) (s6 : s ≤ 6) (K1 : ExK s n1 d1 q1) (K2 : ExK s n2 d2 q2) (t1 : ¬ n1 < 0) (t2 : ¬ n2 < 0) :
    Calls Try.prog 27 #[vrV p c h s, exV n1 d1, exV n2 d2] w fun e w' => e = .returned (.int .i64 (cmpS n1 q1 n2 q2)) ∧ Below w.heap.size w w' := by
  obtain ⟨k11, k12, k13, k14, k15, k16, k17⟩ := K1
  obtain ⟨k21, k22, k23, k24, k25, k26, k27⟩ := K2
  have HB0 := Lib.hid ((((Below.refl w.heap.size w).alloc (Nat.le_refl _) (.cells #[.int .i64 p, .int .i64 c, .int .i64 h, .int .i64 s] 29)).alloc (by simp) (.cells #[.int .i64 n1, .int .i64 d1] 45)).alloc (by simp; omega) (.cells #[.int .i64 n2, .int .i64 d2] 45))
  have R0 := Lib.hid (((q4_new w (.int .i64 p) (.int .i64 c) (.int .i64 h) (.int .i64 s) 29).alloc (.cells #[.int .i64 n1, .int .i64 d1] 45)).alloc (.cells #[.int .i64 n2, .int .i64 d2] 45))
  have X0 := Lib.hid ((q2_new (w.alloc (.cells #[.int .i64 p, .int .i64 c, .int .i64 h, .int .i64 s] 29)) (.int .i64 n1) (.int .i64 d1) 45).alloc (.cells #[.int .i64 n2, .int .i64 d2] 45))
  have Y0 := Lib.hid (q2_new ((w.alloc (.cells #[.int .i64 p, .int .i64 c, .int .i64 h, .int .i64 s] 29)).alloc (.cells #[.int .i64 n1, .int .i64 d1] 45)) (.int .i64 n2) (.int .i64 d2) 45)
  simp only [World.size_alloc] at X0 Y0
  have a1 : absI n1 = n1 := by unfold absI; rw [if_neg t1]
  have a2 : absI n2 = n2 := by unfold absI; rw [if_neg t2]
  obtain ⟨A, hA⟩ : ∃ A, n1 = A := ⟨_, rfl⟩
  obtain ⟨B, hB⟩ : ∃ B, n2 = B := ⟨_, rfl⟩
  have AB1 : Hid (∀ W : World, Calls Try.prog 42 #[.int .i64 n1] W fun e w' => e = .returned (.int .i64 A) ∧ W = w') := Lib.hid (fun W => (absolute_any n1 W k16 k17).mono fun e w' h => ⟨by rw [h.1, a1, hA], h.2⟩)
  have AB2 : Hid (∀ W : World, Calls Try.prog 42 #[.int .i64 n2] W fun e w' => e = .returned (.int .i64 B) ∧ W = w') := Lib.hid (fun W => (absolute_any n2 W k26 k27).mono fun e w' h => ⟨by rw [h.1, a2, hB], h.2⟩)
  have M1 := Lib.hid (fun W => mul64_big A q2 (by omega) (by omega) (by omega) k23 W)
  have M2 := Lib.hid (fun W => mul64_big B q1 (by omega) (by omega) (by omega) k13 W)
  have u0 : 0 ≤ A * q2 := Int.mul_nonneg (by omega) (by omega)
  have v0 : 0 ≤ B * q1 := Int.mul_nonneg (by omega) (by omega)
  have w1 : IntKind.u64.wrap A = A := IntWalk.u64_in _ (by omega)
  have w2 : IntKind.u64.wrap B = B := IntWalk.u64_in _ (by omega)
  have w3 : IntKind.u64.wrap q1 = q1 := IntWalk.u64_in _ (by omega)
  have w4 : IntKind.u64.wrap q2 = q2 := IntWalk.u64_in _ (by omega)
  have HH := Lib.hid (hilo2 (A * q2) (B * q1) u0 v0)
  obtain ⟨U, hU⟩ : ∃ U, A * q2 = U := ⟨_, rfl⟩
  obtain ⟨V, hV⟩ : ∃ V, B * q1 = V := ⟨_, rfl⟩
  have HS : Hid (cmpS n1 q1 n2 q2 = Int.sign (U - V)) := Lib.hid (by rw [cmpS, ← hU, ← hV, ← hA, ← hB])
  have S1 := Lib.hid (fun W => scaleOf_any p c h s d1 W s1 s6 k14 (by omega))
  have S2 := Lib.hid (fun W => scaleOf_any p c h s d2 W s1 s6 k24 (by omega))
  unfold scP at S1 S2
  rw [k11] at S1
  rw [k21] at S2
  rw [hU, hV] at HH
  rw [hU] at M1 u0
  rw [hV] at M2 v0
  clear hU hV hA hB a1 a2 k11 k21
  obtain ⟨h1, hh1⟩ : ∃ x, U / 18446744073709551616 = x := ⟨_, rfl⟩
  obtain ⟨l1, hl1⟩ : ∃ x, U % 18446744073709551616 = x := ⟨_, rfl⟩
  obtain ⟨h2, hh2⟩ : ∃ x, V / 18446744073709551616 = x := ⟨_, rfl⟩
  obtain ⟨l2, hl2⟩ : ∃ x, V % 18446744073709551616 = x := ⟨_, rfl⟩
  rw [hh1, hl1] at M1
  rw [hh2, hl2] at M2
  rw [hh1, hl1, hh2, hl2] at HH
  have hE : (h1 = h2 ∧ l1 = l2) → U = V := HH.out.1
  have hL := HH.out.2
  have hr : U = V → h1 = h2 ∧ l1 = l2 := fun e => ⟨by rw [← hh1, ← hh2, e], by rw [← hl1, ← hl2, e]⟩
  have HWAY : Hid (((h1 = h2 ∧ l1 = l2) ∧ U = V) ∨ ((¬ h1 = h2 ∧ h1 < h2) ∧ U < V) ∨ ((h1 = h2 ∧ ¬ l1 = l2 ∧ l1 < l2) ∧ U < V) ∨ ((h1 = h2 ∧ ¬ l1 = l2 ∧ ¬ l1 < l2) ∧ V < U) ∨ ((¬ h1 = h2 ∧ ¬ h1 < h2) ∧ V < U)) := by
    show _
    by_cases c1 : h1 = h2
    · by_cases c2 : l1 = l2
      · exact .inl ⟨⟨c1, c2⟩, hE ⟨c1, c2⟩⟩
      · by_cases c3 : l1 < l2
        · exact .inr (.inr (.inl ⟨⟨c1, c2, c3⟩, hL.1 (.inr ⟨c1, c3⟩)⟩))
        · refine .inr (.inr (.inr (.inl ⟨⟨c1, c2, c3⟩, ?_⟩)))
          rcases Int.lt_trichotomy U V with h | h | h
          · have := hL.2 h; omega
          · have := hr h; omega
          · exact h
    · by_cases c3 : h1 < h2
      · exact .inr (.inl ⟨⟨c1, c3⟩, hL.1 (.inl c3)⟩)
      · refine .inr (.inr (.inr (.inr ⟨⟨c1, c3⟩, ?_⟩)))
        rcases Int.lt_trichotomy U V with h | h | h
        · have := hL.2 h; omega
        · have := hr h; omega
        · exact h
  clear hh1 hl1 hh2 hl2 HH u0 v0 hE hL hr
  go_enter Try.func27, Try.ntmps27
  obtain ⟨r0, r1, r2, r3⟩ := q4_cells R0.out
  obtain ⟨x0, x1⟩ := q2_cells X0.out
  obtain ⟨y0, y1⟩ := q2_cells Y0.out
  go_wp2_with fail
  refine (S2.out _).mono ?_
  rintro e w1 ⟨rfl, hb⟩
  have R1 := Lib.hid (rowIs_below R0.out hb R0.out.lt)
  have X1 := Lib.hid (rowIs_below X0.out hb X0.out.lt)
  have Y1 := Lib.hid (rowIs_below Y0.out hb Y0.out.lt)
  have HB1 := Lib.hid (HB0.out.trans (hb.mono HB0.out.size))
  clear hb r0 r1 r2 r3 x0 x1 y0 y1
  obtain ⟨r0, r1, r2, r3⟩ := q4_cells R1.out
  obtain ⟨x0, x1⟩ := q2_cells X1.out
  obtain ⟨y0, y1⟩ := q2_cells Y1.out
  go_wp2_with fail
  refine (S1.out _).mono ?_
  rintro e w2 ⟨rfl, hb⟩
  have X2 := Lib.hid (rowIs_below X1.out hb X1.out.lt)
  have Y2 := Lib.hid (rowIs_below Y1.out hb Y1.out.lt)
  have HB2 := Lib.hid (HB1.out.trans (hb.mono HB1.out.size))
  clear hb r0 r1 r2 r3 x0 x1 y0 y1
  obtain ⟨x0, x1⟩ := q2_cells X2.out
  obtain ⟨y0, y1⟩ := q2_cells Y2.out
  go_wp2_with fail
  refine (AB1.out _).mono ?_
  rintro e w3 ⟨rfl, rfl⟩
  go_wp2_with fail
  refine (M1.out _).mono ?_
  rintro e w3 ⟨rfl, rfl⟩
  go_wp2_with fail
  refine (AB2.out _).mono ?_
  rintro e w3 ⟨rfl, rfl⟩
  go_wp2_with fail
  refine (M2.out _).mono ?_
  rintro e w3 ⟨rfl, rfl⟩
  rcases HWAY.out with ⟨⟨c1, c2⟩, hr⟩ | ⟨⟨c1, c2⟩, hr⟩ | ⟨⟨c1, c2, c3⟩, hr⟩ | ⟨⟨c1, c2, c3⟩, hr⟩ | ⟨⟨c1, c2⟩, hr⟩
  · have HV := Lib.hid (show cmpS n1 q1 n2 q2 = 0 by rw [HS.out, hr, Int.sub_self]; rfl)
    have e1 : (h1 == h2) = true := by simpa using c1
    have e3 : (l1 == l2) = true := by simpa using c2
    clear hr c1 c2
    go_wp2_with fail
    go_ret
    exact ⟨ret_int HV.out, HB2.out⟩
  · have HV := Lib.hid (show cmpS n1 q1 n2 q2 = -1 by rw [HS.out]; exact Int.sign_eq_neg_one_of_neg (by omega))
    have e1 : (h1 == h2) = false := by simpa using c1
    have e2 : decide (h1 < h2) = true := by simpa using c2
    clear hr
    go_wp2_with fail
    go_ret
    exact ⟨ret_int HV.out, HB2.out⟩
  · have HV := Lib.hid (show cmpS n1 q1 n2 q2 = -1 by rw [HS.out]; exact Int.sign_eq_neg_one_of_neg (by omega))
    have e1 : (h1 == h2) = true := by simpa using c1
    have e3 : (l1 == l2) = false := by simpa using c2
    have e2 : decide (h1 < h2) = false := by simp; omega
    have e4 : decide (l1 < l2) = true := by simpa using c3
    clear hr
    go_wp2_with fail
    go_ret
    exact ⟨ret_int HV.out, HB2.out⟩
  · have HV := Lib.hid (show cmpS n1 q1 n2 q2 = 1 by rw [HS.out]; exact Int.sign_eq_one_of_pos (by omega))
    have e1 : (h1 == h2) = true := by simpa using c1
    have e3 : (l1 == l2) = false := by simpa using c2
    have e2 : decide (h1 < h2) = false := by simp; omega
    have e4 : decide (l1 < l2) = false := by simp; omega
    clear hr
    go_wp2_with fail
    go_ret
    exact ⟨ret_int HV.out, HB2.out⟩
  · have HV := Lib.hid (show cmpS n1 q1 n2 q2 = 1 by rw [HS.out]; exact Int.sign_eq_one_of_pos (by omega))
    have e1 : (h1 == h2) = false := by simpa using c1
    have e2 : decide (h1 < h2) = false := by simp; omega
    clear hr
    go_wp2_with fail
    go_ret
    exact ⟨ret_int HV.out, HB2.out⟩
set_option maxHeartbeats 3200000 in
theorem compareExact_nn (p c h s n1 d1 n2 d2 q1 q2 : Int) (w : World) (s1 : 1 ≤ s) (s6 : s ≤ 6) (K1 : ExK s n1 d1 q1) (K2 : ExK s n2 d2 q2) (t1 : n1 < 0) (t2 : n2 < 0) :
    Calls Try.prog 27 #[vrV p c h s, exV n1 d1, exV n2 d2] w fun e w' => e = .returned (.int .i64 (cmpS n1 q1 n2 q2)) ∧ Below w.heap.size w w' := by
  obtain ⟨k11, k12, k13, k14, k15, k16, k17⟩ := K1
  obtain ⟨k21, k22, k23, k24, k25, k26, k27⟩ := K2
  have HB0 := Lib.hid ((((Below.refl w.heap.size w).alloc (Nat.le_refl _) (.cells #[.int .i64 p, .int .i64 c, .int .i64 h, .int .i64 s] 29)).alloc (by simp) (.cells #[.int .i64 n1, .int .i64 d1] 45)).alloc (by simp; omega) (.cells #[.int .i64 n2, .int .i64 d2] 45))
  have R0 := Lib.hid (((q4_new w (.int .i64 p) (.int .i64 c) (.int .i64 h) (.int .i64 s) 29).alloc (.cells #[.int .i64 n1, .int .i64 d1] 45)).alloc (.cells #[.int .i64 n2, .int .i64 d2] 45))
  have X0 := Lib.hid ((q2_new (w.alloc (.cells #[.int .i64 p, .int .i64 c, .int .i64 h, .int .i64 s] 29)) (.int .i64 n1) (.int .i64 d1) 45).alloc (.cells #[.int .i64 n2, .int .i64 d2] 45))
  have Y0 := Lib.hid (q2_new ((w.alloc (.cells #[.int .i64 p, .int .i64 c, .int .i64 h, .int .i64 s] 29)).alloc (.cells #[.int .i64 n1, .int .i64 d1] 45)) (.int .i64 n2) (.int .i64 d2) 45)
  simp only [World.size_alloc] at X0 Y0
  have a1 : absI n1 = -n1 := by unfold absI; rw [if_pos t1]
  have a2 : absI n2 = -n2 := by unfold absI; rw [if_pos t2]
  obtain ⟨A, hA⟩ : ∃ A, -n1 = A := ⟨_, rfl⟩
  obtain ⟨B, hB⟩ : ∃ B, -n2 = B := ⟨_, rfl⟩
  have AB1 : Hid (∀ W : World, Calls Try.prog 42 #[.int .i64 n1] W fun e w' => e = .returned (.int .i64 A) ∧ W = w') := Lib.hid (fun W => (absolute_any n1 W k16 k17).mono fun e w' h => ⟨by rw [h.1, a1, hA], h.2⟩)
  have AB2 : Hid (∀ W : World, Calls Try.prog 42 #[.int .i64 n2] W fun e w' => e = .returned (.int .i64 B) ∧ W = w') := Lib.hid (fun W => (absolute_any n2 W k26 k27).mono fun e w' h => ⟨by rw [h.1, a2, hB], h.2⟩)
  have M1 := Lib.hid (fun W => mul64_big A q2 (by omega) (by omega) (by omega) k23 W)
  have M2 := Lib.hid (fun W => mul64_big B q1 (by omega) (by omega) (by omega) k13 W)
  have u0 : 0 ≤ A * q2 := Int.mul_nonneg (by omega) (by omega)
  have v0 : 0 ≤ B * q1 := Int.mul_nonneg (by omega) (by omega)
  have w1 : IntKind.u64.wrap A = A := IntWalk.u64_in _ (by omega)
  have w2 : IntKind.u64.wrap B = B := IntWalk.u64_in _ (by omega)
  have w3 : IntKind.u64.wrap q1 = q1 := IntWalk.u64_in _ (by omega)
  have w4 : IntKind.u64.wrap q2 = q2 := IntWalk.u64_in _ (by omega)
  have HH := Lib.hid (hilo2 (A * q2) (B * q1) u0 v0)
  obtain ⟨U, hU⟩ : ∃ U, A * q2 = U := ⟨_, rfl⟩
  obtain ⟨V, hV⟩ : ∃ V, B * q1 = V := ⟨_, rfl⟩
  have HS : Hid (cmpS n1 q1 n2 q2 = Int.sign (V - U)) := Lib.hid (by rw [cmpS, ← hU, ← hV, ← hA, ← hB]; congr 1; rw [Int.neg_mul, Int.neg_mul]; omega)
  have S1 := Lib.hid (fun W => scaleOf_any p c h s d1 W s1 s6 k14 (by omega))
  have S2 := Lib.hid (fun W => scaleOf_any p c h s d2 W s1 s6 k24 (by omega))
  unfold scP at S1 S2
  rw [k11] at S1
  rw [k21] at S2
  rw [hU, hV] at HH
  rw [hU] at M1 u0
  rw [hV] at M2 v0
  clear hU hV hA hB a1 a2 k11 k21
  obtain ⟨h1, hh1⟩ : ∃ x, U / 18446744073709551616 = x := ⟨_, rfl⟩
  obtain ⟨l1, hl1⟩ : ∃ x, U % 18446744073709551616 = x := ⟨_, rfl⟩
  obtain ⟨h2, hh2⟩ : ∃ x, V / 18446744073709551616 = x := ⟨_, rfl⟩
  obtain ⟨l2, hl2⟩ : ∃ x, V % 18446744073709551616 = x := ⟨_, rfl⟩
  rw [hh1, hl1] at M1
  rw [hh2, hl2] at M2
  rw [hh1, hl1, hh2, hl2] at HH
  have hE : (h1 = h2 ∧ l1 = l2) → U = V := HH.out.1
  have hL := HH.out.2
  have hr : U = V → h1 = h2 ∧ l1 = l2 := fun e => ⟨by rw [← hh1, ← hh2, e], by rw [← hl1, ← hl2, e]⟩
  have HWAY : Hid (((h1 = h2 ∧ l1 = l2) ∧ U = V) ∨ ((¬ h1 = h2 ∧ h1 < h2) ∧ U < V) ∨ ((h1 = h2 ∧ ¬ l1 = l2 ∧ l1 < l2) ∧ U < V) ∨ ((h1 = h2 ∧ ¬ l1 = l2 ∧ ¬ l1 < l2) ∧ V < U) ∨ ((¬ h1 = h2 ∧ ¬ h1 < h2) ∧ V < U)) := by
    show _
    by_cases c1 : h1 = h2
    · by_cases c2 : l1 = l2
      · exact .inl ⟨⟨c1, c2⟩, hE ⟨c1, c2⟩⟩
      · by_cases c3 : l1 < l2
        · exact .inr (.inr (.inl ⟨⟨c1, c2, c3⟩, hL.1 (.inr ⟨c1, c3⟩)⟩))
        · refine .inr (.inr (.inr (.inl ⟨⟨c1, c2, c3⟩, ?_⟩)))
          rcases Int.lt_trichotomy U V with h | h | h
          · have := hL.2 h; omega
          · have := hr h; omega
          · exact h
    · by_cases c3 : h1 < h2
      · exact .inr (.inl ⟨⟨c1, c3⟩, hL.1 (.inl c3)⟩)
      · refine .inr (.inr (.inr (.inr ⟨⟨c1, c3⟩, ?_⟩)))
        rcases Int.lt_trichotomy U V with h | h | h
        · have := hL.2 h; omega
        · have := hr h; omega
        · exact h
  clear hh1 hl1 hh2 hl2 HH u0 v0 hE hL hr
  go_enter Try.func27, Try.ntmps27
  obtain ⟨r0, r1, r2, r3⟩ := q4_cells R0.out
  obtain ⟨x0, x1⟩ := q2_cells X0.out
  obtain ⟨y0, y1⟩ := q2_cells Y0.out
  go_wp2_with fail
  refine (S2.out _).mono ?_
  rintro e w1 ⟨rfl, hb⟩
  have R1 := Lib.hid (rowIs_below R0.out hb R0.out.lt)
  have X1 := Lib.hid (rowIs_below X0.out hb X0.out.lt)
  have Y1 := Lib.hid (rowIs_below Y0.out hb Y0.out.lt)
  have HB1 := Lib.hid (HB0.out.trans (hb.mono HB0.out.size))
  clear hb r0 r1 r2 r3 x0 x1 y0 y1
  obtain ⟨r0, r1, r2, r3⟩ := q4_cells R1.out
  obtain ⟨x0, x1⟩ := q2_cells X1.out
  obtain ⟨y0, y1⟩ := q2_cells Y1.out
  go_wp2_with fail
  refine (S1.out _).mono ?_
  rintro e w2 ⟨rfl, hb⟩
  have X2 := Lib.hid (rowIs_below X1.out hb X1.out.lt)
  have Y2 := Lib.hid (rowIs_below Y1.out hb Y1.out.lt)
  have HB2 := Lib.hid (HB1.out.trans (hb.mono HB1.out.size))
  clear hb r0 r1 r2 r3 x0 x1 y0 y1
  obtain ⟨x0, x1⟩ := q2_cells X2.out
  obtain ⟨y0, y1⟩ := q2_cells Y2.out
  go_wp2_with fail
  refine (AB1.out _).mono ?_
  rintro e w3 ⟨rfl, rfl⟩
  go_wp2_with fail
  refine (M1.out _).mono ?_
  rintro e w3 ⟨rfl, rfl⟩
  go_wp2_with fail
  refine (AB2.out _).mono ?_
  rintro e w3 ⟨rfl, rfl⟩
  go_wp2_with fail
  refine (M2.out _).mono ?_
  rintro e w3 ⟨rfl, rfl⟩
  rcases HWAY.out with ⟨⟨c1, c2⟩, hr⟩ | ⟨⟨c1, c2⟩, hr⟩ | ⟨⟨c1, c2, c3⟩, hr⟩ | ⟨⟨c1, c2, c3⟩, hr⟩ | ⟨⟨c1, c2⟩, hr⟩
  · have HV := Lib.hid (show cmpS n1 q1 n2 q2 = 0 by rw [HS.out, hr, Int.sub_self]; rfl)
    have e1 : (h1 == h2) = true := by simpa using c1
    have e3 : (l1 == l2) = true := by simpa using c2
    clear hr c1 c2
    go_wp2_with fail
    go_ret
    exact ⟨ret_int HV.out, HB2.out⟩
  · have HV := Lib.hid (show cmpS n1 q1 n2 q2 = 1 by rw [HS.out]; exact Int.sign_eq_one_of_pos (by omega))
    have e1 : (h1 == h2) = false := by simpa using c1
    have e2 : decide (h1 < h2) = true := by simpa using c2
    clear hr
    go_wp2_with fail
    go_ret
    exact ⟨ret_int HV.out, HB2.out⟩
  · have HV := Lib.hid (show cmpS n1 q1 n2 q2 = 1 by rw [HS.out]; exact Int.sign_eq_one_of_pos (by omega))
    have e1 : (h1 == h2) = true := by simpa using c1
    have e3 : (l1 == l2) = false := by simpa using c2
    have e2 : decide (h1 < h2) = false := by simp; omega
    have e4 : decide (l1 < l2) = true := by simpa using c3
    clear hr
    go_wp2_with fail
    go_ret
    exact ⟨ret_int HV.out, HB2.out⟩
  · have HV := Lib.hid (show cmpS n1 q1 n2 q2 = -1 by rw [HS.out]; exact Int.sign_eq_neg_one_of_neg (by omega))
    have e1 : (h1 == h2) = true := by simpa using c1
    have e3 : (l1 == l2) = false := by simpa using c2
    have e2 : decide (h1 < h2) = false := by simp; omega
    have e4 : decide (l1 < l2) = false := by simp; omega
    clear hr
    go_wp2_with fail
    go_ret
    exact ⟨ret_int HV.out, HB2.out⟩
  · have HV := Lib.hid (show cmpS n1 q1 n2 q2 = -1 by rw [HS.out]; exact Int.sign_eq_neg_one_of_neg (by omega))
    have e1 : (h1 == h2) = false := by simpa using c1
    have e2 : decide (h1 < h2) = false := by simp; omega
    clear hr
    go_wp2_with fail
    go_ret
    exact ⟨ret_int HV.out, HB2.out⟩
theorem compareExact_any (p c h s n1 d1 n2 d2 q1 q2 : Int) (w : World) (s1 : 1 ≤ s) (s6 : s ≤ 6) (K1 : ExK s n1 d1 q1) (K2 : ExK s n2 d2 q2) :
    Calls Try.prog 27 #[vrV p c h s, exV n1 d1, exV n2 d2] w fun e w' => e = .returned (.int .i64 (cmpS n1 q1 n2 q2)) ∧ Below w.heap.size w w' := by
  by_cases t1 : n1 < 0 <;> by_cases t2 : n2 < 0
  · exact compareExact_nn p c h s n1 d1 n2 d2 q1 q2 w s1 s6 K1 K2 t1 t2
  · exact compareExact_np p c h s n1 d1 n2 d2 q1 q2 w s1 s6 K1 K2 t1 t2
  · exact compareExact_pn p c h s n1 d1 n2 d2 q1 q2 w s1 s6 K1 K2 t1 t2
  · exact compareExact_pp p c h s n1 d1 n2 d2 q1 q2 w s1 s6 K1 K2 t1 t2
end Go.Proofs.Ytmhmhbiihcdgiaa
