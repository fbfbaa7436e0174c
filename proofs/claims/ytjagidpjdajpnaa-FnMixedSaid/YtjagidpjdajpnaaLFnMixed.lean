/-
  FnMixed returns true for every code: mixed take points lie between the dead and the live one and reach them. No condition.
-/
import Derived.Test.YtjagidpjdajpnaaDrawT
import Derived.Test.YtjagidpjdajpnaaMixP
namespace Go.Proofs.Ytjagidpjdajpnaa
open Go.ChangeShapes Go.WideShapes Go.ChangeAt Go.RowKit
set_option linter.unusedVariables false

theorem sign_bd (x : Int) : -1 ≤ Int.sign x ∧ Int.sign x ≤ 1 := by
  rcases Int.lt_trichotomy x 0 with q | q | q
  · rw [Int.sign_eq_neg_one_of_neg q]; decide
  · rw [q]; decide
  · rw [Int.sign_eq_one_of_pos q]; decide
theorem mul_one_bd {x y : Int} (a : -1 ≤ x) (b : x ≤ 1) (c : -1 ≤ y) (d : y ≤ 1) : -1 ≤ x * y := by
  rcases (show x = -1 ∨ x = 0 ∨ x = 1 by omega) with rfl | rfl | rfl <;> rcases (show y = -1 ∨ y = 0 ∨ y = 1 by omega) with rfl | rfl | rfl <;> decide

set_option maxHeartbeats 3200000 in
theorem walk_FnMixed (w : World) (ax0 : Option Addr) (nx0 cx0 : Nat) (x0 : List Int) (wx0 : IntsArg w .u8 ax0 nx0 x0) :
    Calls Try.prog 7 #[.slice ax0 nx0 cx0] w fun e w' => e = .returned (.bool true) ∧ Below w.heap.size w w' := by
  by_cases hbig : 4096 < nx0
  · have hb : decide (4096 < (nx0 : Int)) = true := by simp; omega
    go_enter Try.func7, Try.ntmps7
    go_wp2_with fail
    refine (big_any _ _ _ _).mono ?_
    rintro e w1 ⟨rfl, rfl⟩
    go_wp2_with fail
    go_ret
    exact ⟨rfl, Below.refl _ _⟩
  have hb : decide (4096 < (nx0 : Int)) = false := by simp; omega
  go_enter Try.func7, Try.ntmps7
  go_wp2_with fail
  refine (big_any _ _ _ _).mono ?_
  rintro e w1 ⟨rfl, rfl⟩
  clear hb
  go_wp2_with fail
  refine (DrawMixPoints_any _ _ _ _ _ wx0 (by omega)).mono ?_
  rintro e w1 ⟨p, q, r, s, t, rfl, HB⟩
  have IM := Lib.hid (fun W => impl_MixPoints_any p q r s t W)
  have SP := Lib.hid (fun W => spec_MixPoints_any p q r s t W)
  have H1 := Lib.hid (fun h => mixV_code (a := p) (b := q) (c := r) (d := s) (t := t) h)
  have H2 := Lib.hid (fun h => mixV_ok (a := p) (b := q) (c := r) (d := s) (t := t) h)
  have H3 := Lib.hid (fun h => mixV_ends (a := p) (b := q) (c := r) (d := s) (t := t) h)
  have H4 := Lib.hid (fun h => mixV_sh (a := p) (b := q) (c := r) (d := s) (t := t) h)
  have H5 := Lib.hid (fun h => mixV_mid (a := p) (b := q) (c := r) (d := s) (t := t) h)
  obtain ⟨N, hN⟩ : ∃ x, (mixV p q r s t).1 = x := ⟨_, rfl⟩
  obtain ⟨D, hD⟩ : ∃ x, (mixV p q r s t).2.1 = x := ⟨_, rfl⟩
  obtain ⟨C, hC⟩ : ∃ x, (mixV p q r s t).2.2 = x := ⟨_, rfl⟩
  rw [hN, hD, hC] at IM SP H1 H4 H5
  rw [hC] at H2 H3
  clear hN hD hC
  have hcc : (C != C) = false := by simp
  go_wp2_with fail
  have R0 := Lib.hid (two_new w1 p q 23)
  replace HB := HB.alloc HB.size (.cells #[.int .i64 p, .int .i64 q] 23)
  replace R0 := Lib.hid (R0.out.alloc (.cells #[.int .i64 r, .int .i64 s] 23))
  have R1 := Lib.hid (two_new (w1.alloc (.cells #[.int .i64 p, .int .i64 q] 23)) r s 23)
  replace HB := HB.alloc HB.size (.cells #[.int .i64 r, .int .i64 s] 23)
  simp only [World.size_alloc] at R1
  refine (IM.out _).mono ?_
  rintro e w2 ⟨rfl, hb⟩
  have z2 := hb.size
  simp only [World.size_alloc] at z2
  replace R0 := Lib.hid (rowIs_below R0.out hb R0.out.lt)
  replace R1 := Lib.hid (rowIs_below R1.out hb R1.out.lt)
  replace HB := HB.trans (hb.mono HB.size)
  clear hb
  obtain ⟨r0c10, r0c11, _, _⟩ := two_cells R0.out
  have r0c1l := R0.out.lt
  obtain ⟨r1c10, r1c11, _, _⟩ := two_cells R1.out
  have r1c1l := R1.out.lt
  go_wp2_with fail
  clear r0c10 r0c11 r1c10 r1c11
  replace R0 := Lib.hid (R0.out.alloc (.cells #[.int .i64 N, .int .i64 D] 23))
  replace R1 := Lib.hid (R1.out.alloc (.cells #[.int .i64 N, .int .i64 D] 23))
  have R2 := Lib.hid (two_new w2 N D 23)
  replace HB := HB.alloc HB.size (.cells #[.int .i64 N, .int .i64 D] 23)
  refine (SP.out _).mono ?_
  rintro e w3 ⟨rfl, hb⟩
  have z3 := hb.size
  simp only [World.size_alloc] at z3
  replace R0 := Lib.hid (rowIs_below R0.out hb R0.out.lt)
  replace R1 := Lib.hid (rowIs_below R1.out hb R1.out.lt)
  replace R2 := Lib.hid (rowIs_below R2.out hb R2.out.lt)
  replace HB := HB.trans (hb.mono HB.size)
  clear hb
  obtain ⟨r0c20, r0c21, _, _⟩ := two_cells R0.out
  have r0c2l := R0.out.lt
  obtain ⟨r1c20, r1c21, _, _⟩ := two_cells R1.out
  have r1c2l := R1.out.lt
  obtain ⟨r2c20, r2c21, _, _⟩ := two_cells R2.out
  have r2c2l := R2.out.lt
  have y3 : w2.heap.size < w3.heap.size := by omega
  by_cases hC0 : C = 0
  · subst hC0
    obtain ⟨s1, s2, _, _, _⟩ := H2.out rfl
    obtain ⟨e1, e2⟩ := H3.out rfl
    have s3 := H4.out rfl
    have IM0 := Lib.hid (fun W => impl_MixPoints_any p q r s 0 W)
    have IM1 := Lib.hid (fun W => impl_MixPoints_any p q r s 1000 W)
    rw [e1] at IM0
    rw [e2] at IM1
    have K1 := Lib.hid (fun W => CompareShares_ok N D p q W s3 s1)
    have K2 := Lib.hid (fun W => CompareShares_ok N D r s W s3 s2)
    have m1 := H5.out rfl
    have b1 : -1 ≤ cmpS N D p q ∧ cmpS N D p q ≤ 1 := sign_bd _
    have b2 : -1 ≤ cmpS N D r s ∧ cmpS N D r s ≤ 1 := sign_bd _
    obtain ⟨k1, hk1⟩ : ∃ k, cmpS N D p q = k := ⟨_, rfl⟩
    obtain ⟨k2, hk2⟩ : ∃ k, cmpS N D r s = k := ⟨_, rfl⟩
    rw [hk1] at K1 m1 b1
    rw [hk2] at K2 m1 b2
    have m2 : -1 ≤ k1 * k2 := mul_one_bd b1.1 b1.2 b2.1 b2.2
    have m3 : IntKind.i64.wrap (k1 * k2) = k1 * k2 := IntWalk.i64_in _ (by omega)
    clear e1 e2 hk1 hk2 s1 s2 s3 b1 b2
    go_wp2_with fail
    clear r0c20 r0c21 r1c20 r1c21 r2c20 r2c21
    replace R0 := Lib.hid (R0.out.alloc (.cells #[.int .i64 N, .int .i64 D] 23))
    replace R1 := Lib.hid (R1.out.alloc (.cells #[.int .i64 N, .int .i64 D] 23))
    replace R2 := Lib.hid (R2.out.alloc (.cells #[.int .i64 N, .int .i64 D] 23))
    have R3 := Lib.hid (two_new w3 N D 23)
    replace HB := HB.alloc HB.size (.cells #[.int .i64 N, .int .i64 D] 23)
    refine (IM0.out _).mono ?_
    rintro e w4 ⟨rfl, hb⟩
    have z4 := hb.size
    simp only [World.size_alloc] at z4
    replace R0 := Lib.hid (rowIs_below R0.out hb R0.out.lt)
    replace R1 := Lib.hid (rowIs_below R1.out hb R1.out.lt)
    replace R2 := Lib.hid (rowIs_below R2.out hb R2.out.lt)
    replace R3 := Lib.hid (rowIs_below R3.out hb R3.out.lt)
    replace HB := HB.trans (hb.mono HB.size)
    clear hb
    obtain ⟨r0c30, r0c31, _, _⟩ := two_cells R0.out
    have r0c3l := R0.out.lt
    obtain ⟨r1c30, r1c31, _, _⟩ := two_cells R1.out
    have r1c3l := R1.out.lt
    go_wp2_with fail
    clear r0c30 r0c31 r1c30 r1c31
    replace R0 := Lib.hid (R0.out.alloc (.cells #[.int .i64 p, .int .i64 q] 23))
    replace R1 := Lib.hid (R1.out.alloc (.cells #[.int .i64 p, .int .i64 q] 23))
    replace R2 := Lib.hid (R2.out.alloc (.cells #[.int .i64 p, .int .i64 q] 23))
    replace R3 := Lib.hid (R3.out.alloc (.cells #[.int .i64 p, .int .i64 q] 23))
    have R4 := Lib.hid (two_new w4 p q 23)
    replace HB := HB.alloc HB.size (.cells #[.int .i64 p, .int .i64 q] 23)
    refine (IM1.out _).mono ?_
    rintro e w5 ⟨rfl, hb⟩
    have z5 := hb.size
    simp only [World.size_alloc] at z5
    replace R0 := Lib.hid (rowIs_below R0.out hb R0.out.lt)
    replace R1 := Lib.hid (rowIs_below R1.out hb R1.out.lt)
    replace R2 := Lib.hid (rowIs_below R2.out hb R2.out.lt)
    replace R3 := Lib.hid (rowIs_below R3.out hb R3.out.lt)
    replace R4 := Lib.hid (rowIs_below R4.out hb R4.out.lt)
    replace HB := HB.trans (hb.mono HB.size)
    clear hb
    obtain ⟨r0c40, r0c41, _, _⟩ := two_cells R0.out
    have r0c4l := R0.out.lt
    obtain ⟨r1c40, r1c41, _, _⟩ := two_cells R1.out
    have r1c4l := R1.out.lt
    obtain ⟨r2c40, r2c41, _, _⟩ := two_cells R2.out
    have r2c4l := R2.out.lt
    obtain ⟨r4c40, r4c41, _, _⟩ := two_cells R4.out
    have r4c4l := R4.out.lt
    have y5 : w4.heap.size < w5.heap.size := by omega
    go_wp2_with fail
    clear r0c40 r0c41 r1c40 r1c41 r2c40 r2c41 r4c40 r4c41
    replace R0 := Lib.hid (R0.out.alloc (.cells #[.int .i64 r, .int .i64 s] 23))
    replace R1 := Lib.hid (R1.out.alloc (.cells #[.int .i64 r, .int .i64 s] 23))
    replace R2 := Lib.hid (R2.out.alloc (.cells #[.int .i64 r, .int .i64 s] 23))
    replace R3 := Lib.hid (R3.out.alloc (.cells #[.int .i64 r, .int .i64 s] 23))
    replace R4 := Lib.hid (R4.out.alloc (.cells #[.int .i64 r, .int .i64 s] 23))
    have R5 := Lib.hid (two_new w5 r s 23)
    replace HB := HB.alloc HB.size (.cells #[.int .i64 r, .int .i64 s] 23)
    refine (K1.out _).mono ?_
    rintro e w6 ⟨rfl, hb⟩
    replace R0 := Lib.hid (rowIs_below R0.out hb R0.out.lt)
    replace R1 := Lib.hid (rowIs_below R1.out hb R1.out.lt)
    replace R2 := Lib.hid (rowIs_below R2.out hb R2.out.lt)
    replace R3 := Lib.hid (rowIs_below R3.out hb R3.out.lt)
    replace R4 := Lib.hid (rowIs_below R4.out hb R4.out.lt)
    replace R5 := Lib.hid (rowIs_below R5.out hb R5.out.lt)
    replace HB := HB.trans (hb.mono HB.size)
    clear hb
    obtain ⟨r0c50, r0c51, _, _⟩ := two_cells R0.out
    have r0c5l := R0.out.lt
    obtain ⟨r1c50, r1c51, _, _⟩ := two_cells R1.out
    have r1c5l := R1.out.lt
    obtain ⟨r2c50, r2c51, _, _⟩ := two_cells R2.out
    have r2c5l := R2.out.lt
    go_wp2_with fail
    clear r0c50 r0c51 r1c50 r1c51 r2c50 r2c51
    refine (K2.out _).mono ?_
    rintro e w7 ⟨rfl, hb⟩
    replace R0 := Lib.hid (rowIs_below R0.out hb R0.out.lt)
    replace R1 := Lib.hid (rowIs_below R1.out hb R1.out.lt)
    replace R2 := Lib.hid (rowIs_below R2.out hb R2.out.lt)
    replace R3 := Lib.hid (rowIs_below R3.out hb R3.out.lt)
    replace R4 := Lib.hid (rowIs_below R4.out hb R4.out.lt)
    replace R5 := Lib.hid (rowIs_below R5.out hb R5.out.lt)
    replace HB := HB.trans (hb.mono HB.size)
    clear hb
    go_wp2_with fail
    go_ret
    exact ⟨rfl, HB⟩
  · have hC1 : (C != 0) = true := by simpa using hC0
    obtain ⟨rfl, rfl⟩ := H1.out hC0
    replace HB := HB.alloc HB.size (.cells #[.int .i64 0, .int .i64 0] 23)
    go_wp2_with fail
    go_ret
    exact ⟨rfl, HB⟩
namespace fnMixed
set_option linter.unusedVariables false
set_option maxRecDepth 100000 in
theorem lifted (os : Os) (started : os.Started) (H : Type) (enc : TypeId × Value → H) :
    ReturnsInHanded {} Try.checked os 7 .any (Rows.fnMixedSpec.pre6 enc Try.prog Try.f7 Rows.fnMixedRow.domain false) (Rows.fnMixedSpec.post enc Try.prog Try.f7 false true false false) := by
  refine returnsInHanded_of_change (C := Try.checked) own started (by kernel_rfl) Try.func7
    (ChangeSpec.witness6 (enc := enc) (C := Try.checked) false ⟨#[], #[.slice none 0 0], []⟩ 8 (by kernel_rfl) (by kernel_rfl) (by kernel_rfl) (by kernel_rfl)) ?_
  intro W base args ds gs before hval0 hW hcnd _
  have hval : ∀ (j : Nat) t v, Try.f7.params[j]? = some t → args[j]? = some v → Value.okWide Try.prog W .any base t v := hval0
  have hW' := hW
  obtain ⟨p, q, hA0, hV, rfl, hfz, hnd⟩ := hW
  have hA : DataW.TrodAll enc Try.prog W 0 (fun _ => true) true Try.f7.params.toList args.toList ds p := hA0
  rw [Try.params7] at hA hval
  obtain ⟨v0, vs0, d0, ds0, p0, q0, hargs, rfl, rfl, h0, r0⟩ := trodAll_cons hA
  obtain ⟨rfl, rfl, rfl⟩ := trodAll_nil r0
  obtain rfl : args = #[v0] := by cases args; simp_all
  obtain ⟨rfl, rfl⟩ := trodVars_none hV
  obtain ⟨ax0, nx0, cx0, x0, rfl, wx0⟩ := open_ints_arg Try.underlying28 Try.underlying5 (by kernel_rfl) (hval 0 28 v0 rfl rfl) h0
  clear hA0 hval0
  refine (walk_FnMixed W ax0 nx0 cx0 x0 wx0).mono fun e W' ⟨he, bel⟩ => ?_
  subst he
  exact ⟨_, rfl, _, _, _, [], _, [], hW', trodAll_mk1 (shut_bool Try.underlying4 _), (trodAll_cons_mk (Below.trod laidOut (by kernel_rfl) (of_decide_eq_true (by kernel_rfl)) h0 bel (lt_of_trod h0)) trodAll_mk0), rfl, bel.frame _, fun h => by cases h⟩

theorem over : Rows.fnMixedRow.holds Try.pinned (OpenSpec.ofChange Rows.fnMixedSpec) :=
  OpenClaim.holds_of_wide 7 Try.f7 rfl rfl rfl rfl rfl rfl rfl ⟨rfl, rfl, rfl, rfl, rfl⟩ rfl rfl rfl rfl rfl (by kernel_rfl) Try.func7 (by kernel_rfl)
    (of_decide_eq_true (by kernel_rfl)) (by unfold Func.isWrapper; first | (rw [if_pos (by decide +kernel)]; kernel_rfl) | (rw [if_neg (by decide +kernel)]; exact ⟨rfl, rfl⟩))
    (fun os started H enc _ => lifted os started H enc)
theorem proved : Rows.FnMixedSaid := over
#print axioms proved
end fnMixed
end Go.Proofs.Ytjagidpjdajpnaa
