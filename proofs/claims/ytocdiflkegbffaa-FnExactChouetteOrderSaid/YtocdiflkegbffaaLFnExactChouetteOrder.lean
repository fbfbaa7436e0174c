/-
  FnExactChouetteOrder returns true for all lists: ChouetteOrder of the program and of the reference agree, the lists are left as they were, and the result is new memory. No condition.
-/
import Derived.Test.YtocdiflkegbffaaOpen
import Derived.Test.YtocdiflkegbffaaNext
namespace Go.Proofs.Ytocdiflkegbffaa
open Go.ChangeShapes Go.WideShapes Go.ChangeAt Go.RowKit
set_option linter.unusedVariables false

set_option maxHeartbeats 3200000 in
theorem walk_FnExactChouetteOrder (w : World) (ax0 : Option Addr) (nx0 cx0 : Nat) (x0 : List Int) (wx0 : IntsArg w .i64 ax0 nx0 x0) (ax1 : Option Addr) (nx1 cx1 : Nat) (x1 : List Int) (wx1 : IntsArg w .i64 ax1 nx1 x1) :
    Calls Try.prog 8 #[.slice ax0 nx0 cx0, .slice ax1 nx1 cx1] w fun e w' => e = .returned (.bool true) ∧ Below w.heap.size w w' := by
  obtain ⟨hI, _, _⟩ := wx0
  obtain ⟨hJ, _, _⟩ := wx1
  by_cases hbig : 1048576 < nx0
  · go_enter Try.func8, Try.ntmps8
    go_wp2_with fail
    go_ret
    exact ⟨rfl, Below.refl _ _⟩
  · have hn : nx0 ≤ 1048576 := by omega
    clear hbig
    by_cases hbig : 1048576 < nx1
    · go_enter Try.func8, Try.ntmps8
      go_wp2_with fail
      go_ret
      exact ⟨rfl, Below.refl _ _⟩
    · have hm : nx1 ≤ 1048576 := by omega
      clear hbig
      have HB := Below.refl w.heap.size w
      go_enter Try.func8, Try.ntmps8
      go_wp2_with fail
      refine (toInt64S_R _ _ _ _ _ (hI.more HB.size) hn).mono ?_
      rintro e w1 ⟨rfl, hr1, hb⟩
      have z1 := hb.size
      replace hI := hI.below (hb.mono HB.size)
      replace hJ := hJ.below (hb.mono HB.size)
      replace HB := HB.trans (hb.mono HB.size)
      clear hb
      go_wp2_with fail
      refine (toInt64S_R _ _ _ _ _ (hJ.more HB.size) hm).mono ?_
      rintro e w2 ⟨rfl, hr2, hb⟩
      have z2 := hb.size
      replace hI := hI.below (hb.mono HB.size)
      replace hJ := hJ.below (hb.mono HB.size)
      replace hr1 := hr1.below hb
      replace HB := HB.trans (hb.mono HB.size)
      clear hb
      go_wp2_with fail
      refine (spec_ChouetteOrder_any _ _ _ _ _ _ _ _ _ (hr1.ints hI.len) (hr2.ints hJ.len) (Nat.le_refl _) hn hm).mono ?_
      rintro e w3 ⟨a1, k1, c1, rfl, hl1, hw, hb⟩
      have z3 := hb.size
      replace hI := hI.below (hb.mono HB.size)
      replace hJ := hJ.below (hb.mono HB.size)
      replace hr1 := hr1.below hb
      replace hr2 := hr2.below hb
      replace HB := HB.trans (hb.mono HB.size)
      clear hb
      have HL := Lib.hid hl1
      have hm8 : k1 ≤ 8 := by have := coL_len (m := nx1) (ys := x1) hI.len; omega
      clear hl1
      go_wp2_with fail
      refine (toInt64S_R _ _ _ _ _ (hI.more HB.size) hn).mono ?_
      rintro e w4 ⟨rfl, hr3, hb⟩
      have z4 := hb.size
      replace hI := hI.below (hb.mono HB.size)
      replace hJ := hJ.below (hb.mono HB.size)
      replace hr1 := hr1.below hb
      replace hr2 := hr2.below hb
      replace hw := hw.below hb
      replace HB := HB.trans (hb.mono HB.size)
      clear hb
      go_wp2_with fail
      refine (toInt64S_R _ _ _ _ _ (hJ.more HB.size) hm).mono ?_
      rintro e w5 ⟨rfl, hr4, hb⟩
      have z5 := hb.size
      replace hI := hI.below (hb.mono HB.size)
      replace hJ := hJ.below (hb.mono HB.size)
      replace hr1 := hr1.below hb
      replace hr2 := hr2.below hb
      replace hw := hw.below hb
      replace hr3 := hr3.below hb
      replace HB := HB.trans (hb.mono HB.size)
      clear hb
      go_wp2_with fail
      refine (impl_ChouetteOrder_any _ _ _ _ _ _ _ _ _ (hr3.ints hI.len) (hr4.ints hJ.len) (Nat.le_refl _) hn hm).mono ?_
      rintro e w6 ⟨a2, k2, c2, rfl, hl2, hg, hb⟩
      have z6 := hb.size
      replace hI := hI.below (hb.mono HB.size)
      replace hJ := hJ.below (hb.mono HB.size)
      replace hr1 := hr1.below hb
      replace hr2 := hr2.below hb
      replace hw := hw.below hb
      replace hr3 := hr3.below hb
      replace hr4 := hr4.below hb
      replace HB := HB.trans (hb.mono HB.size)
      clear hb
      obtain rfl : k2 = k1 := hl2.symm.trans HL.out
      clear hl2
      go_wp2_with fail
      refine (eqInt64S_b _ _ _ _ _ _ _ _ _ (hg.ints HL.out) (hw.ints HL.out) (by omega)).mono ?_
      rintro e w7 ⟨rfl, hb⟩
      have z7 := hb.size
      replace hI := hI.below (hb.mono HB.size)
      replace hJ := hJ.below (hb.mono HB.size)
      replace hr1 := hr1.below hb
      replace hr2 := hr2.below hb
      replace hw := hw.below hb
      replace hr3 := hr3.below hb
      replace hr4 := hr4.below hb
      replace hg := hg.below hb
      replace HB := HB.trans (hb.mono HB.size)
      clear hb
      go_wp2_with fail
      refine (toInt64S_R _ _ _ _ _ (hI.more HB.size) hn).mono ?_
      rintro e w8 ⟨rfl, hr5, hb⟩
      have z8 := hb.size
      replace hI := hI.below (hb.mono HB.size)
      replace hJ := hJ.below (hb.mono HB.size)
      replace hr1 := hr1.below hb
      replace hr2 := hr2.below hb
      replace hw := hw.below hb
      replace hr3 := hr3.below hb
      replace hr4 := hr4.below hb
      replace hg := hg.below hb
      replace HB := HB.trans (hb.mono HB.size)
      clear hb
      go_wp2_with fail
      refine (eqInt64S_b _ _ _ _ _ _ _ _ _ (hr3.ints hI.len) (hr5.ints hI.len) hn).mono ?_
      rintro e w9 ⟨rfl, hb⟩
      have z9 := hb.size
      replace hI := hI.below (hb.mono HB.size)
      replace hJ := hJ.below (hb.mono HB.size)
      replace hr1 := hr1.below hb
      replace hr2 := hr2.below hb
      replace hw := hw.below hb
      replace hr3 := hr3.below hb
      replace hr4 := hr4.below hb
      replace hg := hg.below hb
      replace hr5 := hr5.below hb
      replace HB := HB.trans (hb.mono HB.size)
      clear hb
      go_wp2_with fail
      refine (toInt64S_R _ _ _ _ _ (hJ.more HB.size) hm).mono ?_
      rintro e w10 ⟨rfl, hr6, hb⟩
      have z10 := hb.size
      replace hI := hI.below (hb.mono HB.size)
      replace hJ := hJ.below (hb.mono HB.size)
      replace hr1 := hr1.below hb
      replace hr2 := hr2.below hb
      replace hw := hw.below hb
      replace hr3 := hr3.below hb
      replace hr4 := hr4.below hb
      replace hg := hg.below hb
      replace hr5 := hr5.below hb
      replace HB := HB.trans (hb.mono HB.size)
      clear hb
      go_wp2_with fail
      refine (eqInt64S_b _ _ _ _ _ _ _ _ _ (hr4.ints hJ.len) (hr6.ints hJ.len) hm).mono ?_
      rintro e w11 ⟨rfl, hb⟩
      have z11 := hb.size
      replace hI := hI.below (hb.mono HB.size)
      replace hJ := hJ.below (hb.mono HB.size)
      replace hr1 := hr1.below hb
      replace hr2 := hr2.below hb
      replace hw := hw.below hb
      replace hr3 := hr3.below hb
      replace hr4 := hr4.below hb
      replace hg := hg.below hb
      replace hr5 := hr5.below hb
      replace hr6 := hr6.below hb
      replace HB := HB.trans (hb.mono HB.size)
      clear hb
      go_wp2_with fail
      refine (markInt64S_any _ _ _ _ _ _ _ _ _ hr3 (by omega) (by omega) hn).mono ?_
      rintro e w12 ⟨rfl, hm, ho⟩
      have z12 := ho.size
      replace hI := hI.out ho (by omega) HB.size
      replace hJ := hJ.out ho (by omega) HB.size
      replace hr1 := hr1.out ho (by omega)
      replace hr2 := hr2.out ho (by omega)
      replace hw := hw.out ho (by omega)
      replace hr4 := hr4.out ho (by omega)
      replace hg := hg.out ho (by omega)
      replace hr5 := hr5.out ho (by omega)
      replace hr6 := hr6.out ho (by omega)
      replace HB := Out.below HB ho (by omega)
      clear ho
      replace hr3 := hm
      clear hm
      go_wp2_with fail
      refine (markInt64S_any _ _ _ _ _ _ _ _ _ hr4 (by omega) (by omega) hm).mono ?_
      rintro e w13 ⟨rfl, hm, ho⟩
      have z13 := ho.size
      replace hI := hI.out ho (by omega) HB.size
      replace hJ := hJ.out ho (by omega) HB.size
      replace hr1 := hr1.out ho (by omega)
      replace hr2 := hr2.out ho (by omega)
      replace hw := hw.out ho (by omega)
      replace hr3 := hr3.out ho (by omega)
      replace hg := hg.out ho (by omega)
      replace hr5 := hr5.out ho (by omega)
      replace hr6 := hr6.out ho (by omega)
      replace HB := Out.below HB ho (by omega)
      clear ho
      replace hr4 := hm
      clear hm
      go_wp2_with fail
      refine (eqInt64S_b _ _ _ _ _ _ _ _ _ (hg.ints HL.out) (hw.ints HL.out) (by omega)).mono ?_
      rintro e w14 ⟨rfl, hb⟩
      have z14 := hb.size
      replace hI := hI.below (hb.mono HB.size)
      replace hJ := hJ.below (hb.mono HB.size)
      replace hr1 := hr1.below hb
      replace hr2 := hr2.below hb
      replace hw := hw.below hb
      replace hr3 := hr3.below hb
      replace hr4 := hr4.below hb
      replace hg := hg.below hb
      replace hr5 := hr5.below hb
      replace hr6 := hr6.below hb
      replace HB := HB.trans (hb.mono HB.size)
      clear hb
      go_wp2_with fail
      refine (markInt64S_any _ _ _ _ _ _ _ _ _ hg (by omega) (by omega) (by omega)).mono ?_
      rintro e w15 ⟨rfl, hm, ho⟩
      have z15 := ho.size
      replace hI := hI.out ho (by omega) HB.size
      replace hJ := hJ.out ho (by omega) HB.size
      replace hr1 := hr1.out ho (by omega)
      replace hr2 := hr2.out ho (by omega)
      replace hw := hw.out ho (by omega)
      replace hr3 := hr3.out ho (by omega)
      replace hr4 := hr4.out ho (by omega)
      replace hr5 := hr5.out ho (by omega)
      replace hr6 := hr6.out ho (by omega)
      replace HB := Out.below HB ho (by omega)
      clear ho
      replace hg := hm
      clear hm
      go_wp2_with fail
      refine (heldInt64S_any _ _ _ _ _ _ _ _ hg (by omega) (by omega) (by omega)).mono ?_
      rintro e w' ⟨rfl, rfl⟩
      go_wp2_with fail
      refine (toInt64S_R _ _ _ _ _ (hI.more HB.size) hn).mono ?_
      rintro e w16 ⟨rfl, hr7, hb⟩
      have z16 := hb.size
      replace hI := hI.below (hb.mono HB.size)
      replace hJ := hJ.below (hb.mono HB.size)
      replace hr1 := hr1.below hb
      replace hr2 := hr2.below hb
      replace hw := hw.below hb
      replace hr3 := hr3.below hb
      replace hr4 := hr4.below hb
      replace hg := hg.below hb
      replace hr5 := hr5.below hb
      replace hr6 := hr6.below hb
      replace HB := HB.trans (hb.mono HB.size)
      clear hb
      go_wp2_with fail
      refine (toInt64S_R _ _ _ _ _ (hJ.more HB.size) hm).mono ?_
      rintro e w17 ⟨rfl, hr8, hb⟩
      have z17 := hb.size
      replace hI := hI.below (hb.mono HB.size)
      replace hJ := hJ.below (hb.mono HB.size)
      replace hr1 := hr1.below hb
      replace hr2 := hr2.below hb
      replace hw := hw.below hb
      replace hr3 := hr3.below hb
      replace hr4 := hr4.below hb
      replace hg := hg.below hb
      replace hr5 := hr5.below hb
      replace hr6 := hr6.below hb
      replace hr7 := hr7.below hb
      replace HB := HB.trans (hb.mono HB.size)
      clear hb
      go_wp2_with fail
      refine (impl_ChouetteOrder_any _ _ _ _ _ _ _ _ _ (hr7.ints hI.len) (hr8.ints hJ.len) (Nat.le_refl _) hn hm).mono ?_
      rintro e w18 ⟨a3, k3, c3, rfl, hl3, hh, hb⟩
      have z18 := hb.size
      replace hI := hI.below (hb.mono HB.size)
      replace hJ := hJ.below (hb.mono HB.size)
      replace hr1 := hr1.below hb
      replace hr2 := hr2.below hb
      replace hw := hw.below hb
      replace hr3 := hr3.below hb
      replace hr4 := hr4.below hb
      replace hg := hg.below hb
      replace hr5 := hr5.below hb
      replace hr6 := hr6.below hb
      replace hr7 := hr7.below hb
      replace hr8 := hr8.below hb
      replace HB := HB.trans (hb.mono HB.size)
      clear hb
      obtain rfl : k3 = k2 := hl3.symm.trans HL.out
      clear hl3
      go_wp2_with fail
      refine (eqInt64S_b _ _ _ _ _ _ _ _ _ (hh.ints HL.out) (hw.ints HL.out) (by omega)).mono ?_
      rintro e w19 ⟨rfl, hb⟩
      have z19 := hb.size
      replace hI := hI.below (hb.mono HB.size)
      replace hJ := hJ.below (hb.mono HB.size)
      replace hr1 := hr1.below hb
      replace hr2 := hr2.below hb
      replace hw := hw.below hb
      replace hr3 := hr3.below hb
      replace hr4 := hr4.below hb
      replace hg := hg.below hb
      replace hr5 := hr5.below hb
      replace hr6 := hr6.below hb
      replace hr7 := hr7.below hb
      replace hr8 := hr8.below hb
      replace hh := hh.below hb
      replace HB := HB.trans (hb.mono HB.size)
      clear hb
      go_wp2_with fail
      refine (heldInt64S_any _ _ _ _ _ _ _ _ hg (by omega) (by omega) (by omega)).mono ?_
      rintro e w' ⟨rfl, rfl⟩
      go_wp2_with fail
      go_ret
      exact ⟨rfl, HB⟩
namespace fnExactChouetteOrder
set_option linter.unusedVariables false
set_option maxRecDepth 100000 in
theorem lifted (os : Os) (started : os.Started) (H : Type) (enc : TypeId × Value → H) :
    ReturnsInHanded {} Try.checked os 8 .any (Rows.fnExactChouetteOrderSpec.pre6 enc Try.prog Try.f8 Rows.fnExactChouetteOrderRow.domain false) (Rows.fnExactChouetteOrderSpec.post enc Try.prog Try.f8 false true false false) := by
  refine returnsInHanded_of_change (C := Try.checked) own started (by kernel_rfl) Try.func8
    (ChangeSpec.witness6 (enc := enc) (C := Try.checked) false ⟨#[], #[.slice none 0 0, .slice none 0 0], []⟩ 8 (by kernel_rfl) (by kernel_rfl) (by kernel_rfl) (by kernel_rfl)) ?_
  intro W base args ds gs before hval0 hW hcnd _
  have hval : ∀ (j : Nat) t v, Try.f8.params[j]? = some t → args[j]? = some v → Value.okWide Try.prog W .any base t v := hval0
  have hW' := hW
  obtain ⟨p, q, hA0, hV, rfl, hfz, hnd⟩ := hW
  have hA : DataW.TrodAll enc Try.prog W 0 (fun _ => true) true Try.f8.params.toList args.toList ds p := hA0
  rw [Try.params8] at hA hval
  obtain ⟨v0, vs0, d0, ds0, p0, q0, hargs, rfl, rfl, h0, r0⟩ := trodAll_cons hA
  obtain ⟨v1, vs1, d1, ds1, p1, q1, rfl, rfl, rfl, h1, r1⟩ := trodAll_cons r0
  obtain ⟨rfl, rfl, rfl⟩ := trodAll_nil r1
  obtain rfl : args = #[v0, v1] := by cases args; simp_all
  obtain ⟨rfl, rfl⟩ := trodVars_none hV
  obtain ⟨ax0, nx0, cx0, x0, rfl, wx0⟩ := open_ints_arg Try.underlying29 Try.underlying2 (by kernel_rfl) (hval 0 29 v0 rfl rfl) h0
  obtain ⟨ax1, nx1, cx1, x1, rfl, wx1⟩ := open_ints_arg Try.underlying29 Try.underlying2 (by kernel_rfl) (hval 1 29 v1 rfl rfl) h1
  clear hA0 hval0
  refine (walk_FnExactChouetteOrder W ax0 nx0 cx0 x0 wx0 ax1 nx1 cx1 x1 wx1).mono fun e W' ⟨he, bel⟩ => ?_
  subst he
  exact ⟨_, rfl, _, _, _, [], _, [], hW', trodAll_mk1 (shut_bool Try.underlying4 _), (trodAll_cons_mk (Below.trod laidOut (by kernel_rfl) (of_decide_eq_true (by kernel_rfl)) h0 bel (lt_of_trod h0)) (trodAll_cons_mk (Below.trod laidOut (by kernel_rfl) (of_decide_eq_true (by kernel_rfl)) h1 bel (lt_of_trod h1)) trodAll_mk0)), rfl, bel.frame _, fun h => by cases h⟩

theorem over : Rows.fnExactChouetteOrderRow.holds Try.pinned (OpenSpec.ofChange Rows.fnExactChouetteOrderSpec) :=
  OpenClaim.holds_of_wide 8 Try.f8 rfl rfl rfl rfl rfl rfl rfl ⟨rfl, rfl, rfl, rfl, rfl⟩ rfl rfl rfl rfl rfl (by kernel_rfl) Try.func8 (by kernel_rfl)
    (of_decide_eq_true (by kernel_rfl)) (by unfold Func.isWrapper; first | (rw [if_pos (by decide +kernel)]; kernel_rfl) | (rw [if_neg (by decide +kernel)]; exact ⟨rfl, rfl⟩))
    (fun os started H enc _ => lifted os started H enc)
theorem proved : Rows.FnExactChouetteOrderSaid := over
#print axioms proved
end fnExactChouetteOrder
end Go.Proofs.Ytocdiflkegbffaa
