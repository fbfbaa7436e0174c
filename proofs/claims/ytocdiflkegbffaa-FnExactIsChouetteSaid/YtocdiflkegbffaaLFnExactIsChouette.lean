/-
  FnExactIsChouette returns true for all lists: IsChouette of the program and of the reference agree, and the lists are left as they were. No condition.
-/
import Derived.Test.YtocdiflkegbffaaOpen
import Derived.Test.YtocdiflkegbffaaCh
namespace Go.Proofs.Ytocdiflkegbffaa
open Go.ChangeShapes Go.WideShapes Go.ChangeAt Go.RowKit
set_option linter.unusedVariables false

set_option maxHeartbeats 1600000 in
theorem walk_FnExactIsChouette (w : World) (ax0 : Option Addr) (nx0 cx0 : Nat) (x0 : List Int) (wx0 : IntsArg w .i64 ax0 nx0 x0) (ax1 : Option Addr) (nx1 cx1 : Nat) (x1 : List Int) (wx1 : IntsArg w .i64 ax1 nx1 x1) :
    Calls Try.prog 4 #[.slice ax0 nx0 cx0, .slice ax1 nx1 cx1] w fun e w' => e = .returned (.bool true) ∧ Below w.heap.size w w' := by
  obtain ⟨hI, _, _⟩ := wx0
  obtain ⟨hJ, _, _⟩ := wx1
  by_cases hbig : 1048576 < nx0
  · go_enter Try.func4, Try.ntmps4
    go_wp2_with fail
    go_ret
    exact ⟨rfl, Below.refl _ _⟩
  · have hn : nx0 ≤ 1048576 := by omega
    clear hbig
    by_cases hbig : 1048576 < nx1
    · go_enter Try.func4, Try.ntmps4
      go_wp2_with fail
      go_ret
      exact ⟨rfl, Below.refl _ _⟩
    · have hm : nx1 ≤ 1048576 := by omega
      clear hbig
      have HB := Below.refl w.heap.size w
      go_enter Try.func4, Try.ntmps4
      go_wp2_with fail
      refine (toInt64S_R _ _ _ _ _ (hI.more HB.size) hn).mono ?_
      rintro e w1 ⟨rfl, hr1, hb⟩
      have z1 := hb.size
      replace hI := hI.below (hb.mono HB.size)
      replace hJ := hJ.below (hb.mono HB.size)
      replace HB := HB.trans (hb.mono HB.size)
      clear hb
      go_wp2_with fail
      refine (toInt64S_R _ _ _ _ _ (hJ.more HB.size) hm).mono ?_
      rintro e w2 ⟨rfl, hr2, hb⟩
      have z2 := hb.size
      replace hI := hI.below (hb.mono HB.size)
      replace hJ := hJ.below (hb.mono HB.size)
      replace hr1 := hr1.below hb
      replace HB := HB.trans (hb.mono HB.size)
      clear hb
      go_wp2_with fail
      refine (spec_IsChouette_any _ _ _ _ _ _ _ _ _ _ _ (hr1.ints hI.len) (hr2.ints hJ.len) (Nat.le_refl _) (Nat.le_refl _) hn hm).mono ?_
      rintro e w3 ⟨rfl, hb⟩
      have z3 := hb.size
      replace hI := hI.below (hb.mono HB.size)
      replace hJ := hJ.below (hb.mono HB.size)
      replace hr1 := hr1.below hb
      replace hr2 := hr2.below hb
      replace HB := HB.trans (hb.mono HB.size)
      clear hb
      go_wp2_with fail
      refine (toInt64S_R _ _ _ _ _ (hI.more HB.size) hn).mono ?_
      rintro e w4 ⟨rfl, hr3, hb⟩
      have z4 := hb.size
      replace hI := hI.below (hb.mono HB.size)
      replace hJ := hJ.below (hb.mono HB.size)
      replace hr1 := hr1.below hb
      replace hr2 := hr2.below hb
      replace HB := HB.trans (hb.mono HB.size)
      clear hb
      go_wp2_with fail
      refine (toInt64S_R _ _ _ _ _ (hJ.more HB.size) hm).mono ?_
      rintro e w5 ⟨rfl, hr4, hb⟩
      have z5 := hb.size
      replace hI := hI.below (hb.mono HB.size)
      replace hJ := hJ.below (hb.mono HB.size)
      replace hr1 := hr1.below hb
      replace hr2 := hr2.below hb
      replace hr3 := hr3.below hb
      replace HB := HB.trans (hb.mono HB.size)
      clear hb
      go_wp2_with fail
      refine (impl_IsChouette_any _ _ _ _ _ _ _ _ _ _ _ (hr3.ints hI.len) (hr4.ints hJ.len) (Nat.le_refl _) hn hm).mono ?_
      rintro e w' ⟨rfl, rfl⟩
      go_wp2_with fail
      refine (toInt64S_R _ _ _ _ _ (hI.more HB.size) hn).mono ?_
      rintro e w6 ⟨rfl, hr5, hb⟩
      have z6 := hb.size
      replace hI := hI.below (hb.mono HB.size)
      replace hJ := hJ.below (hb.mono HB.size)
      replace hr1 := hr1.below hb
      replace hr2 := hr2.below hb
      replace hr3 := hr3.below hb
      replace hr4 := hr4.below hb
      replace HB := HB.trans (hb.mono HB.size)
      clear hb
      go_wp2_with fail
      refine (eqInt64S_b _ _ _ _ _ _ _ _ _ (hr3.ints hI.len) (hr5.ints hI.len) hn).mono ?_
      rintro e w7 ⟨rfl, hb⟩
      have z7 := hb.size
      replace hI := hI.below (hb.mono HB.size)
      replace hJ := hJ.below (hb.mono HB.size)
      replace hr1 := hr1.below hb
      replace hr2 := hr2.below hb
      replace hr3 := hr3.below hb
      replace hr4 := hr4.below hb
      replace hr5 := hr5.below hb
      replace HB := HB.trans (hb.mono HB.size)
      clear hb
      go_wp2_with fail
      refine (toInt64S_R _ _ _ _ _ (hJ.more HB.size) hm).mono ?_
      rintro e w8 ⟨rfl, hr6, hb⟩
      have z8 := hb.size
      replace hI := hI.below (hb.mono HB.size)
      replace hJ := hJ.below (hb.mono HB.size)
      replace hr1 := hr1.below hb
      replace hr2 := hr2.below hb
      replace hr3 := hr3.below hb
      replace hr4 := hr4.below hb
      replace hr5 := hr5.below hb
      replace HB := HB.trans (hb.mono HB.size)
      clear hb
      go_wp2_with fail
      refine (eqInt64S_b _ _ _ _ _ _ _ _ _ (hr4.ints hJ.len) (hr6.ints hJ.len) hm).mono ?_
      rintro e w9 ⟨rfl, hb⟩
      have z9 := hb.size
      replace hI := hI.below (hb.mono HB.size)
      replace hJ := hJ.below (hb.mono HB.size)
      replace hr1 := hr1.below hb
      replace hr2 := hr2.below hb
      replace hr3 := hr3.below hb
      replace hr4 := hr4.below hb
      replace hr5 := hr5.below hb
      replace hr6 := hr6.below hb
      replace HB := HB.trans (hb.mono HB.size)
      clear hb
      go_wp2_with fail
      go_ret
      exact ⟨rfl, HB⟩
namespace fnExactIsChouette
set_option linter.unusedVariables false
set_option maxRecDepth 100000 in
theorem lifted (os : Os) (started : os.Started) (H : Type) (enc : TypeId × Value → H) :
    ReturnsInHanded {} Try.checked os 4 .any (Rows.fnExactIsChouetteSpec.pre6 enc Try.prog Try.f4 Rows.fnExactIsChouetteRow.domain false) (Rows.fnExactIsChouetteSpec.post enc Try.prog Try.f4 false true false false) := by
  refine returnsInHanded_of_change (C := Try.checked) own started (by kernel_rfl) Try.func4
    (ChangeSpec.witness6 (enc := enc) (C := Try.checked) false ⟨#[], #[.slice none 0 0, .slice none 0 0], []⟩ 8 (by kernel_rfl) (by kernel_rfl) (by kernel_rfl) (by kernel_rfl)) ?_
  intro W base args ds gs before hval0 hW hcnd _
  have hval : ∀ (j : Nat) t v, Try.f4.params[j]? = some t → args[j]? = some v → Value.okWide Try.prog W .any base t v := hval0
  have hW' := hW
  obtain ⟨p, q, hA0, hV, rfl, hfz, hnd⟩ := hW
  have hA : DataW.TrodAll enc Try.prog W 0 (fun _ => true) true Try.f4.params.toList args.toList ds p := hA0
  rw [Try.params4] at hA hval
  obtain ⟨v0, vs0, d0, ds0, p0, q0, hargs, rfl, rfl, h0, r0⟩ := trodAll_cons hA
  obtain ⟨v1, vs1, d1, ds1, p1, q1, rfl, rfl, rfl, h1, r1⟩ := trodAll_cons r0
  obtain ⟨rfl, rfl, rfl⟩ := trodAll_nil r1
  obtain rfl : args = #[v0, v1] := by cases args; simp_all
  obtain ⟨rfl, rfl⟩ := trodVars_none hV
  obtain ⟨ax0, nx0, cx0, x0, rfl, wx0⟩ := open_ints_arg Try.underlying29 Try.underlying2 (by kernel_rfl) (hval 0 29 v0 rfl rfl) h0
  obtain ⟨ax1, nx1, cx1, x1, rfl, wx1⟩ := open_ints_arg Try.underlying29 Try.underlying2 (by kernel_rfl) (hval 1 29 v1 rfl rfl) h1
  clear hA0 hval0
  refine (walk_FnExactIsChouette W ax0 nx0 cx0 x0 wx0 ax1 nx1 cx1 x1 wx1).mono fun e W' ⟨he, bel⟩ => ?_
  subst he
  exact ⟨_, rfl, _, _, _, [], _, [], hW', trodAll_mk1 (shut_bool Try.underlying4 _), (trodAll_cons_mk (Below.trod laidOut (by kernel_rfl) (of_decide_eq_true (by kernel_rfl)) h0 bel (lt_of_trod h0)) (trodAll_cons_mk (Below.trod laidOut (by kernel_rfl) (of_decide_eq_true (by kernel_rfl)) h1 bel (lt_of_trod h1)) trodAll_mk0)), rfl, bel.frame _, fun h => by cases h⟩

theorem over : Rows.fnExactIsChouetteRow.holds Try.pinned (OpenSpec.ofChange Rows.fnExactIsChouetteSpec) :=
  OpenClaim.holds_of_wide 4 Try.f4 rfl rfl rfl rfl rfl rfl rfl ⟨rfl, rfl, rfl, rfl, rfl⟩ rfl rfl rfl rfl rfl (by kernel_rfl) Try.func4 (by kernel_rfl)
    (of_decide_eq_true (by kernel_rfl)) (by unfold Func.isWrapper; first | (rw [if_pos (by decide +kernel)]; kernel_rfl) | (rw [if_neg (by decide +kernel)]; exact ⟨rfl, rfl⟩))
    (fun os started H enc _ => lifted os started H enc)
theorem proved : Rows.FnExactIsChouetteSaid := over
#print axioms proved
end fnExactIsChouette
end Go.Proofs.Ytocdiflkegbffaa
