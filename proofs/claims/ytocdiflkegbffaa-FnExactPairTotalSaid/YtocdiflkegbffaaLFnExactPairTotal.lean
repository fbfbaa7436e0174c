/-
  FnExactPairTotal returns true for all arguments: PairTotal of the program and of the reference agree, and the list is left as it was. No condition.
-/
import Derived.Test.YtocdiflkegbffaaPt
namespace Go.Proofs.Ytocdiflkegbffaa
open Go.ChangeShapes Go.WideShapes Go.ChangeAt Go.RowKit
set_option linter.unusedVariables false

set_option maxHeartbeats 1600000 in
theorem walk_FnExactPairTotal (w : World) (x0 : Int) (wx0 : (Lit.int .i64 x0).wf = true) (ax1 : Option Addr) (nx1 cx1 : Nat) (x1 : List Int) (wx1 : RecsArg w 3 ax1 nx1 x1) (x2 : Int) (wx2 : (Lit.int .i64 x2).wf = true) (x3 : Int) (wx3 : (Lit.int .i64 x3).wf = true) :
    Calls Try.prog 6 #[.int .i64 x0, .slice ax1 nx1 cx1, .int .i64 x2, .int .i64 x3] w fun e w' => e = .returned (.bool true) ∧ Below w.heap.size w w' := by
  obtain ⟨hI, hmx, _⟩ := wx1
  by_cases hbig : 1048576 < nx1
  · go_enter Try.func6, Try.ntmps6
    go_wp2_with fail
    refine (szGameResultS_no _ _ _ _ _ (by omega) (by omega) hmx (by omega)).mono ?_
    rintro e w1 ⟨rfl, rfl⟩
    go_wp2_with fail
    go_ret
    exact ⟨rfl, Below.refl _ _⟩
  · have hn : nx1 ≤ 1048576 := by omega
    clear hbig
    have HB := Below.refl w.heap.size w
    go_enter Try.func6, Try.ntmps6
    go_wp2_with fail
    refine (szGameResultS_yes _ _ _ _ _ (by omega) (by omega) (by omega)).mono ?_
    rintro e w' ⟨rfl, rfl⟩
    go_wp2_with fail
    refine (toGameResultS_R _ _ _ _ _ (hI.more HB.size) hn).mono ?_
    rintro e w1 ⟨rfl, hr1, hb⟩
    have z1 := hb.size
    replace hI := hI.below (hb.mono HB.size)
    replace HB := HB.trans (hb.mono HB.size)
    clear hb
    go_wp2_with fail
    refine (spec_PairTotal_any _ _ _ _ _ _ _ _ (hr1.ints hI.len) hn).mono ?_
    rintro e w2 ⟨rfl, hb⟩
    have z2 := hb.size
    replace hI := hI.below (hb.mono HB.size)
    replace hr1 := hr1.below hb
    replace HB := HB.trans (hb.mono HB.size)
    clear hb
    go_wp2_with fail
    refine (toGameResultS_R _ _ _ _ _ (hI.more HB.size) hn).mono ?_
    rintro e w3 ⟨rfl, hr2, hb⟩
    have z3 := hb.size
    replace hI := hI.below (hb.mono HB.size)
    replace hr1 := hr1.below hb
    replace HB := HB.trans (hb.mono HB.size)
    clear hb
    go_wp2_with fail
    refine (impl_PairTotal_any _ _ _ _ _ _ _ _ (hr2.ints hI.len) hn).mono ?_
    rintro e w4 ⟨rfl, hb⟩
    have z4 := hb.size
    replace hI := hI.below (hb.mono HB.size)
    replace hr1 := hr1.below hb
    replace hr2 := hr2.below hb
    replace HB := HB.trans (hb.mono HB.size)
    clear hb
    go_wp2_with fail
    refine (toGameResultS_R _ _ _ _ _ (hI.more HB.size) hn).mono ?_
    rintro e w5 ⟨rfl, hr3, hb⟩
    have z5 := hb.size
    replace hI := hI.below (hb.mono HB.size)
    replace hr1 := hr1.below hb
    replace hr2 := hr2.below hb
    replace HB := HB.trans (hb.mono HB.size)
    clear hb
    go_wp2_with fail
    refine (eqGameResultS_same _ _ _ _ _ _ _ _ _ (hr2.ints hI.len) (hr3.ints hI.len) (Nat.le_refl _) (Nat.le_refl _) hn).mono ?_
    rintro e w6 ⟨rfl, hb⟩
    have z6 := hb.size
    replace hI := hI.below (hb.mono HB.size)
    replace hr1 := hr1.below hb
    replace hr2 := hr2.below hb
    replace hr3 := hr3.below hb
    replace HB := HB.trans (hb.mono HB.size)
    clear hb
    go_wp2_with fail
    go_ret
    exact ⟨rfl, HB⟩
namespace fnExactPairTotal
set_option linter.unusedVariables false
set_option maxRecDepth 100000 in
theorem lifted (os : Os) (started : os.Started) (H : Type) (enc : TypeId × Value → H) :
    ReturnsInHanded {} Try.checked os 6 .any (Rows.fnExactPairTotalSpec.pre6 enc Try.prog Try.f6 Rows.fnExactPairTotalRow.domain false) (Rows.fnExactPairTotalSpec.post enc Try.prog Try.f6 false true false false) := by
  refine returnsInHanded_of_change (C := Try.checked) own started (by kernel_rfl) Try.func6
    (ChangeSpec.witness6 (enc := enc) (C := Try.checked) false ⟨#[], #[.int .i64 0, .slice none 0 0, .int .i64 0, .int .i64 0], []⟩ 8 (by kernel_rfl) (by kernel_rfl) (by kernel_rfl) (by kernel_rfl)) ?_
  intro W base args ds gs before hval0 hW hcnd _
  have hval : ∀ (j : Nat) t v, Try.f6.params[j]? = some t → args[j]? = some v → Value.okWide Try.prog W .any base t v := hval0
  have hW' := hW
  obtain ⟨p, q, hA0, hV, rfl, hfz, hnd⟩ := hW
  have hA : DataW.TrodAll enc Try.prog W 0 (fun _ => true) true Try.f6.params.toList args.toList ds p := hA0
  rw [Try.params6] at hA hval
  obtain ⟨v0, vs0, d0, ds0, p0, q0, hargs, rfl, rfl, h0, r0⟩ := trodAll_cons hA
  obtain ⟨v1, vs1, d1, ds1, p1, q1, rfl, rfl, rfl, h1, r1⟩ := trodAll_cons r0
  obtain ⟨v2, vs2, d2, ds2, p2, q2, rfl, rfl, rfl, h2, r2⟩ := trodAll_cons r1
  obtain ⟨v3, vs3, d3, ds3, p3, q3, rfl, rfl, rfl, h3, r3⟩ := trodAll_cons r2
  obtain ⟨rfl, rfl, rfl⟩ := trodAll_nil r3
  obtain rfl : args = #[v0, v1, v2, v3] := by cases args; simp_all
  obtain ⟨rfl, rfl⟩ := trodVars_none hV
  obtain ⟨x0, rfl, _, _, wx0⟩ := open_int Try.underlying2 (hval 0 2 v0 rfl rfl) h0
  obtain ⟨ax1, nx1, cx1, x1, rfl, wx1⟩ := open_gr (hval 1 22 v1 rfl rfl) h1
  obtain ⟨x2, rfl, _, _, wx2⟩ := open_int Try.underlying2 (hval 2 2 v2 rfl rfl) h2
  obtain ⟨x3, rfl, _, _, wx3⟩ := open_int Try.underlying2 (hval 3 2 v3 rfl rfl) h3
  clear hA0 hval0
  refine (walk_FnExactPairTotal W x0 wx0 ax1 nx1 cx1 x1 wx1 x2 wx2 x3 wx3).mono fun e W' ⟨he, bel⟩ => ?_
  subst he
  exact ⟨_, rfl, _, _, _, [], _, [], hW', trodAll_mk1 (shut_bool Try.underlying4 _), (trodAll_cons_mk (Below.trod laidOut (by kernel_rfl) (of_decide_eq_true (by kernel_rfl)) h0 bel (lt_of_trod h0)) (trodAll_cons_mk (Below.trod laidOut (by kernel_rfl) (of_decide_eq_true (by kernel_rfl)) h1 bel (lt_of_trod h1)) (trodAll_cons_mk (Below.trod laidOut (by kernel_rfl) (of_decide_eq_true (by kernel_rfl)) h2 bel (lt_of_trod h2)) (trodAll_cons_mk (Below.trod laidOut (by kernel_rfl) (of_decide_eq_true (by kernel_rfl)) h3 bel (lt_of_trod h3)) trodAll_mk0)))), rfl, bel.frame _, fun h => by cases h⟩

theorem over : Rows.fnExactPairTotalRow.holds Try.pinned (OpenSpec.ofChange Rows.fnExactPairTotalSpec) :=
  OpenClaim.holds_of_wide 6 Try.f6 rfl rfl rfl rfl rfl rfl rfl ⟨rfl, rfl, rfl, rfl, rfl⟩ rfl rfl rfl rfl rfl (by kernel_rfl) Try.func6 (by kernel_rfl)
    (of_decide_eq_true (by kernel_rfl)) (by unfold Func.isWrapper; first | (rw [if_pos (by decide +kernel)]; kernel_rfl) | (rw [if_neg (by decide +kernel)]; exact ⟨rfl, rfl⟩))
    (fun os started H enc _ => lifted os started H enc)
theorem proved : Rows.FnExactPairTotalSaid := over
#print axioms proved
end fnExactPairTotal
end Go.Proofs.Ytocdiflkegbffaa
