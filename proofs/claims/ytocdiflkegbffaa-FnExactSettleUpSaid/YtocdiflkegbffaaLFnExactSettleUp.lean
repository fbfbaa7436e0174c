/-
  FnExactSettleUp returns true for all lists: SettleUp of the program and of the reference agree, the list is left as it was, and the result is new memory. No condition.
-/
import Derived.Test.YtocdiflkegbffaaOpen
import Derived.Test.YtocdiflkegbffaaSetW
import Derived.Test.YtocdiflkegbffaaTr
namespace Go.Proofs.Ytocdiflkegbffaa
open Go.ChangeShapes Go.WideShapes Go.ChangeAt Go.RowKit
set_option linter.unusedVariables false

set_option maxHeartbeats 3200000 in
theorem walk_FnExactSettleUp (w : World) (ax0 : Option Addr) (nx0 cx0 : Nat) (x0 : List Int) (wx0 : IntsArg w .i64 ax0 nx0 x0) :
    Calls Try.prog 10 #[.slice ax0 nx0 cx0] w fun e w' => e = .returned (.bool true) ∧ Below w.heap.size w w' := by
  obtain ⟨hI, _, _⟩ := wx0
  by_cases hbig : 1048576 < nx0
  · go_enter Try.func10, Try.ntmps10
    go_wp2_with fail
    go_ret
    exact ⟨rfl, Below.refl _ _⟩
  · have hn : nx0 ≤ 1048576 := by omega
    clear hbig
    have HB := Below.refl w.heap.size w
    go_enter Try.func10, Try.ntmps10
    go_wp2_with fail
    refine (toInt64S_R _ _ _ _ _ (hI.more HB.size) hn).mono ?_
    rintro e w1 ⟨rfl, hr1, hb⟩
    have z1 := hb.size
    replace hI := hI.below (hb.mono HB.size)
    replace HB := HB.trans (hb.mono HB.size)
    clear hb
    go_wp2_with fail
    refine (spec_SettleUp_any _ _ _ _ _ (hr1.ints hI.len) hn).mono ?_
    rintro e w2 ⟨a1, m, c1, rfl, hl1, hw, hb⟩
    have z2 := hb.size
    replace hI := hI.below (hb.mono HB.size)
    replace hr1 := hr1.below hb
    replace HB := HB.trans (hb.mono HB.size)
    clear hb
    have HL := Lib.hid hl1
    have hm8 : m ≤ 8 := by have := suV_len nx0 x0 hI.len; omega
    clear hl1
    go_wp2_with fail
    refine (toInt64S_R _ _ _ _ _ (hI.more HB.size) hn).mono ?_
    rintro e w3 ⟨rfl, hr2, hb⟩
    have z3 := hb.size
    replace hI := hI.below (hb.mono HB.size)
    replace hr1 := hr1.below hb
    replace hw := hw.below hb
    replace HB := HB.trans (hb.mono HB.size)
    clear hb
    go_wp2_with fail
    refine (impl_SettleUp_any _ _ _ _ _ (hr2.ints hI.len) (fun h => by cases h) hn).mono ?_
    rintro e w4 ⟨a2, m2, c2, rfl, hl2, hg, hb⟩
    have z4 := hb.size
    replace hI := hI.below (hb.mono HB.size)
    replace hr1 := hr1.below hb
    replace hw := hw.below hb
    replace hr2 := hr2.below hb
    replace HB := HB.trans (hb.mono HB.size)
    clear hb
    obtain rfl : m2 = m := by have := HL.out; omega
    clear hl2
    go_wp2_with fail
    refine (eqTransferS_same _ _ _ _ _ _ _ _ _ (hg.ints HL.out) (hw.ints HL.out) (Nat.le_refl _) (Nat.le_refl _) (by omega)).mono ?_
    rintro e w5 ⟨rfl, hb⟩
    have z5 := hb.size
    replace hI := hI.below (hb.mono HB.size)
    replace hr1 := hr1.below hb
    replace hw := hw.below hb
    replace hr2 := hr2.below hb
    replace hg := hg.below hb
    replace HB := HB.trans (hb.mono HB.size)
    clear hb
    go_wp2_with fail
    refine (toInt64S_R _ _ _ _ _ (hI.more HB.size) hn).mono ?_
    rintro e w6 ⟨rfl, hr3, hb⟩
    have z6 := hb.size
    replace hI := hI.below (hb.mono HB.size)
    replace hr1 := hr1.below hb
    replace hw := hw.below hb
    replace hr2 := hr2.below hb
    replace hg := hg.below hb
    replace HB := HB.trans (hb.mono HB.size)
    clear hb
    go_wp2_with fail
    refine (eqInt64S_b _ _ _ _ _ _ _ _ _ (hr2.ints hI.len) (hr3.ints hI.len) hn).mono ?_
    rintro e w7 ⟨rfl, hb⟩
    have z7 := hb.size
    replace hI := hI.below (hb.mono HB.size)
    replace hr1 := hr1.below hb
    replace hw := hw.below hb
    replace hr2 := hr2.below hb
    replace hg := hg.below hb
    replace hr3 := hr3.below hb
    replace HB := HB.trans (hb.mono HB.size)
    clear hb
    go_wp2_with fail
    refine (markInt64S_any _ _ _ _ _ _ _ _ _ hr2 (by omega) (by omega) hn).mono ?_
    rintro e w8 ⟨rfl, hm, ho⟩
    have z8 := ho.size
    replace hI := hI.out ho (by omega) HB.size
    replace hr1 := hr1.out ho (by omega)
    replace hw := hw.out ho (by omega)
    replace hg := hg.out ho (by omega)
    replace hr3 := hr3.out ho (by omega)
    replace HB := Out.below HB ho (by omega)
    clear ho
    replace hr2 := hm
    clear hm
    go_wp2_with fail
    refine (eqTransferS_same _ _ _ _ _ _ _ _ _ (hg.ints HL.out) (hw.ints HL.out) (Nat.le_refl _) (Nat.le_refl _) (by omega)).mono ?_
    rintro e w9 ⟨rfl, hb⟩
    have z9 := hb.size
    replace hI := hI.below (hb.mono HB.size)
    replace hr1 := hr1.below hb
    replace hw := hw.below hb
    replace hr2 := hr2.below hb
    replace hg := hg.below hb
    replace hr3 := hr3.below hb
    replace HB := HB.trans (hb.mono HB.size)
    clear hb
    go_wp2_with fail
    refine (markTransferS_any _ _ _ _ _ _ _ _ _ hg (by omega) (by omega) (by omega)).mono ?_
    rintro e w10 ⟨rfl, hm, ho⟩
    have z10 := ho.size
    replace hI := hI.out ho (by omega) HB.size
    replace hr1 := hr1.out ho (by omega)
    replace hw := hw.out ho (by omega)
    replace hr2 := hr2.out ho (by omega)
    replace hr3 := hr3.out ho (by omega)
    replace HB := Out.below HB ho (by omega)
    clear ho
    replace hg := hm
    clear hm
    go_wp2_with fail
    refine (heldTransferS_any _ _ _ _ _ _ _ _ hg (by omega) (by omega) (by omega)).mono ?_
    rintro e w' ⟨rfl, rfl⟩
    go_wp2_with fail
    refine (toInt64S_R _ _ _ _ _ (hI.more HB.size) hn).mono ?_
    rintro e w11 ⟨rfl, hr4, hb⟩
    have z11 := hb.size
    replace hI := hI.below (hb.mono HB.size)
    replace hr1 := hr1.below hb
    replace hw := hw.below hb
    replace hr2 := hr2.below hb
    replace hg := hg.below hb
    replace hr3 := hr3.below hb
    replace HB := HB.trans (hb.mono HB.size)
    clear hb
    go_wp2_with fail
    refine (impl_SettleUp_any _ _ _ _ _ (hr4.ints hI.len) (fun h => by cases h) hn).mono ?_
    rintro e w12 ⟨a3, m3, c3, rfl, hl3, hh, hb⟩
    have z12 := hb.size
    replace hI := hI.below (hb.mono HB.size)
    replace hr1 := hr1.below hb
    replace hw := hw.below hb
    replace hr2 := hr2.below hb
    replace hg := hg.below hb
    replace hr3 := hr3.below hb
    replace hr4 := hr4.below hb
    replace HB := HB.trans (hb.mono HB.size)
    clear hb
    obtain rfl : m3 = m2 := by have := HL.out; omega
    clear hl3
    go_wp2_with fail
    refine (eqTransferS_same _ _ _ _ _ _ _ _ _ (hh.ints HL.out) (hw.ints HL.out) (Nat.le_refl _) (Nat.le_refl _) (by omega)).mono ?_
    rintro e w13 ⟨rfl, hb⟩
    have z13 := hb.size
    replace hI := hI.below (hb.mono HB.size)
    replace hr1 := hr1.below hb
    replace hw := hw.below hb
    replace hr2 := hr2.below hb
    replace hg := hg.below hb
    replace hr3 := hr3.below hb
    replace hr4 := hr4.below hb
    replace hh := hh.below hb
    replace HB := HB.trans (hb.mono HB.size)
    clear hb
    go_wp2_with fail
    refine (heldTransferS_any _ _ _ _ _ _ _ _ hg (by omega) (by omega) (by omega)).mono ?_
    rintro e w' ⟨rfl, rfl⟩
    go_wp2_with fail
    go_ret
    exact ⟨rfl, HB⟩
namespace fnExactSettleUp
set_option linter.unusedVariables false
set_option maxRecDepth 100000 in
theorem lifted (os : Os) (started : os.Started) (H : Type) (enc : TypeId × Value → H) :
    ReturnsInHanded {} Try.checked os 10 .any (Rows.fnExactSettleUpSpec.pre6 enc Try.prog Try.f10 Rows.fnExactSettleUpRow.domain false) (Rows.fnExactSettleUpSpec.post enc Try.prog Try.f10 false true false false) := by
  refine returnsInHanded_of_change (C := Try.checked) own started (by kernel_rfl) Try.func10
    (ChangeSpec.witness6 (enc := enc) (C := Try.checked) false ⟨#[], #[.slice none 0 0], []⟩ 8 (by kernel_rfl) (by kernel_rfl) (by kernel_rfl) (by kernel_rfl)) ?_
  intro W base args ds gs before hval0 hW hcnd _
  have hval : ∀ (j : Nat) t v, Try.f10.params[j]? = some t → args[j]? = some v → Value.okWide Try.prog W .any base t v := hval0
  have hW' := hW
  obtain ⟨p, q, hA0, hV, rfl, hfz, hnd⟩ := hW
  have hA : DataW.TrodAll enc Try.prog W 0 (fun _ => true) true Try.f10.params.toList args.toList ds p := hA0
  rw [Try.params10] at hA hval
  obtain ⟨v0, vs0, d0, ds0, p0, q0, hargs, rfl, rfl, h0, r0⟩ := trodAll_cons hA
  obtain ⟨rfl, rfl, rfl⟩ := trodAll_nil r0
  obtain rfl : args = #[v0] := by cases args; simp_all
  obtain ⟨rfl, rfl⟩ := trodVars_none hV
  obtain ⟨ax0, nx0, cx0, x0, rfl, wx0⟩ := open_ints_arg Try.underlying29 Try.underlying2 (by kernel_rfl) (hval 0 29 v0 rfl rfl) h0
  clear hA0 hval0
  refine (walk_FnExactSettleUp W ax0 nx0 cx0 x0 wx0).mono fun e W' ⟨he, bel⟩ => ?_
  subst he
  exact ⟨_, rfl, _, _, _, [], _, [], hW', trodAll_mk1 (shut_bool Try.underlying4 _), (trodAll_cons_mk (Below.trod laidOut (by kernel_rfl) (of_decide_eq_true (by kernel_rfl)) h0 bel (lt_of_trod h0)) trodAll_mk0), rfl, bel.frame _, fun h => by cases h⟩

theorem over : Rows.fnExactSettleUpRow.holds Try.pinned (OpenSpec.ofChange Rows.fnExactSettleUpSpec) :=
  OpenClaim.holds_of_wide 10 Try.f10 rfl rfl rfl rfl rfl rfl rfl ⟨rfl, rfl, rfl, rfl, rfl⟩ rfl rfl rfl rfl rfl (by kernel_rfl) Try.func10 (by kernel_rfl)
    (of_decide_eq_true (by kernel_rfl)) (by unfold Func.isWrapper; first | (rw [if_pos (by decide +kernel)]; kernel_rfl) | (rw [if_neg (by decide +kernel)]; exact ⟨rfl, rfl⟩))
    (fun os started H enc _ => lifted os started H enc)
theorem proved : Rows.FnExactSettleUpSaid := over
#print axioms proved
end fnExactSettleUp
end Go.Proofs.Ytocdiflkegbffaa
