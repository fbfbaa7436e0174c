/-
  FnExactWorstChoices returns true for all arguments: WorstChoices of the program and of the reference agree, the list is left as it was, and the result is new memory (printed by gen_r7.py). No condition.
-/
import Derived.Test.YtmhmhbiihcdgiaaWcU
namespace Go.Proofs.Ytmhmhbiihcdgiaa
open Go.ChangeShapes Go.WideShapes Go.ChangeAt Go.RowKit Go.Deep
set_option linter.unusedVariables false

set_option maxHeartbeats 3200000 in
theorem walk_FnExactWorstChoices (w : World) (px0 cx0 hx0 sx0 : Int) (wx0 : (Lit.int .i64 px0).wf = true ∧ (Lit.int .i64 cx0).wf = true ∧ (Lit.int .i64 hx0).wf = true ∧ (Lit.int .i64 sx0).wf = true) (ax1 : Option Addr) (nx1 cx1 : Nat) (x1 : List Int) (wx1 : RecsArg w 2 ax1 nx1 x1) :
    Calls Try.prog 3 #[.agg #[.int .i64 px0, .int .i64 cx0, .int .i64 hx0, .int .i64 sx0], .slice ax1 nx1 cx1] w fun e w' => e = .returned (.bool true) ∧ Below w.heap.size w w' := by
  obtain ⟨hI, hmx, hwf0⟩ := wx1
  have hwf := Lib.hid (exd_ok hwf0)
  clear hwf0
  by_cases hbig : 1048576 < nx1
  · have HB := (Below.refl w.heap.size w).alloc (Nat.le_refl _) (.cells #[.int .i64 px0, .int .i64 cx0, .int .i64 hx0, .int .i64 sx0] 23)
    go_enter Try.func3, Try.ntmps3
    go_wp2_with fail
    refine (szExactS_no _ _ _ _ _ (by omega) (by omega) hmx (by omega)).mono ?_
    rintro e w1 ⟨rfl, rfl⟩
    go_wp2_with fail
    go_ret
    exact ⟨rfl, HB⟩
  · have hn : nx1 ≤ 1048576 := by omega
    clear hbig
    obtain ⟨M, hM⟩ : ∃ M, wcM px0 cx0 hx0 sx0 nx1 x1 = M := ⟨_, rfl⟩
    obtain ⟨C, hC⟩ : ∃ C, wcC px0 cx0 hx0 sx0 nx1 x1 = C := ⟨_, rfl⟩
    obtain ⟨Z, hZ⟩ : ∃ Z, wcZ px0 cx0 hx0 sx0 nx1 x1 = Z := ⟨_, rfl⟩
    have SP := Lib.hid (fun b cap W hr => spec_Wc px0 cx0 hx0 sx0 b nx1 cap x1 W hr hn hwf.out)
    have IM := Lib.hid (fun b cap W hr => impl_Wc px0 cx0 hx0 sx0 b nx1 cap x1 W hr hn hwf.out)
    have HL := Lib.hid (wcZ_len px0 cx0 hx0 sx0 nx1 x1)
    have hM2 := wcM_le px0 cx0 hx0 sx0 nx1 x1
    rw [hM, hC, hZ] at SP IM
    rw [hM, hZ] at HL
    rw [hM] at hM2
    have hMn : M ≤ 1048576 := by omega
    have hcc : (C != C) = false := by simp
    clear hM hC hZ hM2
    have HB := Below.refl w.heap.size w
    go_enter Try.func3, Try.ntmps3
    go_wp2_with fail
    have hb := (Below.refl w.heap.size w).alloc (Nat.le_refl _) (.cells #[.int .i64 px0, .int .i64 cx0, .int .i64 hx0, .int .i64 sx0] 23)
    have hq := q4_new w (.int .i64 px0) (.int .i64 cx0) (.int .i64 hx0) (.int .i64 sx0) 23
    obtain ⟨w0, hw0⟩ : ∃ x, x = (w.alloc (.cells #[.int .i64 px0, .int .i64 cx0, .int .i64 hx0, .int .i64 sx0] 23)) := ⟨_, rfl⟩
    rw [← hw0] at hb hq
    have z0 : w.heap.size + 1 = w0.heap.size := by rw [hw0]; simp
    replace hI := hI.below (hb.mono HB.size)
    replace HB := HB.trans (hb.mono HB.size)
    have HV := Lib.hid hq
    rw [← hw0]
    clear hb hq hw0
    refine (szExactS_yes _ _ _ _ _ (by omega) (by omega) (by omega)).mono ?_
    rintro e w' ⟨rfl, rfl⟩
    obtain ⟨l0, l1, l2, l3⟩ := q4_cells HV.out
    go_wp2_with fail
    refine (toVariant_any px0 cx0 hx0 sx0 _).mono ?_
    rintro e w1 ⟨rfl, hb⟩
    have z1 := hb.size
    replace hI := hI.below (hb.mono HB.size)
    replace HV := Lib.hid (rowIs_below HV.out hb HV.out.lt)
    replace HB := HB.trans (hb.mono HB.size)
    clear hb
    clear l0 l1 l2 l3
    go_wp2_with fail
    refine (toExactS_any _ _ _ _ _ (hI.more HB.size) hn).mono ?_
    rintro e w2 ⟨rfl, hrow, hb⟩
    have z2 := hb.size
    replace hI := hI.below (hb.mono HB.size)
    replace HV := Lib.hid (rowIs_below HV.out hb HV.out.lt)
    replace HB := HB.trans (hb.mono HB.size)
    clear hb
    have y2 := hrow.lt
    have hr1 := Lib.hid hrow
    clear hrow
    go_wp2_with fail
    refine (SP.out _ _ _ hr1.out).mono ?_
    rintro e w3 ⟨a1, c1, rfl, hw, hb⟩
    have z3 := hb.size
    replace hI := hI.below (hb.mono HB.size)
    replace HV := Lib.hid (rowIs_below HV.out hb HV.out.lt)
    replace hr1 := Lib.hid (rowIs_below hr1.out hb hr1.out.lt)
    replace HB := HB.trans (hb.mono HB.size)
    clear hb
    go_wp2_with fail
    refine (toExactS_any _ _ _ _ _ (hI.more HB.size) hn).mono ?_
    rintro e w4 ⟨rfl, hrow, hb⟩
    have z4 := hb.size
    replace hI := hI.below (hb.mono HB.size)
    replace HV := Lib.hid (rowIs_below HV.out hb HV.out.lt)
    replace hr1 := Lib.hid (rowIs_below hr1.out hb hr1.out.lt)
    replace hw := hw.below hb
    replace HB := HB.trans (hb.mono HB.size)
    clear hb
    have y4 := hrow.lt
    have hr2 := Lib.hid hrow
    clear hrow
    obtain ⟨l0, l1, l2, l3⟩ := q4_cells HV.out
    go_wp2_with fail
    refine (toVariant_any px0 cx0 hx0 sx0 _).mono ?_
    rintro e w5 ⟨rfl, hb⟩
    have z5 := hb.size
    replace hI := hI.below (hb.mono HB.size)
    replace HV := Lib.hid (rowIs_below HV.out hb HV.out.lt)
    replace hr1 := Lib.hid (rowIs_below hr1.out hb hr1.out.lt)
    replace hw := hw.below hb
    replace hr2 := Lib.hid (rowIs_below hr2.out hb hr2.out.lt)
    replace HB := HB.trans (hb.mono HB.size)
    clear hb
    clear l0 l1 l2 l3
    go_wp2_with fail
    refine (IM.out _ _ _ hr2.out).mono ?_
    rintro e w6 ⟨a2, c2, rfl, hg, hb⟩
    have z6 := hb.size
    replace hI := hI.below (hb.mono HB.size)
    replace HV := Lib.hid (rowIs_below HV.out hb HV.out.lt)
    replace hr1 := Lib.hid (rowIs_below hr1.out hb hr1.out.lt)
    replace hw := hw.below hb
    replace hr2 := Lib.hid (rowIs_below hr2.out hb hr2.out.lt)
    replace HB := HB.trans (hb.mono HB.size)
    clear hb
    go_wp2_with fail
    refine (eqInt64S_b _ _ _ _ _ _ _ _ _ (hg.ints HL.out) (hw.ints HL.out) hMn).mono ?_
    rintro e w7 ⟨rfl, hb⟩
    have z7 := hb.size
    replace hI := hI.below (hb.mono HB.size)
    replace HV := Lib.hid (rowIs_below HV.out hb HV.out.lt)
    replace hr1 := Lib.hid (rowIs_below hr1.out hb hr1.out.lt)
    replace hw := hw.below hb
    replace hr2 := Lib.hid (rowIs_below hr2.out hb hr2.out.lt)
    replace hg := hg.below hb
    replace HB := HB.trans (hb.mono HB.size)
    clear hb
    go_wp2_with fail
    refine (toExactS_any _ _ _ _ _ (hI.more HB.size) hn).mono ?_
    rintro e w8 ⟨rfl, hrow, hb⟩
    have z8 := hb.size
    replace hI := hI.below (hb.mono HB.size)
    replace HV := Lib.hid (rowIs_below HV.out hb HV.out.lt)
    replace hr1 := Lib.hid (rowIs_below hr1.out hb hr1.out.lt)
    replace hw := hw.below hb
    replace hr2 := Lib.hid (rowIs_below hr2.out hb hr2.out.lt)
    replace hg := hg.below hb
    replace HB := HB.trans (hb.mono HB.size)
    clear hb
    have y8 := hrow.lt
    have hr3 := Lib.hid hrow
    clear hrow
    go_wp2_with fail
    refine (eqExactS_same _ _ _ _ _ _ _ _ _ ((rowN_of hr2.out).ints hI.len) ((rowN_of hr3.out).ints hI.len) (Nat.le_refl _) (Nat.le_refl _) hn).mono ?_
    rintro e w9 ⟨rfl, hb⟩
    have z9 := hb.size
    replace hI := hI.below (hb.mono HB.size)
    replace HV := Lib.hid (rowIs_below HV.out hb HV.out.lt)
    replace hr1 := Lib.hid (rowIs_below hr1.out hb hr1.out.lt)
    replace hw := hw.below hb
    replace hr2 := Lib.hid (rowIs_below hr2.out hb hr2.out.lt)
    replace hg := hg.below hb
    replace hr3 := Lib.hid (rowIs_below hr3.out hb hr3.out.lt)
    replace HB := HB.trans (hb.mono HB.size)
    clear hb
    go_wp2_with fail
    refine (markExactS_any _ _ _ _ _ _ _ _ _ (rowN_of hr2.out) (by omega) (by omega) hn).mono ?_
    rintro e w10 ⟨rfl, hm, ho⟩
    have z10 := ho.size
    clear hm
    replace hI := hI.out ho (by omega) HB.size
    replace HV := Lib.hid (HV.out.of_block (ho.block _ HV.out.lt (by omega)))
    replace hr1 := Lib.hid (hr1.out.of_block (ho.block _ hr1.out.lt (by omega)))
    replace hw := hw.out ho (by omega)
    replace hg := hg.out ho (by omega)
    replace hr3 := Lib.hid (hr3.out.of_block (ho.block _ hr3.out.lt (by omega)))
    replace HB := Out.below HB ho (by omega)
    clear ho hr2
    go_wp2_with fail
    refine (eqInt64S_b _ _ _ _ _ _ _ _ _ (hg.ints HL.out) (hw.ints HL.out) hMn).mono ?_
    rintro e w11 ⟨rfl, hb⟩
    have z11 := hb.size
    replace hI := hI.below (hb.mono HB.size)
    replace HV := Lib.hid (rowIs_below HV.out hb HV.out.lt)
    replace hr1 := Lib.hid (rowIs_below hr1.out hb hr1.out.lt)
    replace hw := hw.below hb
    replace hg := hg.below hb
    replace hr3 := Lib.hid (rowIs_below hr3.out hb hr3.out.lt)
    replace HB := HB.trans (hb.mono HB.size)
    clear hb
    go_wp2_with fail
    refine (markInt64S_any _ _ _ _ _ _ _ _ _ hg (by omega) (by omega) hMn).mono ?_
    rintro e w12 ⟨rfl, hm, ho⟩
    have z12 := ho.size
    replace hI := hI.out ho (by omega) HB.size
    replace HV := Lib.hid (HV.out.of_block (ho.block _ HV.out.lt (by omega)))
    replace hr1 := Lib.hid (hr1.out.of_block (ho.block _ hr1.out.lt (by omega)))
    replace hw := hw.out ho (by omega)
    replace hr3 := Lib.hid (hr3.out.of_block (ho.block _ hr3.out.lt (by omega)))
    replace HB := Out.below HB ho (by omega)
    clear ho
    replace hg := hm
    clear hm
    go_wp2_with fail
    refine (heldInt64S_any _ _ _ _ _ _ _ _ hg (by omega) (by omega) hMn).mono ?_
    rintro e w' ⟨rfl, rfl⟩
    obtain ⟨l0, l1, l2, l3⟩ := q4_cells HV.out
    go_wp2_with fail
    refine (toVariant_any px0 cx0 hx0 sx0 _).mono ?_
    rintro e w13 ⟨rfl, hb⟩
    have z13 := hb.size
    replace hI := hI.below (hb.mono HB.size)
    replace HV := Lib.hid (rowIs_below HV.out hb HV.out.lt)
    replace hr1 := Lib.hid (rowIs_below hr1.out hb hr1.out.lt)
    replace hw := hw.below hb
    replace hg := hg.below hb
    replace hr3 := Lib.hid (rowIs_below hr3.out hb hr3.out.lt)
    replace HB := HB.trans (hb.mono HB.size)
    clear hb
    clear l0 l1 l2 l3
    go_wp2_with fail
    refine (toExactS_any _ _ _ _ _ (hI.more HB.size) hn).mono ?_
    rintro e w14 ⟨rfl, hrow, hb⟩
    have z14 := hb.size
    replace hI := hI.below (hb.mono HB.size)
    replace HV := Lib.hid (rowIs_below HV.out hb HV.out.lt)
    replace hr1 := Lib.hid (rowIs_below hr1.out hb hr1.out.lt)
    replace hw := hw.below hb
    replace hg := hg.below hb
    replace hr3 := Lib.hid (rowIs_below hr3.out hb hr3.out.lt)
    replace HB := HB.trans (hb.mono HB.size)
    clear hb
    have y14 := hrow.lt
    have hr4 := Lib.hid hrow
    clear hrow
    go_wp2_with fail
    refine (IM.out _ _ _ hr4.out).mono ?_
    rintro e w15 ⟨a3, c3, rfl, hh, hb⟩
    have z15 := hb.size
    replace hI := hI.below (hb.mono HB.size)
    replace HV := Lib.hid (rowIs_below HV.out hb HV.out.lt)
    replace hr1 := Lib.hid (rowIs_below hr1.out hb hr1.out.lt)
    replace hw := hw.below hb
    replace hg := hg.below hb
    replace hr3 := Lib.hid (rowIs_below hr3.out hb hr3.out.lt)
    replace hr4 := Lib.hid (rowIs_below hr4.out hb hr4.out.lt)
    replace HB := HB.trans (hb.mono HB.size)
    clear hb
    go_wp2_with fail
    refine (eqInt64S_b _ _ _ _ _ _ _ _ _ (hh.ints HL.out) (hw.ints HL.out) hMn).mono ?_
    rintro e w16 ⟨rfl, hb⟩
    have z16 := hb.size
    replace hI := hI.below (hb.mono HB.size)
    replace HV := Lib.hid (rowIs_below HV.out hb HV.out.lt)
    replace hr1 := Lib.hid (rowIs_below hr1.out hb hr1.out.lt)
    replace hw := hw.below hb
    replace hg := hg.below hb
    replace hr3 := Lib.hid (rowIs_below hr3.out hb hr3.out.lt)
    replace hr4 := Lib.hid (rowIs_below hr4.out hb hr4.out.lt)
    replace hh := hh.below hb
    replace HB := HB.trans (hb.mono HB.size)
    clear hb
    go_wp2_with fail
    refine (heldInt64S_any _ _ _ _ _ _ _ _ hg (by omega) (by omega) hMn).mono ?_
    rintro e w' ⟨rfl, rfl⟩
    go_wp2_with fail
    go_ret
    exact ⟨rfl, HB⟩
namespace fnExactWorstChoices
set_option linter.unusedVariables false
set_option maxRecDepth 100000 in
theorem lifted (os : Os) (started : os.Started) (H : Type) (enc : TypeId × Value → H) :
    ReturnsInHanded {} Try.checked os 3 .any (Rows.fnExactWorstChoicesSpec.pre6 enc Try.prog Try.f3 Rows.fnExactWorstChoicesRow.domain false) (Rows.fnExactWorstChoicesSpec.post enc Try.prog Try.f3 false true false false) := by
  refine returnsInHanded_of_change (C := Try.checked) own started (by kernel_rfl) Try.func3
    (ChangeSpec.witness6 (enc := enc) (C := Try.checked) false ⟨#[], #[.agg #[.int .i64 0, .int .i64 0, .int .i64 0, .int .i64 0], .slice none 0 0], []⟩ 8 (by kernel_rfl) (by kernel_rfl) (by kernel_rfl) (by kernel_rfl)) ?_
  intro W base args ds gs before hval0 hW hcnd _
  have hval : ∀ (j : Nat) t v, Try.f3.params[j]? = some t → args[j]? = some v → Value.okWide Try.prog W .any base t v := hval0
  have hW' := hW
  obtain ⟨p, q, hA0, hV, rfl, hfz, hnd⟩ := hW
  have hA : DataW.TrodAll enc Try.prog W 0 (fun _ => true) true Try.f3.params.toList args.toList ds p := hA0
  rw [Try.params3] at hA hval
  obtain ⟨v0, vs0, d0, ds0, p0, q0, hargs, rfl, rfl, h0, r0⟩ := trodAll_cons hA
  obtain ⟨v1, vs1, d1, ds1, p1, q1, rfl, rfl, rfl, h1, r1⟩ := trodAll_cons r0
  obtain ⟨rfl, rfl, rfl⟩ := trodAll_nil r1
  obtain rfl : args = #[v0, v1] := by cases args; simp_all
  obtain ⟨rfl, rfl⟩ := trodVars_none hV
  obtain ⟨px0, cx0, hx0, sx0, rfl, wx0⟩ := open_int4 Try.underlying23 (by kernel_rfl) (by kernel_rfl) Try.underlying2 Try.underlying2 Try.underlying2 Try.underlying2 (hval 0 23 v0 rfl rfl) h0
  obtain ⟨ax1, nx1, cx1, x1, rfl, wx1⟩ := open_ex (hval 1 24 v1 rfl rfl) h1
  clear hA0 hval0
  refine (walk_FnExactWorstChoices W px0 cx0 hx0 sx0 wx0 ax1 nx1 cx1 x1 wx1).mono fun e W' ⟨he, bel⟩ => ?_
  subst he
  exact ⟨_, rfl, _, _, _, [], _, [], hW', trodAll_mk1 (shut_bool Try.underlying4 _), (trodAll_cons_mk (Below.trod laidOut (by kernel_rfl) (of_decide_eq_true (by kernel_rfl)) h0 bel (lt_of_trod h0)) (trodAll_cons_mk (Below.trod laidOut (by kernel_rfl) (of_decide_eq_true (by kernel_rfl)) h1 bel (lt_of_trod h1)) trodAll_mk0)), rfl, bel.frame _, fun h => by cases h⟩

theorem over : Rows.fnExactWorstChoicesRow.holds Try.pinned (OpenSpec.ofChange Rows.fnExactWorstChoicesSpec) :=
  OpenClaim.holds_of_wide 3 Try.f3 rfl rfl rfl rfl rfl rfl rfl ⟨rfl, rfl, rfl, rfl, rfl⟩ rfl rfl rfl rfl rfl (by kernel_rfl) Try.func3 (by kernel_rfl)
    (of_decide_eq_true (by kernel_rfl)) (by unfold Func.isWrapper; first | (rw [if_pos (by decide +kernel)]; kernel_rfl) | (rw [if_neg (by decide +kernel)]; exact ⟨rfl, rfl⟩))
    (fun os started H enc _ => lifted os started H enc)
theorem proved : Rows.FnExactWorstChoicesSaid := over
#print axioms proved
end fnExactWorstChoices
end Go.Proofs.Ytmhmhbiihcdgiaa
