/-
  FnExactDecisionText (printed by gen_dectl.py).
-/
import Derived.Test.YtmhmhbiihcdgiaaDoorDecW
import Derived.Test.YtmhmhbiihcdgiaaDoorDecO
import Derived.Test.YtmhmhbiihcdgiaaDoorRows
import Derived.Test.YtmhmhbiihcdgiaaDoorTie
import Derived.Test.YtmhmhbiihcdgiaaDoorCards
import Derived.LaidMore
import Derived.SevenTiedAt
import Derived.Stop.Joined
import Derived.ProofKit
import Derived.OpenShut
namespace Go.Proofs.YtmhmhbiihcdgiaaDoor
open Go.ChangeShapes Go.WideShapes Go.ChangeAt Go.RowKit Go.Joins Go.Deep
set_option linter.unusedVariables false

theorem q8_full {w : World} {g t : Nat} {x a1 a2 b1 b2 r f1 f2 : Int} (h : w.rowIs g t 8 (q8 x a1 a2 b1 b2 r f1 f2)) : w.cell? ⟨g, 0, none⟩ = some (.int .i64 x) ∧ w.cell? ⟨g, 1, none⟩ = some (.int .i64 a1) ∧ w.cell? ⟨g, 2, none⟩ = some (.int .i64 a2) ∧ w.cell? ⟨g, 3, none⟩ = some (.int .i64 b1) ∧ w.cell? ⟨g, 4, none⟩ = some (.int .i64 b2) ∧ w.cell? ⟨g, 5, none⟩ = some (.int .i64 r) ∧ w.cell? ⟨g, 6, none⟩ = some (.int .i64 f1) ∧ w.cell? ⟨g, 7, none⟩ = some (.int .i64 f2) :=
  ⟨h.cell (i := 0) (by omega), h.cell (i := 1) (by omega), h.cell (i := 2) (by omega), h.cell (i := 3) (by omega), h.cell (i := 4) (by omega), h.cell (i := 5) (by omega), h.cell (i := 6) (by omega), h.cell (i := 7) (by omega)⟩
set_option maxHeartbeats 3200000 in
theorem walk_FnExactDecisionText (w : World) (px0 cx0 hx0 sx0 : Int) (wx0 : (Lit.int .i64 px0).wf = true ∧ (Lit.int .i64 cx0).wf = true ∧ (Lit.int .i64 hx0).wf = true ∧ (Lit.int .i64 sx0).wf = true) (x1 ax1 bx1 cx1 dx1 ex1 fx1 gx1 : Int) (wx1 : DecOk x1 ax1 bx1 cx1 dx1 ex1 fx1 gx1) (htab : Lib.TabIs Tryd.prog w "internal/strconv.uint64pow10" .u64 Lib.pow10Tab) :
    Calls Tryd.prog 3 #[.agg #[.int .i64 px0, .int .i64 cx0, .int .i64 hx0, .int .i64 sx0], .agg #[.int .i64 x1, .int .i64 ax1, .int .i64 bx1, .int .i64 cx1, .int .i64 dx1, .int .i64 ex1, .int .i64 fx1, .int .i64 gx1]] w fun e w' => e = .returned (.bool true) ∧ Below w.heap.size w w' := by
  have HB0 := Lib.hid (((Below.refl w.heap.size w).alloc (Nat.le_refl _) (.cells #[.int .i64 px0, .int .i64 cx0, .int .i64 hx0, .int .i64 sx0] 23)).alloc (by simp) (.cells #[.int .i64 x1, .int .i64 ax1, .int .i64 bx1, .int .i64 cx1, .int .i64 dx1, .int .i64 ex1, .int .i64 fx1, .int .i64 gx1] 27))
  have R0 := Lib.hid ((q4_new w (.int .i64 px0) (.int .i64 cx0) (.int .i64 hx0) (.int .i64 sx0) 23).alloc (.cells #[.int .i64 x1, .int .i64 ax1, .int .i64 bx1, .int .i64 cx1, .int .i64 dx1, .int .i64 ex1, .int .i64 fx1, .int .i64 gx1] 27))
  have X0 := Lib.hid (show ((w.alloc (.cells #[.int .i64 px0, .int .i64 cx0, .int .i64 hx0, .int .i64 sx0] 23)).alloc (.cells #[.int .i64 x1, .int .i64 ax1, .int .i64 bx1, .int .i64 cx1, .int .i64 dx1, .int .i64 ex1, .int .i64 fx1, .int .i64 gx1] 27)).rowIs (w.heap.size + 1) 27 8 (q8 x1 ax1 bx1 cx1 dx1 ex1 fx1 gx1) by have := q8_new (w.alloc (.cells #[.int .i64 px0, .int .i64 cx0, .int .i64 hx0, .int .i64 sx0] 23)) x1 ax1 bx1 cx1 dx1 ex1 fx1 gx1 27; rwa [World.size_alloc] at this)
  have lim : ∀ z : Int, (Lit.int .i64 z).wf = true → z ≤ 9223372036854775807 := by
    intro z hz
    simp only [Lit.wf, Bool.and_eq_true, decide_eq_true_eq] at hz
    have h2 : IntKind.i64.max = 9223372036854775807 := by decide
    rw [h2] at hz
    exact hz.2
  obtain ⟨_, ⟨_, hb2⟩, ⟨_, hd2⟩, _, ⟨_, hg2⟩⟩ := wx1
  have E1 := Lib.hid (fun W (hW : Below w.heap.size w W) => spec_DecisionText_any px0 cx0 hx0 sx0 x1 ax1 bx1 cx1 dx1 ex1 fx1 gx1 W (lim _ hb2) (lim _ hd2) (lim _ hg2))
  have E2 := Lib.hid (fun W (hW : Below w.heap.size w W) => impl_DecisionText_any px0 cx0 hx0 sx0 x1 ax1 bx1 cx1 dx1 ex1 fx1 gx1 W (lim _ hb2) (lim _ hd2) (lim _ hg2) (Tab.below htab hW))
  obtain ⟨T, hT⟩ : ∃ T, dcT px0 cx0 hx0 sx0 x1 ax1 bx1 cx1 dx1 fx1 gx1 = T := ⟨_, rfl⟩
  rw [hT] at E1 E2
  clear hT hb2 hd2 hg2 lim wx0 htab
  go_enter Tryd.func3, Tryd.ntmps3
  go_wp2_with fail
  obtain ⟨v0, v1, v2, v3⟩ := q4_cells R0.out
  obtain ⟨x0, x1', x2, x3, x4, x5, x6, x7⟩ := q8_full X0.out
  replace R0 := Lib.hid (show ((w.alloc (.cells #[.int .i64 px0, .int .i64 cx0, .int .i64 hx0, .int .i64 sx0] 23)).alloc (.cells #[.int .i64 x1, .int .i64 ax1, .int .i64 bx1, .int .i64 cx1, .int .i64 dx1, .int .i64 ex1, .int .i64 fx1, .int .i64 gx1] 27)).drew.rowIs w.heap.size 23 4 (q4 (.int .i64 px0) (.int .i64 cx0) (.int .i64 hx0) (.int .i64 sx0)) from rowIs_drewN R0.out 1)
  replace X0 := Lib.hid (show ((w.alloc (.cells #[.int .i64 px0, .int .i64 cx0, .int .i64 hx0, .int .i64 sx0] 23)).alloc (.cells #[.int .i64 x1, .int .i64 ax1, .int .i64 bx1, .int .i64 cx1, .int .i64 dx1, .int .i64 ex1, .int .i64 fx1, .int .i64 gx1] 27)).drew.rowIs (w.heap.size + 1) 27 8 (q8 x1 ax1 bx1 cx1 dx1 ex1 fx1 gx1) from rowIs_drewN X0.out 1)
  replace HB0 := Lib.hid (show Below w.heap.size w ((w.alloc (.cells #[.int .i64 px0, .int .i64 cx0, .int .i64 hx0, .int .i64 sx0] 23)).alloc (.cells #[.int .i64 x1, .int .i64 ax1, .int .i64 bx1, .int .i64 cx1, .int .i64 dx1, .int .i64 ex1, .int .i64 fx1, .int .i64 gx1] 27)).drew from below_drewN HB0.out 1)
  go_region_held3 (fun w' => w'.cell? ⟨w.heap.size, 0, none⟩ = some (.int .i64 px0) ∧ w'.cell? ⟨w.heap.size, 1, none⟩ = some (.int .i64 cx0) ∧ w'.cell? ⟨w.heap.size, 2, none⟩ = some (.int .i64 hx0) ∧ w'.cell? ⟨w.heap.size, 3, none⟩ = some (.int .i64 sx0) ∧ w'.cell? ⟨w.heap.size + 1, 0, none⟩ = some (.int .i64 x1) ∧ w'.cell? ⟨w.heap.size + 1, 1, none⟩ = some (.int .i64 ax1) ∧ w'.cell? ⟨w.heap.size + 1, 2, none⟩ = some (.int .i64 bx1) ∧ w'.cell? ⟨w.heap.size + 1, 3, none⟩ = some (.int .i64 cx1) ∧ w'.cell? ⟨w.heap.size + 1, 4, none⟩ = some (.int .i64 dx1) ∧ w'.cell? ⟨w.heap.size + 1, 5, none⟩ = some (.int .i64 ex1) ∧ w'.cell? ⟨w.heap.size + 1, 6, none⟩ = some (.int .i64 fx1) ∧ w'.cell? ⟨w.heap.size + 1, 7, none⟩ = some (.int .i64 gx1))
    (go_keep)
    (first
      | (go_at_call 5; (with_reducible refine (toVariant_any px0 cx0 hx0 sx0 _).mono ?_); rintro e wv ⟨rfl, hb⟩; replace R0 := Lib.hid (rowIs_below R0.out hb R0.out.lt); replace X0 := Lib.hid (rowIs_below X0.out hb X0.out.lt); replace HB0 := Lib.hid (HB0.out.trans (hb.mono HB0.out.size)); clear hb; obtain ⟨v0, v1, v2, v3⟩ := q4_cells R0.out; obtain ⟨x0, x1', x2, x3, x4, x5, x6, x7⟩ := q8_full X0.out)
      | (go_at_call 6; (with_reducible refine (toDecision_any x1 ax1 bx1 cx1 dx1 ex1 fx1 gx1 _).mono ?_); rintro e wd ⟨rfl, hb⟩; replace R0 := Lib.hid (rowIs_below R0.out hb R0.out.lt); replace X0 := Lib.hid (rowIs_below X0.out hb X0.out.lt); replace HB0 := Lib.hid (HB0.out.trans (hb.mono HB0.out.size)); clear hb; obtain ⟨v0, v1, v2, v3⟩ := q4_cells R0.out; obtain ⟨x0, x1', x2, x3, x4, x5, x6, x7⟩ := q8_full X0.out)
      | (go_at_call 4; (with_reducible refine (E1.out _ HB0.out).mono ?_); rintro e w5 ⟨rfl, hb⟩; replace R0 := Lib.hid (rowIs_below R0.out hb R0.out.lt); replace X0 := Lib.hid (rowIs_below X0.out hb X0.out.lt); replace HB0 := Lib.hid (HB0.out.trans (hb.mono HB0.out.size)); clear hb; obtain ⟨v0, v1, v2, v3⟩ := q4_cells R0.out; obtain ⟨x0, x1', x2, x3, x4, x5, x6, x7⟩ := q8_full X0.out))
  clear v0 v1 v2 v3 x0 x1' x2 x3 x4 x5 x6 x7
  go_wp2_with fail
  obtain ⟨v0, v1, v2, v3⟩ := q4_cells R0.out
  obtain ⟨x0, x1', x2, x3, x4, x5, x6, x7⟩ := q8_full X0.out
  replace R0 := Lib.hid (show w5.drew.rowIs w.heap.size 23 4 (q4 (.int .i64 px0) (.int .i64 cx0) (.int .i64 hx0) (.int .i64 sx0)) from rowIs_drewN R0.out 1)
  replace X0 := Lib.hid (show w5.drew.rowIs (w.heap.size + 1) 27 8 (q8 x1 ax1 bx1 cx1 dx1 ex1 fx1 gx1) from rowIs_drewN X0.out 1)
  replace HB0 := Lib.hid (show Below w.heap.size w w5.drew from below_drewN HB0.out 1)
  go_region_held3 (fun w' => w'.cell? ⟨w.heap.size, 0, none⟩ = some (.int .i64 px0) ∧ w'.cell? ⟨w.heap.size, 1, none⟩ = some (.int .i64 cx0) ∧ w'.cell? ⟨w.heap.size, 2, none⟩ = some (.int .i64 hx0) ∧ w'.cell? ⟨w.heap.size, 3, none⟩ = some (.int .i64 sx0) ∧ w'.cell? ⟨w.heap.size + 1, 0, none⟩ = some (.int .i64 x1) ∧ w'.cell? ⟨w.heap.size + 1, 1, none⟩ = some (.int .i64 ax1) ∧ w'.cell? ⟨w.heap.size + 1, 2, none⟩ = some (.int .i64 bx1) ∧ w'.cell? ⟨w.heap.size + 1, 3, none⟩ = some (.int .i64 cx1) ∧ w'.cell? ⟨w.heap.size + 1, 4, none⟩ = some (.int .i64 dx1) ∧ w'.cell? ⟨w.heap.size + 1, 5, none⟩ = some (.int .i64 ex1) ∧ w'.cell? ⟨w.heap.size + 1, 6, none⟩ = some (.int .i64 fx1) ∧ w'.cell? ⟨w.heap.size + 1, 7, none⟩ = some (.int .i64 gx1))
    (go_keep)
    (first
      | (go_at_call 5; (with_reducible refine (toVariant_any px0 cx0 hx0 sx0 _).mono ?_); rintro e wv ⟨rfl, hb⟩; replace R0 := Lib.hid (rowIs_below R0.out hb R0.out.lt); replace X0 := Lib.hid (rowIs_below X0.out hb X0.out.lt); replace HB0 := Lib.hid (HB0.out.trans (hb.mono HB0.out.size)); clear hb; obtain ⟨v0, v1, v2, v3⟩ := q4_cells R0.out; obtain ⟨x0, x1', x2, x3, x4, x5, x6, x7⟩ := q8_full X0.out)
      | (go_at_call 6; (with_reducible refine (toDecision_any x1 ax1 bx1 cx1 dx1 ex1 fx1 gx1 _).mono ?_); rintro e wd ⟨rfl, hb⟩; replace R0 := Lib.hid (rowIs_below R0.out hb R0.out.lt); replace X0 := Lib.hid (rowIs_below X0.out hb X0.out.lt); replace HB0 := Lib.hid (HB0.out.trans (hb.mono HB0.out.size)); clear hb; obtain ⟨v0, v1, v2, v3⟩ := q4_cells R0.out; obtain ⟨x0, x1', x2, x3, x4, x5, x6, x7⟩ := q8_full X0.out)
      | (go_at_call 7; (with_reducible refine (E2.out _ HB0.out).mono ?_); rintro e w6 ⟨rfl, hb⟩; replace R0 := Lib.hid (rowIs_below R0.out hb R0.out.lt); replace X0 := Lib.hid (rowIs_below X0.out hb X0.out.lt); replace HB0 := Lib.hid (HB0.out.trans (hb.mono HB0.out.size)); clear hb; obtain ⟨v0, v1, v2, v3⟩ := q4_cells R0.out; obtain ⟨x0, x1', x2, x3, x4, x5, x6, x7⟩ := q8_full X0.out))
  clear v0 v1 v2 v3 x0 x1' x2 x3 x4 x5 x6 x7
  go_wp2_with fail
  go_ret
  exact ⟨rfl, HB0.out⟩
namespace fnExactDecisionText
set_option linter.unusedVariables false
theorem gPow : Tryd.prog.globalNamed "internal/strconv.uint64pow10" = some 0 := by kernel_rfl
theorem tPow : (Tryd.prog.globals[0]?).map (·.type) = some 59 := by kernel_rfl
theorem datum : (Rows.laid_internal_strconv_uint64pow10 : DataW Unit) = Lib.tabData .u64 Lib.pow10Tab := by kernel_rfl
theorem door_met (os : Os) (args : Array Value) : laidMetH Tryd.prog Rows.fnExactDecisionTextRow.laid ((World.doorLaid Tryd.prog 400 os).forCall (fun _ _ => 0) ⟨#[], args, []⟩).memory :=
  laidMetH_of_parts3 (fuel := 8) (laidMet_of_run' 8 (by kernel_rfl) (by kernel_rfl)) (by kernel_rfl) (by kernel_rfl)
theorem tab_of_laid {W : World} (h : laidMetH Tryd.prog Rows.fnExactDecisionTextRow.laid W) : Lib.TabIs Tryd.prog W "internal/strconv.uint64pow10" .u64 Lib.pow10Tab := by
  rw [MakeChecks.laidMetH_plain _ _ _ (by kernel_rfl)] at h
  obtain ⟨ps, ⟨g0, t0, cs0, f0, p0, q0, hg0, ht0, hv0, hd0, ⟨g1, t1, cs1, f1, p1, q1, hg1, ht1, hv1, hd1, ⟨g2, t2, cs2, f2, p2, q2, hg2, ht2, hv2, hd2, _, _⟩, _⟩, _⟩, _⟩ := h
  obtain rfl := Option.some.inj (gPow.symm.trans hg2)
  obtain rfl := Option.some.inj (tPow.symm.trans ht2)
  rw [datum] at hd2
  unfold Lib.TabIs
  rw [hv2, ← Lib.cells_of_tab Tryd.underlying59 Tryd.underlying52 (by kernel_rfl) (by kernel_rfl) hd2]
set_option maxRecDepth 100000 in
theorem lifted (os : Os) (started : os.Started) (H : Type) (enc : TypeId × Value → H) :
    ReturnsInHanded {} Tryd.checked os 3 .any (fun w args => (Rows.fnExactDecisionTextSpec.pre enc Tryd.prog Tryd.f3 [] false w args ∧ laidMetH Tryd.prog Rows.fnExactDecisionTextRow.laid w) ∧ sizedMet enc Tryd.prog Tryd.f3 (OpenSpec.ofChange Rows.fnExactDecisionTextSpec) false w args) (Rows.fnExactDecisionTextSpec.post enc Tryd.prog Tryd.f3 false true false false) := by
  refine returnsInHanded_of_change_and (C := Tryd.checked) (X := fun w _ => laidMetH Tryd.prog Rows.fnExactDecisionTextRow.laid w) (fun _ _ _ hh h => h.of_heap hh) own started (by kernel_rfl) Tryd.func3
    (ChangeSpec.witness_shaped (enc := enc) (C := Tryd.checked) (os := os) (X := fun w _ => laidMetH Tryd.prog Rows.fnExactDecisionTextRow.laid w) false (World.doorLaid Tryd.prog 400 os) #[.agg #[.int .i64 0, .int .i64 0, .int .i64 0, .int .i64 0], .agg #[.int .i64 0, .int .i64 0, .int .i64 0, .int .i64 0, .int .i64 0, .int .i64 0, .int .i64 0, .int .i64 0]] 8 rfl (World.shaped_of_RefB (by kernel_rfl) (by kernel_rfl)) (by kernel_rfl) (by kernel_rfl) (by kernel_rfl) (door_met os _)) ?_
  intro W base args ds gs before hval0 hW _ _ hL _
  have hval : ∀ (j : Nat) t v, Tryd.f3.params[j]? = some t → args[j]? = some v → Value.okWide Tryd.prog W .any base t v := hval0
  have hW' := hW
  obtain ⟨p, q, hA0, hV, rfl, hfz, hnd⟩ := hW
  have hA : DataW.TrodAll enc Tryd.prog W 0 (fun _ => true) true Tryd.f3.params.toList args.toList ds p := hA0
  rw [Tryd.params3] at hA hval
  obtain ⟨v0, vs0, d0, ds0, p0, q0, hargs, rfl, rfl, h0, r0⟩ := trodAll_cons hA
  obtain ⟨v1, vs1, d1, ds1, p1, q1, rfl, rfl, rfl, h1, r1⟩ := trodAll_cons r0
  obtain ⟨rfl, rfl, rfl⟩ := trodAll_nil r1
  obtain rfl : args = #[v0, v1] := by cases args; simp_all
  obtain ⟨rfl, rfl⟩ := trodVars_none hV
  obtain ⟨px0, cx0, hx0, sx0, rfl, wx0⟩ := open_int4 Tryd.underlying23 (by kernel_rfl) (by kernel_rfl) Tryd.underlying2 Tryd.underlying2 Tryd.underlying2 Tryd.underlying2 (hval 0 23 v0 rfl rfl) h0
  obtain ⟨x1, ax1, bx1, cx1, dx1, ex1, fx1, gx1, rfl, wx1⟩ := open_dec (hval 1 27 v1 rfl rfl) h1
  clear hA0 hval0
  refine (walk_FnExactDecisionText W px0 cx0 hx0 sx0 wx0 x1 ax1 bx1 cx1 dx1 ex1 fx1 gx1 wx1 (tab_of_laid hL)).mono fun e W' ⟨he, bel⟩ => ?_
  subst he
  exact ⟨_, rfl, _, _, _, [], _, [], hW', trodAll_mk1 (shut_bool Tryd.underlying4 _), (trodAll_cons_mk (Below.trod laidOut (by kernel_rfl) (of_decide_eq_true (by kernel_rfl)) h0 bel (lt_of_trod h0)) (trodAll_cons_mk (Below.trod laidOut (by kernel_rfl) (of_decide_eq_true (by kernel_rfl)) h1 bel (lt_of_trod h1)) trodAll_mk0)), rfl, bel.frame _, fun h => by cases h⟩
theorem over : Rows.fnExactDecisionTextRow.holds Tryd.pinned (OpenSpec.ofChange Rows.fnExactDecisionTextSpec) :=
  OpenClaim.holds_of_wide 3 Tryd.f3 rfl rfl rfl rfl rfl rfl rfl ⟨rfl, rfl, rfl, rfl, rfl⟩ rfl rfl rfl rfl rfl (by kernel_rfl) Tryd.func3 (by kernel_rfl)
    (of_decide_eq_true (by kernel_rfl)) (by unfold Func.isWrapper; first | (rw [if_pos (by decide +kernel)]; kernel_rfl) | (rw [if_neg (by decide +kernel)]; exact ⟨rfl, rfl⟩))
    (fun os started H enc _ => lifted os started H enc)
theorem proved : Rows.FnExactDecisionTextCardSaid :=
  Claim7.holds_tied_plain_at .later [] [.data, .data, .data] true (true, "cf44e946f6fd09196284058cdd72d37c049537b3c811d356c4067ee1c0454db9") false
    over (fun _ h => by cases h) (by kernel_rfl) (fun _ h => by cases h) fnExactDecisionText_row_tie rfl ⟨rfl, rfl⟩ (by kernel_rfl) rfl
    (fun f fn hf hfn => by
      obtain rfl : f = 3 := Option.some.inj ((show Tryd.prog.funcNamed "loop.example/g00885/laws.FnExactDecisionText" = some 3 by kernel_rfl).symm.trans hf) |>.symm
      obtain rfl : fn = Tryd.f3 := (Option.some.inj (Tryd.func3.symm.trans hfn)).symm
      exact ⟨by kernel_rfl, fun j t ht => by
        rw [Tryd.params3] at ht
        have hm : t ∈ [23, 27] := by simpa using Array.mem_of_getElem? ht
        have hall : ([23, 27].all fun u => !Tryd.prog.wantsStandIn u) = true := by kernel_rfl
        exact (show Tryd.prog.wantsStandIn t = false by simpa using List.all_eq_true.1 hall t hm)⟩)
    (by kernel_rfl)
#print axioms proved
end fnExactDecisionText
end Go.Proofs.YtmhmhbiihcdgiaaDoor
