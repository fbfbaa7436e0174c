/-
  FnExactIsBalances returns true for every list of integers: IsBalances of the program and of the reference agree, and the list is left as it was. No condition.
-/
import Derived.Test.YtpdihggiibbfiaaOpen
import Derived.Test.YtpdihggiibbfiaaEq
namespace Go.Proofs.Ytpdihggiibbfiaa
open Go.ChangeShapes Go.WideShapes Go.ChangeAt Go.RowKit
set_option linter.unusedVariables false

set_option maxHeartbeats 400000 in
theorem walk_FnExactIsBalances (w : World) (ax0 : Option Addr) (nx0 cx0 : Nat) (x0 : List Int) (wx0 : IntsArg w .i64 ax0 nx0 x0) :
    Calls Try.prog 7 #[.slice ax0 nx0 cx0] w fun e w' => e = .returned (.bool true) ∧ Below w.heap.size w w' := by
  obtain ⟨hI, _, _⟩ := wx0
  by_cases hbig : 1048576 < nx0
  · go_enter Try.func7, Try.ntmps7
    go_wp2_with fail
    go_ret
    exact ⟨rfl, Below.refl _ _⟩
  · have hn : nx0 ≤ 1048576 := by omega
    go_enter Try.func7, Try.ntmps7
    go_wp2_with fail
    refine (toInt64S_any _ _ _ _ _ hI hn).mono ?_
    rintro e w1 ⟨rfl, hr1, hb1⟩
    go_wp2_with fail
    refine (spec_IsBalances_any _ _ _ _ _ _ (Ints.of_row hr1 hI.len (fun _ _ => rfl) hr1.lt) hn).mono ?_
    rintro e w2 ⟨rfl, rfl⟩
    go_wp2_with fail
    have hI1 := (hI.below hb1).more hb1.size
    refine (toInt64S_any _ _ _ _ _ hI1 hn).mono ?_
    rintro e w2 ⟨rfl, hr2, hb2⟩
    go_wp2_with fail
    have hI2 := Ints.of_row hr2 hI.len (fun _ _ => rfl) hr2.lt
    refine (impl_IsBalances_any _ _ _ _ _ _ hI2).mono ?_
    rintro e w3 ⟨rfl, rfl⟩
    go_wp2_with fail
    have hI3 := (hI1.below hb2).more hb2.size
    refine (toInt64S_any _ _ _ _ _ hI3 hn).mono ?_
    rintro e w3 ⟨rfl, hr3, hb3⟩
    go_wp2_with fail
    refine (eqInt64S_same _ _ _ _ _ _ _ _ _ (hI2.below hb3) (Ints.of_row hr3 hI.len (fun _ _ => rfl) hr3.lt) hn).mono ?_
    rintro e w4 ⟨rfl, m, rfl⟩
    go_wp2_with fail
    go_ret
    exact ⟨rfl, below_drewN ((hb1.trans (hb2.mono hb1.size)).trans (hb3.mono (by have := hb1.size; have := hb2.size; omega))) m⟩
namespace fnExactIsBalances
set_option linter.unusedVariables false
set_option maxRecDepth 100000 in
theorem lifted (os : Os) (started : os.Started) (H : Type) (enc : TypeId × Value → H) :
    ReturnsInHanded {} Try.checked os 7 .any (Rows.fnExactIsBalancesSpec.pre6 enc Try.prog Try.f7 Rows.fnExactIsBalancesRow.domain false) (Rows.fnExactIsBalancesSpec.post enc Try.prog Try.f7 false true false false) := by
  refine returnsInHanded_of_change (C := Try.checked) own started (by kernel_rfl) Try.func7
    (ChangeSpec.witness6 (enc := enc) (C := Try.checked) false ⟨#[], #[.slice none 0 0], []⟩ 8 (by kernel_rfl) (by kernel_rfl) (by kernel_rfl) (by kernel_rfl)) ?_
  intro W base args ds gs before hval0 hW hcnd _
  have hval : ∀ (j : Nat) t v, Try.f7.params[j]? = some t → args[j]? = some v → Value.okWide Try.prog W .any base t v := hval0
  have hW' := hW
  obtain ⟨p, q, hA0, hV, rfl, hfz, hnd⟩ := hW
  have hA : DataW.TrodAll enc Try.prog W 0 (fun _ => true) true Try.f7.params.toList args.toList ds p := hA0
  rw [Try.params7] at hA hval
  obtain ⟨v0, vs0, d0, ds0, p0, q0, hargs, rfl, rfl, h0, r0⟩ := trodAll_cons hA
  obtain ⟨rfl, rfl, rfl⟩ := trodAll_nil r0
  obtain rfl : args = #[v0] := by cases args; simp_all
  obtain ⟨rfl, rfl⟩ := trodVars_none hV
  obtain ⟨ax0, nx0, cx0, x0, rfl, wx0⟩ := open_ints_arg Try.underlying32 Try.underlying2 (by kernel_rfl) (hval 0 32 v0 rfl rfl) h0
  clear hA0 hval0
  refine (walk_FnExactIsBalances W ax0 nx0 cx0 x0 wx0).mono fun e W' ⟨he, bel⟩ => ?_
  subst he
  exact ⟨_, rfl, _, _, _, [], _, [], hW', trodAll_mk1 (shut_bool Try.underlying4 _), (trodAll_cons_mk (Below.trod laidOut (by kernel_rfl) (of_decide_eq_true (by kernel_rfl)) h0 bel (lt_of_trod h0)) trodAll_mk0), rfl, bel.frame _, fun h => by cases h⟩

theorem over : Rows.fnExactIsBalancesRow.holds Try.pinned (OpenSpec.ofChange Rows.fnExactIsBalancesSpec) :=
  OpenClaim.holds_of_wide 7 Try.f7 rfl rfl rfl rfl rfl rfl rfl ⟨rfl, rfl, rfl, rfl, rfl⟩ rfl rfl rfl rfl rfl (by kernel_rfl) Try.func7 (by kernel_rfl)
    (of_decide_eq_true (by kernel_rfl)) (by unfold Func.isWrapper; first | (rw [if_pos (by decide +kernel)]; kernel_rfl) | (rw [if_neg (by decide +kernel)]; exact ⟨rfl, rfl⟩))
    (fun os started H enc _ => lifted os started H enc)
theorem proved : Rows.FnExactIsBalancesSaid := over
#print axioms proved
end fnExactIsBalances
end Go.Proofs.Ytpdihggiibbfiaa
