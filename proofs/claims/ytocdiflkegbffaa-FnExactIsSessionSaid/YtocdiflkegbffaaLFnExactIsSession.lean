/-
  FnExactIsSession returns true for every number of players and every list of results: IsSession of the program and of the reference agree, and the list is left as it was. No condition.
-/
import Derived.Test.YtocdiflkegbffaaSes
namespace Go.Proofs.Ytocdiflkegbffaa
open Go.ChangeShapes Go.WideShapes Go.ChangeAt Go.RowKit
set_option linter.unusedVariables false

set_option maxHeartbeats 800000 in
theorem walk_FnExactIsSession (w : World) (x0 : Int) (wx0 : (Lit.int .i64 x0).wf = true) (ax1 : Option Addr) (nx1 cx1 : Nat) (x1 : List Int) (wx1 : RecsArg w 3 ax1 nx1 x1) :
    Calls Try.prog 3 #[.int .i64 x0, .slice ax1 nx1 cx1] w fun e w' => e = .returned (.bool true) ∧ Below w.heap.size w w' := by
  obtain ⟨hI, hmx, _⟩ := wx1
  by_cases hbig : 1048576 < nx1
  · go_enter Try.func3, Try.ntmps3
    go_wp2_with fail
    refine (szGameResultS_no _ _ _ _ _ (by omega) (by omega) hmx (by omega)).mono ?_
    rintro e w1 ⟨rfl, rfl⟩
    go_wp2_with fail
    go_ret
    exact ⟨rfl, Below.refl _ _⟩
  · have hn : nx1 ≤ 1048576 := by omega
    go_enter Try.func3, Try.ntmps3
    go_wp2_with fail
    refine (szGameResultS_yes _ _ _ _ _ (by omega) (by omega) (by omega)).mono ?_
    rintro e w1 ⟨rfl, rfl⟩
    go_wp2_with fail
    refine (toGameResultS_any _ _ _ _ _ hI hn).mono ?_
    rintro e w1 ⟨rfl, hr1, hb1⟩
    go_wp2_with fail
    have hI1 := Ints.of_row hr1 hI.len (fun _ _ => rfl) hr1.lt
    refine (spec_IsSession_any _ _ _ _ _ _ hI1 hn).mono ?_
    rintro e w2 ⟨rfl, hb2⟩
    go_wp2_with fail
    have hb12 := hb1.trans (hb2.mono hb1.size)
    have hI2 := (hI.below hb12).more hb12.size
    refine (toGameResultS_any _ _ _ _ _ hI2 hn).mono ?_
    rintro e w3 ⟨rfl, hr3, hb3⟩
    go_wp2_with fail
    have hI3 := Ints.of_row hr3 hI.len (fun _ _ => rfl) hr3.lt
    refine (impl_IsSession_any _ _ _ _ _ _ hI3 hn).mono ?_
    rintro e w4 ⟨rfl, hb4⟩
    go_wp2_with fail
    have hb13 := hb12.trans (hb3.mono hb12.size)
    have hb14 := hb13.trans (hb4.mono hb13.size)
    have hI4 := (hI.below hb14).more hb14.size
    refine (toGameResultS_any _ _ _ _ _ hI4 hn).mono ?_
    rintro e w5 ⟨rfl, hr5, hb5⟩
    go_wp2_with fail
    refine (eqGameResultS_same _ _ _ _ _ _ _ _ _ ((hI3.below hb4).below (hb5.mono hb4.size)) (Ints.of_row hr5 hI.len (fun _ _ => rfl) hr5.lt) (by have := hb4.size; have := hb5.size; omega) (Nat.le_refl _) hn).mono ?_
    rintro e w6 ⟨rfl, hb6⟩
    go_wp2_with fail
    go_ret
    have hb15 := hb14.trans (hb5.mono hb14.size)
    exact ⟨rfl, hb15.trans (hb6.mono hb15.size)⟩
namespace fnExactIsSession
set_option linter.unusedVariables false
set_option maxRecDepth 100000 in
theorem lifted (os : Os) (started : os.Started) (H : Type) (enc : TypeId × Value → H) :
    ReturnsInHanded {} Try.checked os 3 .any (Rows.fnExactIsSessionSpec.pre6 enc Try.prog Try.f3 Rows.fnExactIsSessionRow.domain false) (Rows.fnExactIsSessionSpec.post enc Try.prog Try.f3 false true false false) := by
  refine returnsInHanded_of_change (C := Try.checked) own started (by kernel_rfl) Try.func3
    (ChangeSpec.witness6 (enc := enc) (C := Try.checked) false ⟨#[], #[.int .i64 0, .slice none 0 0], []⟩ 8 (by kernel_rfl) (by kernel_rfl) (by kernel_rfl) (by kernel_rfl)) ?_
  intro W base args ds gs before hval0 hW hcnd _
  have hval : ∀ (j : Nat) t v, Try.f3.params[j]? = some t → args[j]? = some v → Value.okWide Try.prog W .any base t v := hval0
  have hW' := hW
  obtain ⟨p, q, hA0, hV, rfl, hfz, hnd⟩ := hW
  have hA : DataW.TrodAll enc Try.prog W 0 (fun _ => true) true Try.f3.params.toList args.toList ds p := hA0
  rw [Try.params3] at hA hval
  obtain ⟨v0, vs0, d0, ds0, p0, q0, hargs, rfl, rfl, h0, r0⟩ := trodAll_cons hA
  obtain ⟨v1, vs1, d1, ds1, p1, q1, rfl, rfl, rfl, h1, r1⟩ := trodAll_cons r0
  obtain ⟨rfl, rfl, rfl⟩ := trodAll_nil r1
  obtain rfl : args = #[v0, v1] := by cases args; simp_all
  obtain ⟨rfl, rfl⟩ := trodVars_none hV
  obtain ⟨x0, rfl, _, _, wx0⟩ := open_int Try.underlying2 (hval 0 2 v0 rfl rfl) h0
  obtain ⟨ax1, nx1, cx1, x1, rfl, wx1⟩ := open_gr (hval 1 22 v1 rfl rfl) h1
  clear hA0 hval0
  refine (walk_FnExactIsSession W x0 wx0 ax1 nx1 cx1 x1 wx1).mono fun e W' ⟨he, bel⟩ => ?_
  subst he
  exact ⟨_, rfl, _, _, _, [], _, [], hW', trodAll_mk1 (shut_bool Try.underlying4 _), (trodAll_cons_mk (Below.trod laidOut (by kernel_rfl) (of_decide_eq_true (by kernel_rfl)) h0 bel (lt_of_trod h0)) (trodAll_cons_mk (Below.trod laidOut (by kernel_rfl) (of_decide_eq_true (by kernel_rfl)) h1 bel (lt_of_trod h1)) trodAll_mk0)), rfl, bel.frame _, fun h => by cases h⟩

theorem over : Rows.fnExactIsSessionRow.holds Try.pinned (OpenSpec.ofChange Rows.fnExactIsSessionSpec) :=
  OpenClaim.holds_of_wide 3 Try.f3 rfl rfl rfl rfl rfl rfl rfl ⟨rfl, rfl, rfl, rfl, rfl⟩ rfl rfl rfl rfl rfl (by kernel_rfl) Try.func3 (by kernel_rfl)
    (of_decide_eq_true (by kernel_rfl)) (by unfold Func.isWrapper; first | (rw [if_pos (by decide +kernel)]; kernel_rfl) | (rw [if_neg (by decide +kernel)]; exact ⟨rfl, rfl⟩))
    (fun os started H enc _ => lifted os started H enc)
theorem proved : Rows.FnExactIsSessionSaid := over
#print axioms proved
end fnExactIsSession
end Go.Proofs.Ytocdiflkegbffaa
