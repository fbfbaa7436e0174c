/-
  FnActivation returns true for every code: the activation never decreases, those of x and -x add up to one or one less, that of 0 is a half, and the program's is the reference's. No condition.
-/
import Derived.Test.YtpdihggiibbfiaaOpen
import Derived.Test.YtpdihggiibbfiaaAct
import Derived.Test.YtpdihggiibbfiaaDraw
namespace Go.Proofs.Ytpdihggiibbfiaa
open Go.ChangeShapes Go.WideShapes Go.ChangeAt Go.RowKit
set_option linter.unusedVariables false

theorem act_bd (x : Int) : 0 ≤ act x ∧ act x ≤ 4096 := by unfold act; split <;> (try split) <;> omega
theorem act_mono (x : Int) : act x ≤ act (x + 1) := by unfold act; repeat' split <;> omega
theorem act_neg (x : Int) : act x + act (-x) = 4096 ∨ act x + act (-x) = 4095 := by unfold act; repeat' split <;> omega
theorem act_zero : act 0 = 2048 := by decide

set_option maxHeartbeats 1600000 in
theorem walk_FnActivation (w : World) (ax0 : Option Addr) (nx0 cx0 : Nat) (x0 : List Int) (wx0 : IntsArg w .u8 ax0 nx0 x0) :
    Calls Try.prog 8 #[.slice ax0 nx0 cx0] w fun e w' => e = .returned (.bool true) ∧ Below w.heap.size w w' := by
  by_cases hbig : 4096 < nx0
  · have hb : decide (4096 < (nx0 : Int)) = true := by simp; omega
    go_enter Try.func8, Try.ntmps8
    go_wp2_with fail
    refine (big_any _ _ _ _).mono ?_
    rintro e w1 ⟨rfl, rfl⟩
    go_wp2_with fail
    go_ret
    exact ⟨rfl, Below.refl _ _⟩
  · have hb : decide (4096 < (nx0 : Int)) = false := by simp; omega
    go_enter Try.func8, Try.ntmps8
    go_wp2_with fail
    refine (big_any _ _ _ _).mono ?_
    rintro e w1 ⟨rfl, rfl⟩
    go_wp2_with fail
    refine (DrawActivation_any _ _ _ _ _ wx0 (by omega)).mono ?_
    rintro e w1 ⟨x, rfl, xlo, xhi, hbel⟩
    go_wp2_with fail
    refine (impl_Activation_any _ _).mono ?_
    rintro e w2 ⟨rfl, rfl⟩
    go_wp2_with fail
    refine (impl_Activation_any _ _).mono ?_
    rintro e w2 ⟨rfl, rfl⟩
    obtain ⟨a1, a2⟩ := act_bd x
    obtain ⟨b1, b2⟩ := act_bd (-x)
    have hm := act_mono x
    have hz := Lib.hid act_zero
    rcases act_neg x with hs | hs
    · have hs1 : (act x + act (-x) == 4096) = true := by simp [hs]
      have HS := Lib.hid hs
      clear hs
      go_wp2_with (first | (go_at_call 14; refine (impl_Activation_any _ _).mono ?_; rintro e w2 ⟨rfl, rfl⟩) | (go_at_call 13; refine (spec_Activation_any _ _).mono ?_; rintro e w2 ⟨rfl, rfl⟩))
      go_ret
      exact ⟨ret_bool (by rw [hz.out]; rfl), hbel⟩
    · have hs1 : (act x + act (-x) == 4096) = false := by simp [hs]
      have hs2 : (act x + act (-x) == 4095) = true := by simp [hs]
      have HS := Lib.hid hs
      clear hs
      go_wp2_with (first | (go_at_call 14; refine (impl_Activation_any _ _).mono ?_; rintro e w2 ⟨rfl, rfl⟩) | (go_at_call 13; refine (spec_Activation_any _ _).mono ?_; rintro e w2 ⟨rfl, rfl⟩))
      go_ret
      exact ⟨ret_bool (by rw [hz.out]; rfl), hbel⟩
namespace fnActivation
set_option linter.unusedVariables false
set_option maxRecDepth 100000 in
theorem lifted (os : Os) (started : os.Started) (H : Type) (enc : TypeId × Value → H) :
    ReturnsInHanded {} Try.checked os 8 .any (Rows.fnActivationSpec.pre6 enc Try.prog Try.f8 Rows.fnActivationRow.domain false) (Rows.fnActivationSpec.post enc Try.prog Try.f8 false true false false) := by
  refine returnsInHanded_of_change (C := Try.checked) own started (by kernel_rfl) Try.func8
    (ChangeSpec.witness6 (enc := enc) (C := Try.checked) false ⟨#[], #[.slice none 0 0], []⟩ 8 (by kernel_rfl) (by kernel_rfl) (by kernel_rfl) (by kernel_rfl)) ?_
  intro W base args ds gs before hval0 hW hcnd _
  have hval : ∀ (j : Nat) t v, Try.f8.params[j]? = some t → args[j]? = some v → Value.okWide Try.prog W .any base t v := hval0
  have hW' := hW
  obtain ⟨p, q, hA0, hV, rfl, hfz, hnd⟩ := hW
  have hA : DataW.TrodAll enc Try.prog W 0 (fun _ => true) true Try.f8.params.toList args.toList ds p := hA0
  rw [Try.params8] at hA hval
  obtain ⟨v0, vs0, d0, ds0, p0, q0, hargs, rfl, rfl, h0, r0⟩ := trodAll_cons hA
  obtain ⟨rfl, rfl, rfl⟩ := trodAll_nil r0
  obtain rfl : args = #[v0] := by cases args; simp_all
  obtain ⟨rfl, rfl⟩ := trodVars_none hV
  obtain ⟨ax0, nx0, cx0, x0, rfl, wx0⟩ := open_ints_arg Try.underlying36 Try.underlying5 (by kernel_rfl) (hval 0 36 v0 rfl rfl) h0
  clear hA0 hval0
  refine (walk_FnActivation W ax0 nx0 cx0 x0 wx0).mono fun e W' ⟨he, bel⟩ => ?_
  subst he
  exact ⟨_, rfl, _, _, _, [], _, [], hW', trodAll_mk1 (shut_bool Try.underlying4 _), (trodAll_cons_mk (Below.trod laidOut (by kernel_rfl) (of_decide_eq_true (by kernel_rfl)) h0 bel (lt_of_trod h0)) trodAll_mk0), rfl, bel.frame _, fun h => by cases h⟩

theorem over : Rows.fnActivationRow.holds Try.pinned (OpenSpec.ofChange Rows.fnActivationSpec) :=
  OpenClaim.holds_of_wide 8 Try.f8 rfl rfl rfl rfl rfl rfl rfl ⟨rfl, rfl, rfl, rfl, rfl⟩ rfl rfl rfl rfl rfl (by kernel_rfl) Try.func8 (by kernel_rfl)
    (of_decide_eq_true (by kernel_rfl)) (by unfold Func.isWrapper; first | (rw [if_pos (by decide +kernel)]; kernel_rfl) | (rw [if_neg (by decide +kernel)]; exact ⟨rfl, rfl⟩))
    (fun os started H enc _ => lifted os started H enc)
theorem proved : Rows.FnActivationSaid := over
#print axioms proved
end fnActivation
end Go.Proofs.Ytpdihggiibbfiaa
