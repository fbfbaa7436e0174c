/-
  FnExactMoneyTakePoint returns true for every integer: MoneyTakePoint of the program and of the reference agree. No condition.
-/
import Derived.Test.YtjagidpjdajpnaaOpen
import Derived.Test.YtjagidpjdajpnaaMtp
namespace Go.Proofs.Ytjagidpjdajpnaa
open Go.ChangeShapes Go.WideShapes Go.ChangeAt Go.RowKit
set_option linter.unusedVariables false

set_option maxHeartbeats 1600000 in
theorem walk_FnExactMoneyTakePoint (w : World) (x0 : Int) (wx0 : (Lit.int .i64 x0).wf = true) :
    Calls Try.prog 3 #[.int .i64 x0] w fun e w' => e = .returned (.bool true) ∧ Below w.heap.size w w' := by
  obtain ⟨n, hn⟩ : ∃ n, mtpN x0 = n := ⟨_, rfl⟩
  obtain ⟨d, hd⟩ : ∃ d, mtpD x0 = d := ⟨_, rfl⟩
  obtain ⟨c, hc⟩ : ∃ c, mtpC x0 = c := ⟨_, rfl⟩
  have Hn := Lib.hid hn
  have Hd := Lib.hid hd
  have Hc := Lib.hid hc
  clear hn hd hc
  go_enter Try.func3, Try.ntmps3
  go_wp2_with fail
  refine (spec_MoneyTakePoint_any _ _).mono ?_
  rintro e w1 ⟨rfl, hb1⟩
  rw [Hn.out, Hd.out, Hc.out]
  go_wp2_with fail
  have hr1 := two_new w1 n d 23
  have hB1 := hb1.alloc hb1.size (.cells #[.int .i64 n, .int .i64 d] 23)
  refine (impl_MoneyTakePoint_any _ _).mono ?_
  rintro e w2 ⟨rfl, hb2⟩
  rw [Hn.out, Hd.out, Hc.out]
  replace hr1 := rowIs_below hr1 hb2 hr1.lt
  have hB2 := hB1.trans (hb2.mono hB1.size)
  obtain ⟨c0, c1, _, _⟩ := two_cells hr1
  have hz := hr1.lt
  go_wp2_with fail
  refine (eqShare_same _ _ _).mono ?_
  rintro e w3 ⟨rfl, hb3⟩
  go_wp2_with fail
  go_ret
  have hB3 := hB2.alloc hB2.size (.cells #[.int .i64 n, .int .i64 d] 23)
  exact ⟨rfl, hB3.trans (hb3.mono hB3.size)⟩
namespace fnExactMoneyTakePoint
set_option linter.unusedVariables false
set_option maxRecDepth 100000 in
theorem lifted (os : Os) (started : os.Started) (H : Type) (enc : TypeId × Value → H) :
    ReturnsInHanded {} Try.checked os 3 .any (Rows.fnExactMoneyTakePointSpec.pre6 enc Try.prog Try.f3 Rows.fnExactMoneyTakePointRow.domain false) (Rows.fnExactMoneyTakePointSpec.post enc Try.prog Try.f3 false true false false) := by
  refine returnsInHanded_of_change (C := Try.checked) own started (by kernel_rfl) Try.func3
    (ChangeSpec.witness6 (enc := enc) (C := Try.checked) false ⟨#[], #[.int .i64 0], []⟩ 8 (by kernel_rfl) (by kernel_rfl) (by kernel_rfl) (by kernel_rfl)) ?_
  intro W base args ds gs before hval0 hW hcnd _
  have hval : ∀ (j : Nat) t v, Try.f3.params[j]? = some t → args[j]? = some v → Value.okWide Try.prog W .any base t v := hval0
  have hW' := hW
  obtain ⟨p, q, hA0, hV, rfl, hfz, hnd⟩ := hW
  have hA : DataW.TrodAll enc Try.prog W 0 (fun _ => true) true Try.f3.params.toList args.toList ds p := hA0
  rw [Try.params3] at hA hval
  obtain ⟨v0, vs0, d0, ds0, p0, q0, hargs, rfl, rfl, h0, r0⟩ := trodAll_cons hA
  obtain ⟨rfl, rfl, rfl⟩ := trodAll_nil r0
  obtain rfl : args = #[v0] := by cases args; simp_all
  obtain ⟨rfl, rfl⟩ := trodVars_none hV
  obtain ⟨x0, rfl, _, _, wx0⟩ := open_int Try.underlying2 (hval 0 2 v0 rfl rfl) h0
  clear hA0 hval0
  refine (walk_FnExactMoneyTakePoint W x0 wx0).mono fun e W' ⟨he, bel⟩ => ?_
  subst he
  exact ⟨_, rfl, _, _, _, [], _, [], hW', trodAll_mk1 (shut_bool Try.underlying4 _), (trodAll_cons_mk (Below.trod laidOut (by kernel_rfl) (of_decide_eq_true (by kernel_rfl)) h0 bel (lt_of_trod h0)) trodAll_mk0), rfl, bel.frame _, fun h => by cases h⟩

theorem over : Rows.fnExactMoneyTakePointRow.holds Try.pinned (OpenSpec.ofChange Rows.fnExactMoneyTakePointSpec) :=
  OpenClaim.holds_of_wide 3 Try.f3 rfl rfl rfl rfl rfl rfl rfl ⟨rfl, rfl, rfl, rfl, rfl⟩ rfl rfl rfl rfl rfl (by kernel_rfl) Try.func3 (by kernel_rfl)
    (of_decide_eq_true (by kernel_rfl)) (by unfold Func.isWrapper; first | (rw [if_pos (by decide +kernel)]; kernel_rfl) | (rw [if_neg (by decide +kernel)]; exact ⟨rfl, rfl⟩))
    (fun os started H enc _ => lifted os started H enc)
theorem proved : Rows.FnExactMoneyTakePointSaid := over
#print axioms proved
end fnExactMoneyTakePoint
end Go.Proofs.Ytjagidpjdajpnaa
