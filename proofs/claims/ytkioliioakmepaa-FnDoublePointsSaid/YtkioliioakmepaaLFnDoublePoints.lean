/-
  FnDoublePoints returns true for every code: the double points of both players in the same situation add up to 1. No condition.
-/
import Derived.Test.YtkioliioakmepaaMchL9
import Derived.Test.YtkioliioakmepaaMchDS
import Derived.Test.YtkioliioakmepaaMchDQ
namespace Go.Proofs.Ytkioliioakmepaa
open Go.ChangeShapes Go.WideShapes Go.ChangeAt Go.RowKit
set_option linter.unusedVariables false

theorem tup3 (v : Int × Int × Int) : ∃ x y c, v = (x, y, c) := ⟨v.1, v.2.1, v.2.2, rfl⟩
set_option maxRecDepth 16000 in
set_option maxHeartbeats 6400000 in
theorem walk_FnDoublePoints (w : World) (ax0 : Option Addr) (nx0 cx0 : Nat) (x0 : List Int) (wx0 : IntsArg w .u8 ax0 nx0 x0) :
    Calls Try.prog 9 #[.slice ax0 nx0 cx0] w fun e w' => e = .returned (.bool true) ∧ Below w.heap.size w w' := by
  by_cases hbig : 4096 < (nx0 : Int)
  · have hd : decide (4096 < (nx0 : Int)) = true := decide_eq_true hbig
    go_enter Try.func9, Try.ntmps9
    go_wp2_with fail
    refine (big_any _ _ _ _).mono ?_
    rw [hd]
    rintro e w1 ⟨rfl, rfl⟩
    go_wp2_with fail
    go_ret
    exact ⟨rfl, Below.refl _ _⟩
  · have hd : decide (4096 < (nx0 : Int)) = false := decide_eq_false hbig
    have DR := Lib.hid (DrawMatchDoublePoint_any ax0 nx0 cx0 x0 w wx0 (by omega))
    clear wx0 hbig
    go_enter Try.func9, Try.ntmps9
    go_wp2_with fail
    refine (big_any _ _ _ _).mono ?_
    rw [hd]
    rintro e w1 ⟨rfl, rfl⟩
    go_wp2_with fail
    refine DR.out.mono ?_
    rintro e w1 ⟨M, x, y, p, q, rfl, hs, hA, hb⟩
    obtain ⟨X, Y, C, hV⟩ := tup3 (dpV M x y p q)
    obtain ⟨U, V, D, hW⟩ := tup3 (dpV M y x p q)
    have SW := Lib.hid (fun h1 h2 => dp_swap (M := M) (a := x) (b := y) (ph := p) (c := q) hA h1 h2)
    have ER1 := Lib.hid (fun h => dp_err (M := M) (a := x) (b := y) (ph := p) (c := q) h)
    have ER2 := Lib.hid (fun h => dp_err (M := M) (a := y) (b := x) (ph := p) (c := q) h)
    have I1 := Lib.hid (fun W (h : M.at W W.heap.size) => impl_MatchDoublePoint_any M x y p q W h hs)
    have I2 := Lib.hid (fun W (h : M.at W W.heap.size) => impl_MatchDoublePoint_any M y x p q W h hs)
    have S1 := Lib.hid (fun W (h : M.at W W.heap.size) => spec_MatchDoublePoint_any M x y p q W h hs)
    have S2 := Lib.hid (fun W (h : M.at W W.heap.size) => spec_MatchDoublePoint_any M y x p q W h hs)
    rw [hV, hW] at SW
    rw [hV] at I1 S1 ER1
    rw [hW] at I2 S2 ER2
    replace SW : Hid (C = 0 → D = 0 → V = Y ∧ X + U = Y ∧ shB X Y = true) := SW
    replace ER1 : Hid (¬ C = 0 → X = 0 ∧ Y = 0) := ER1
    replace ER2 : Hid (¬ D = 0 → U = 0 ∧ V = 0) := ER2
    have HA := Lib.hid hA
    have z1 := hb.size
    have B1 := Lib.hid (hb.alloc z1 (.cells #[.slice M.a M.n M.c, .slice M.b M.m M.d, .slice M.e M.p M.f] 26))
    have A1 := Lib.hid (hA.keep ((Below.refl w1.heap.size w1).alloc (Nat.le_refl _) (.cells #[.slice M.a M.n M.c, .slice M.b M.m M.d, .slice M.e M.p M.f] 26)))
    have R1 := Lib.hid (three_new w1 (.slice M.a M.n M.c) (.slice M.b M.m M.d) (.slice M.e M.p M.f) 26)
    clear hb hV hW hs hA
    go_wp2_with fail
    refine (I1.out _ (A1.out.more (by simp))).mono ?_
    rintro e w2 ⟨rfl, hb⟩
    have z2 := hb.size
    simp only [World.size_alloc] at z2
    have B2 := Lib.hid ((B1.out.trans (hb.mono B1.out.size)).alloc (by omega) (.cells #[.int .i64 X, .int .i64 Y] 30))
    have A2 := Lib.hid ((A1.out.keep (hb.mono (by simp))).keep ((Below.refl w1.heap.size w2).alloc (by omega) (.cells #[.int .i64 X, .int .i64 Y] 30)))
    have R2 := Lib.hid ((rowIs_below R1.out hb R1.out.lt).alloc (.cells #[.int .i64 X, .int .i64 Y] 30))
    have P2 := Lib.hid (two_new w2 X Y 30)
    obtain ⟨m0, m1, m2⟩ := three_cells R2.out
    clear hb
    go_wp2_with fail
    refine (I2.out _ (A2.out.more (by simp; omega))).mono ?_
    rintro e w3 ⟨rfl, hb⟩
    have z3 := hb.size
    simp only [World.size_alloc] at z3
    have B3 := Lib.hid ((B2.out.trans (hb.mono B2.out.size)).alloc (by omega) (.cells #[.int .i64 U, .int .i64 V] 30))
    have A3 := Lib.hid ((A2.out.keep (hb.mono (by simp; omega))).keep ((Below.refl w1.heap.size w3).alloc (by omega) (.cells #[.int .i64 U, .int .i64 V] 30)))
    have R3 := Lib.hid ((rowIs_below R2.out hb R2.out.lt).alloc (.cells #[.int .i64 U, .int .i64 V] 30))
    have P3 := Lib.hid ((rowIs_below P2.out hb P2.out.lt).alloc (.cells #[.int .i64 U, .int .i64 V] 30))
    have T3 := Lib.hid (two_new w3 U V 30)
    clear hb m0 m1 m2
    obtain ⟨m0, m1, m2⟩ := three_cells R3.out
    go_wp2_with fail
    refine (S1.out _ (A3.out.more (by simp; omega))).mono ?_
    rintro e w4 ⟨rfl, hb⟩
    have z4 := hb.size
    simp only [World.size_alloc] at z4
    have B4 := Lib.hid ((B3.out.trans (hb.mono B3.out.size)).alloc (by omega) (.cells #[.int .i64 X, .int .i64 Y] 30))
    have A4 := Lib.hid ((A3.out.keep (hb.mono (by simp; omega))).keep ((Below.refl w1.heap.size w4).alloc (by omega) (.cells #[.int .i64 X, .int .i64 Y] 30)))
    have R4 := Lib.hid ((rowIs_below R3.out hb R3.out.lt).alloc (.cells #[.int .i64 X, .int .i64 Y] 30))
    have P4 := Lib.hid ((rowIs_below P3.out hb P3.out.lt).alloc (.cells #[.int .i64 X, .int .i64 Y] 30))
    have T4 := Lib.hid ((rowIs_below T3.out hb T3.out.lt).alloc (.cells #[.int .i64 X, .int .i64 Y] 30))
    clear hb m0 m1 m2
    obtain ⟨m0, m1, m2⟩ := three_cells R4.out
    go_wp2_with fail
    refine (S2.out _ (A4.out.more (by simp; omega))).mono ?_
    rintro e w5 ⟨rfl, hb⟩
    have z5 := hb.size
    simp only [World.size_alloc] at z5
    have B5 := Lib.hid ((B4.out.trans (hb.mono B4.out.size)).alloc (by omega) (.cells #[.int .i64 U, .int .i64 V] 30))
    have P5 := Lib.hid ((rowIs_below P4.out hb P4.out.lt).alloc (.cells #[.int .i64 U, .int .i64 V] 30))
    have T5 := Lib.hid ((rowIs_below T4.out hb T4.out.lt).alloc (.cells #[.int .i64 U, .int .i64 V] 30))
    clear hb m0 m1 m2
    obtain ⟨c0, c1, _, _⟩ := two_cells P5.out
    obtain ⟨d0, d1, _, _⟩ := two_cells T5.out
    have hcc : (C != C) = false := by simp
    have hdd : (D != D) = false := by simp
    by_cases hC : C = 0
    · subst hC
      by_cases hD : D = 0
      · subst hD
        obtain ⟨e1, e2, e3⟩ := SW.out rfl rfl
        subst e1
        obtain ⟨s1, s2, s3, s4, _⟩ := shB_out e3
        have IS := Lib.hid (fun W => spec_IsShare_any X V W)
        rw [e3] at IS
        have wne : IntKind.i64.wrap (X + U) = V := by rw [e2]; exact IntWalk.i64_in _ (by omega)
        clear e2 e3
        go_wp2_with fail
        refine (IS.out _).mono ?_
        rintro e w6 ⟨rfl, hb⟩
        have BF := Lib.hid (B5.out.trans (hb.mono B5.out.size))
        clear hb
        go_wp2_with fail
        go_ret
        exact ⟨rfl, BF.out⟩
      · obtain ⟨rfl, rfl⟩ := ER2.out hD
        have ed : (D != 0) = true := by simpa using hD
        clear hD
        go_wp2_with fail
        go_ret
        exact ⟨rfl, B5.out⟩
    · obtain ⟨rfl, rfl⟩ := ER1.out hC
      have ec : (C != 0) = true := by simpa using hC
      clear hC
      go_wp2_with fail
      go_ret
      exact ⟨rfl, B5.out⟩
namespace fnDoublePoints
set_option linter.unusedVariables false
set_option maxRecDepth 100000 in
theorem lifted (os : Os) (started : os.Started) (H : Type) (enc : TypeId × Value → H) :
    ReturnsInHanded {} Try.checked os 9 .any (Rows.fnDoublePointsSpec.pre6 enc Try.prog Try.f9 Rows.fnDoublePointsRow.domain false) (Rows.fnDoublePointsSpec.post enc Try.prog Try.f9 false true false false) := by
  refine returnsInHanded_of_change (C := Try.checked) own started (by kernel_rfl) Try.func9
    (ChangeSpec.witness6 (enc := enc) (C := Try.checked) false ⟨#[], #[.slice none 0 0], []⟩ 8 (by kernel_rfl) (by kernel_rfl) (by kernel_rfl) (by kernel_rfl)) ?_
  intro W base args ds gs before hval0 hW hcnd _
  have hval : ∀ (j : Nat) t v, Try.f9.params[j]? = some t → args[j]? = some v → Value.okWide Try.prog W .any base t v := hval0
  have hW' := hW
  obtain ⟨p, q, hA0, hV, rfl, hfz, hnd⟩ := hW
  have hA : DataW.TrodAll enc Try.prog W 0 (fun _ => true) true Try.f9.params.toList args.toList ds p := hA0
  rw [Try.params9] at hA hval
  obtain ⟨v0, vs0, d0, ds0, p0, q0, hargs, rfl, rfl, h0, r0⟩ := trodAll_cons hA
  obtain ⟨rfl, rfl, rfl⟩ := trodAll_nil r0
  obtain rfl : args = #[v0] := by cases args; simp_all
  obtain ⟨rfl, rfl⟩ := trodVars_none hV
  obtain ⟨ax0, nx0, cx0, x0, rfl, wx0⟩ := open_ints_arg Try.underlying22 Try.underlying5 (by kernel_rfl) (hval 0 22 v0 rfl rfl) h0
  clear hA0 hval0
  refine (walk_FnDoublePoints W ax0 nx0 cx0 x0 wx0).mono fun e W' ⟨he, bel⟩ => ?_
  subst he
  exact ⟨_, rfl, _, _, _, [], _, [], hW', trodAll_mk1 (shut_bool Try.underlying4 _), (trodAll_cons_mk (Below.trod laidOut (by kernel_rfl) (of_decide_eq_true (by kernel_rfl)) h0 bel (lt_of_trod h0)) trodAll_mk0), rfl, bel.frame _, fun h => by cases h⟩

theorem over : Rows.fnDoublePointsRow.holds Try.pinned (OpenSpec.ofChange Rows.fnDoublePointsSpec) :=
  OpenClaim.holds_of_wide 9 Try.f9 rfl rfl rfl rfl rfl rfl rfl ⟨rfl, rfl, rfl, rfl, rfl⟩ rfl rfl rfl rfl rfl (by kernel_rfl) Try.func9 (by kernel_rfl)
    (of_decide_eq_true (by kernel_rfl)) (by unfold Func.isWrapper; first | (rw [if_pos (by decide +kernel)]; kernel_rfl) | (rw [if_neg (by decide +kernel)]; exact ⟨rfl, rfl⟩))
    (fun os started H enc _ => lifted os started H enc)
theorem proved : Rows.FnDoublePointsSaid := over
#print axioms proved
end fnDoublePoints
end Go.Proofs.Ytkioliioakmepaa
