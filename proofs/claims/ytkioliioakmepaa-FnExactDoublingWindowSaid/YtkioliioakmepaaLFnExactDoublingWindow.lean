/-
  FnExactDoublingWindow returns true for all arguments: DoublingWindow of the program and of the reference agree, and the model is left as it was. No condition.
-/
import Derived.Test.YtkioliioakmepaaMchDW
import Derived.StillTailTactics
import Derived.RegionTactic
import Derived.BigRegion
import Derived.Deep.RegionWith
namespace Go.Proofs.Ytkioliioakmepaa
open Go.ChangeShapes Go.WideShapes Go.ChangeAt Go.RowKit
set_option linter.unusedVariables false

set_option maxHeartbeats 3200000 in
theorem walk_FnExactDoublingWindow (w : World) (ax0 : Option Addr) (nx0 cx0 : Nat) (x0 : List Int) (bx0 : Option Addr) (mx0 dx0 : Nat) (yx0 : List Int) (ex0 : Option Addr) (px0 fx0 : Nat) (zx0 : List Int) (wx0 : IntsArg w .i64 ax0 nx0 x0 ∧ IntsArg w .i64 bx0 mx0 yx0 ∧ IntsArg w .i64 ex0 px0 zx0) (x1 : Int) (wx1 : (Lit.int .i64 x1).wf = true) (x2 : Int) (wx2 : (Lit.int .i64 x2).wf = true) (x3 : Int) (wx3 : (Lit.int .i64 x3).wf = true) (x4 : Int) (wx4 : (Lit.int .i64 x4).wf = true) :
    Calls Try.prog 13 #[mmV ax0 nx0 cx0 bx0 mx0 dx0 ex0 px0 fx0, .int .i64 x1, .int .i64 x2, .int .i64 x3, .int .i64 x4] w fun e w' => e = .returned (.bool true) ∧ Below w.heap.size w w' := by
  obtain ⟨W1, W2, W3⟩ := wx0
  obtain ⟨M, hMd⟩ : ∃ M : Mm, M = ⟨ax0, nx0, cx0, bx0, mx0, dx0, ex0, px0, fx0, x0, yx0, zx0⟩ := ⟨_, rfl⟩
  have hA : M.at w w.heap.size := by rw [hMd]; exact IntsArg.at3 W1 W2 W3
  have hn1 : M.n ≤ maxLen := by rw [hMd]; exact W1.2.1
  have hn2 : M.m ≤ maxLen := by rw [hMd]; exact W2.2.1
  have hn3 : M.p ≤ maxLen := by rw [hMd]; exact W3.2.1
  have hv : mmV ax0 nx0 cx0 bx0 mx0 dx0 ex0 px0 fx0 = .agg #[.slice M.a M.n M.c, .slice M.b M.m M.d, .slice M.e M.p M.f] := by rw [hMd]
  rw [hv]
  clear W1 W2 W3 hMd hv
  have hb0 := (Below.refl w.heap.size w).alloc (Nat.le_refl _) (.cells #[.slice M.a M.n M.c, .slice M.b M.m M.d, .slice M.e M.p M.f] 36)
  by_cases hbig : 1048576 < M.n + M.m + M.p
  · have HB := Lib.hid hb0
    have HS := Lib.hid (fun W => szMatchModel_no M W hn1 hn2 hn3 hbig)
    clear hA hb0 hn1 hn2 hn3 hbig
    go_enter Try.func13, Try.ntmps13
    go_wp2_with fail
    refine (HS.out _).mono ?_
    rintro e w1 ⟨rfl, hb⟩
    go_wp2_with fail
    go_ret
    exact ⟨rfl, HB.out.trans (hb.mono HB.out.size)⟩
  · have hs : M.sz := by unfold Mm.sz; omega
    have HSZ := Lib.hid hs
    have HS := Lib.hid (fun W => szMatchModel_yes M W hs)
    obtain ⟨Z, hZ⟩ : ∃ Z : Int, (1048576 : Int) - M.n - M.m - M.p = Z := ⟨_, rfl⟩
    have hz0 : 0 ≤ Z := by omega
    have hzn : decide (Z < 0) = false := decide_eq_false (by omega)
    rw [hZ] at HS
    have HB0 := Lib.hid hb0
    have A0 := Lib.hid (hA.keep hb0)
    have R0 := Lib.hid (three_new w (.slice M.a M.n M.c) (.slice M.b M.m M.d) (.slice M.e M.p M.f) 36)
    obtain ⟨X, hX⟩ : ∃ X, (wdV M x1 x2 x3 x4).1 = X := ⟨_, rfl⟩
    obtain ⟨Y, hY⟩ : ∃ Y, (wdV M x1 x2 x3 x4).2.1 = Y := ⟨_, rfl⟩
    obtain ⟨P, hP⟩ : ∃ C, (wdV M x1 x2 x3 x4).2.2.1 = C := ⟨_, rfl⟩
    obtain ⟨Q, hQ⟩ : ∃ C, (wdV M x1 x2 x3 x4).2.2.2.1 = C := ⟨_, rfl⟩
    obtain ⟨C, hC⟩ : ∃ C, (wdV M x1 x2 x3 x4).2.2.2.2 = C := ⟨_, rfl⟩
    have SP := Lib.hid (fun (K : Mm) (h : Sm K M) (W : World) (hK : K.at W W.heap.size) => spec_DoublingWindow_any K x1 x2 x3 x4 W hK (h.sz hs))
    have IM := Lib.hid (fun (K : Mm) (h : Sm K M) (W : World) (hK : K.at W W.heap.size) => impl_DoublingWindow_any K x1 x2 x3 x4 W hK (h.sz hs))
    have VV : Hid (∀ K : Mm, Sm K M → wdV K x1 x2 x3 x4 = (X, Y, P, Q, C)) := by
      refine Lib.hid (fun K h => ?_)
      rw [Sm.wd h, ← hX, ← hY, ← hP, ← hQ, ← hC]
    clear hA hb0 hn1 hn2 hn3 hbig hZ hX hY hP hQ hC hs
    go_enter Try.func13, Try.ntmps13
    go_wp2_with fail
    refine (HS.out _).mono ?_
    rintro e w1 ⟨rfl, hb⟩
    have z1 := hb.size
    simp only [World.size_alloc] at z1
    have HB1 := Lib.hid (HB0.out.trans (hb.mono HB0.out.size))
    have A1 := Lib.hid (A0.out.keep (hb.mono HB0.out.size))
    have R1 := Lib.hid (rowIs_below R0.out hb R0.out.lt)
    obtain ⟨m0, m1, m2⟩ := three_cells R1.out
    clear hb
    go_wp2_with fail
    refine (toMm_cp M _ (A1.out.more HB1.out.size) HSZ.out).mono ?_
    rintro e w2 ⟨K, rfl, hk, ak, hb⟩
    have z2 := hb.size
    have HB2 := Lib.hid (HB1.out.trans (hb.mono HB1.out.size))
    have A2 := Lib.hid (A1.out.keep (hb.mono HB1.out.size))
    have R2 := Lib.hid (rowIs_below R1.out hb R1.out.lt)
    have AK := Lib.hid ak
    have HK := Lib.hid hk
    clear hb ak hk m0 m1 m2
    go_wp2_with fail
    refine (SP.out K HK.out _ AK.out).mono ?_
    rw [VV.out K HK.out]
    rintro e w3 ⟨rfl, hb⟩
    have z3 := hb.size
    have HB3 := Lib.hid (((HB2.out.trans (hb.mono HB2.out.size)).alloc (Nat.le_trans HB2.out.size z3) (.cells #[.int .i64 X, .int .i64 Y] 30)).alloc (by have := Nat.le_trans HB2.out.size z3; simp; omega) (.cells #[.int .i64 P, .int .i64 Q] 30))
    have A3 := Lib.hid ((A2.out.keep (hb.mono HB2.out.size)).keep (((Below.refl w.heap.size w3).alloc (Nat.le_trans HB2.out.size z3) (.cells #[.int .i64 X, .int .i64 Y] 30)).alloc (by have := Nat.le_trans HB2.out.size z3; simp; omega) (.cells #[.int .i64 P, .int .i64 Q] 30)))
    have R3 := Lib.hid (((rowIs_below R2.out hb R2.out.lt).alloc (.cells #[.int .i64 X, .int .i64 Y] 30)).alloc (.cells #[.int .i64 P, .int .i64 Q] 30))
    have P3 := Lib.hid ((two_new w3 X Y 30).alloc (.cells #[.int .i64 P, .int .i64 Q] 30))
    have o3 := two_new (w3.alloc (.cells #[.int .i64 X, .int .i64 Y] 30)) P Q 30
    rw [World.size_alloc] at o3
    have O3 := Lib.hid o3
    obtain ⟨m0, m1, m2⟩ := three_cells R3.out
    clear hb o3
    go_wp2_with fail
    refine (toMm_cp M _ (A3.out.more HB3.out.size) HSZ.out).mono ?_
    rintro e w4 ⟨L, rfl, hk, ak, hb⟩
    have z4 := hb.size
    simp only [World.size_alloc] at z4
    have hb' := hb.mono HB3.out.size
    have HB4 := Lib.hid ((HB3.out.trans hb').alloc (Nat.le_trans HB3.out.size hb.size) (.cells #[.slice L.a L.n L.c, .slice L.b L.m L.d, .slice L.e L.p L.f] 26))
    have A4 := Lib.hid ((A3.out.keep hb').keep ((Below.refl w.heap.size w4).alloc (Nat.le_trans HB3.out.size hb.size) (.cells #[.slice L.a L.n L.c, .slice L.b L.m L.d, .slice L.e L.p L.f] 26)))
    have R4 := Lib.hid ((rowIs_below R3.out hb R3.out.lt).alloc (.cells #[.slice L.a L.n L.c, .slice L.b L.m L.d, .slice L.e L.p L.f] 26))
    have P4 := Lib.hid ((rowIs_below P3.out hb P3.out.lt).alloc (.cells #[.slice L.a L.n L.c, .slice L.b L.m L.d, .slice L.e L.p L.f] 26))
    have O4 := Lib.hid ((rowIs_below O3.out hb O3.out.lt).alloc (.cells #[.slice L.a L.n L.c, .slice L.b L.m L.d, .slice L.e L.p L.f] 26))
    have Q4 := Lib.hid (three_new w4 (.slice L.a L.n L.c) (.slice L.b L.m L.d) (.slice L.e L.p L.f) 26)
    have AL := Lib.hid (ak.keep ((Below.refl w4.heap.size w4).alloc (Nat.le_refl _) (.cells #[.slice L.a L.n L.c, .slice L.b L.m L.d, .slice L.e L.p L.f] 26)))
    have HL := Lib.hid hk
    clear hb hb' ak hk m0 m1 m2
    go_wp2_with fail
    refine (IM.out L HL.out _ (AL.out.more (by simp))).mono ?_
    rw [VV.out L HL.out]
    rintro e w5 ⟨rfl, hb⟩
    have z5 := hb.size
    simp only [World.size_alloc] at z5
    have HB5 := Lib.hid (((HB4.out.trans (hb.mono HB4.out.size)).alloc (Nat.le_trans HB4.out.size hb.size) (.cells #[.int .i64 X, .int .i64 Y] 30)).alloc (by have := Nat.le_trans HB4.out.size hb.size; simp; omega) (.cells #[.int .i64 P, .int .i64 Q] 30))
    have A5 := Lib.hid ((A4.out.keep (hb.mono HB4.out.size)).keep (((Below.refl w.heap.size w5).alloc (Nat.le_trans HB4.out.size hb.size) (.cells #[.int .i64 X, .int .i64 Y] 30)).alloc (by have := Nat.le_trans HB4.out.size hb.size; simp; omega) (.cells #[.int .i64 P, .int .i64 Q] 30)))
    have R5 := Lib.hid (((rowIs_below R4.out hb R4.out.lt).alloc (.cells #[.int .i64 X, .int .i64 Y] 30)).alloc (.cells #[.int .i64 P, .int .i64 Q] 30))
    have P5 := Lib.hid (((rowIs_below P4.out hb P4.out.lt).alloc (.cells #[.int .i64 X, .int .i64 Y] 30)).alloc (.cells #[.int .i64 P, .int .i64 Q] 30))
    have O5 := Lib.hid (((rowIs_below O4.out hb O4.out.lt).alloc (.cells #[.int .i64 X, .int .i64 Y] 30)).alloc (.cells #[.int .i64 P, .int .i64 Q] 30))
    have Q5 := Lib.hid (((rowIs_below Q4.out hb Q4.out.lt).alloc (.cells #[.int .i64 X, .int .i64 Y] 30)).alloc (.cells #[.int .i64 P, .int .i64 Q] 30))
    have G5 := Lib.hid ((two_new w5 X Y 30).alloc (.cells #[.int .i64 P, .int .i64 Q] 30))
    have k5 := two_new (w5.alloc (.cells #[.int .i64 X, .int .i64 Y] 30)) P Q 30
    rw [World.size_alloc] at k5
    have K5 := Lib.hid k5
    have AL5 := Lib.hid ((AL.out.keep (hb.mono (by simp))).keep (((Below.refl w4.heap.size w5).alloc (by omega) (.cells #[.int .i64 X, .int .i64 Y] 30)).alloc (by simp; omega) (.cells #[.int .i64 P, .int .i64 Q] 30)))
    obtain ⟨p0, p1, _, _⟩ := two_cells P5.out
    obtain ⟨g0, g1, _, _⟩ := two_cells G5.out
    clear hb k5
    have hcc : (C != C) = false := by simp
    go_wp2_with fail
    refine (eqShare_same X Y _).mono ?_
    rintro e w6 ⟨rfl, hb⟩
    have z6 := hb.size
    simp only [World.size_alloc] at z6
    have HBz := Lib.hid (HB5.out.trans (hb.mono HB5.out.size))
    have Az := Lib.hid (A5.out.keep (hb.mono HB5.out.size))
    have Rz := Lib.hid (rowIs_below R5.out hb R5.out.lt)
    have Qz := Lib.hid (rowIs_below Q5.out hb Q5.out.lt)
    have Oz := Lib.hid (rowIs_below O5.out hb O5.out.lt)
    have Kz := Lib.hid (rowIs_below K5.out hb K5.out.lt)
    have ALz := Lib.hid (AL5.out.keep (hb.mono (by simp; omega)))
    clear hb p0 p1 g0 g1
    obtain ⟨p0, p1, _, _⟩ := two_cells Oz.out
    obtain ⟨g0, g1, _, _⟩ := two_cells Kz.out
    go_wp2_with fail
    refine (eqShare_same P Q _).mono ?_
    rintro e w7 ⟨rfl, hb⟩
    have z7 := hb.size
    have HB6 := Lib.hid (HBz.out.trans (hb.mono HBz.out.size))
    have A6 := Lib.hid (Az.out.keep (hb.mono HBz.out.size))
    have R6 := Lib.hid (rowIs_below Rz.out hb Rz.out.lt)
    have Q6 := Lib.hid (rowIs_below Qz.out hb Qz.out.lt)
    have AL6 := Lib.hid ((ALz.out.keep (hb.mono (by omega))).more (B' := w7.heap.size) (by omega))
    obtain ⟨m0, m1, m2⟩ := three_cells R6.out
    obtain ⟨q0, q1, q2⟩ := three_cells Q6.out
    clear hb p0 p1 g0 g1
    go_wp2_with fail
    have A7 := (A6.out.more HB6.out.size).drew
    have HB7 := Lib.hid HB6.out.drew
    have Q7 := Lib.hid Q6.out.drew
    have AL7 := AL6.out.drew
    have hsz := HSZ.out
    have hln := HL.out
    have hlz := Lib.hid (HL.out.sz HSZ.out)
    go_region_with (first | (go_at_call 25; refine (toMm_cp M _ A7 hsz).mono ?_; rintro e w8x ⟨J, rfl, hj, aj, hb⟩; have z8x := hb.size; obtain ⟨n0, n1, n2⟩ := three_cells (rowIs_below Q7.out hb Q7.out.lt)) | (go_at_call 28; refine (eqMm_cp L J _ ((AL7.keep hb).more hb.size) aj (hln.two hj) hlz.out).mono ?_; rintro e w9x ⟨rfl, hc⟩; have z9x := hc.size))
    all_goals
      go_wp2_with fail
      go_ret
      refine ⟨rfl, ?_⟩
      have H7 : Below w.heap.size w w8x := HB7.out.trans (hb.mono HB7.out.size)
      have H8 : Below w.heap.size w w9x := H7.trans (hc.mono H7.size)
      exact H8
namespace fnExactDoublingWindow
set_option linter.unusedVariables false
set_option maxRecDepth 100000 in
theorem lifted (os : Os) (started : os.Started) (H : Type) (enc : TypeId × Value → H) :
    ReturnsInHanded {} Try.checked os 13 .any (Rows.fnExactDoublingWindowSpec.pre6 enc Try.prog Try.f13 Rows.fnExactDoublingWindowRow.domain false) (Rows.fnExactDoublingWindowSpec.post enc Try.prog Try.f13 false true false false) := by
  refine returnsInHanded_of_change (C := Try.checked) own started (by kernel_rfl) Try.func13
    (ChangeSpec.witness6 (enc := enc) (C := Try.checked) false ⟨#[], #[.agg #[.slice none 0 0, .slice none 0 0, .slice none 0 0], .int .i64 0, .int .i64 0, .int .i64 0, .int .i64 0], []⟩ 8 (by kernel_rfl) (by kernel_rfl) (by kernel_rfl) (by kernel_rfl)) ?_
  intro W base args ds gs before hval0 hW hcnd _
  have hval : ∀ (j : Nat) t v, Try.f13.params[j]? = some t → args[j]? = some v → Value.okWide Try.prog W .any base t v := hval0
  have hW' := hW
  obtain ⟨p, q, hA0, hV, rfl, hfz, hnd⟩ := hW
  have hA : DataW.TrodAll enc Try.prog W 0 (fun _ => true) true Try.f13.params.toList args.toList ds p := hA0
  rw [Try.params13] at hA hval
  obtain ⟨v0, vs0, d0, ds0, p0, q0, hargs, rfl, rfl, h0, r0⟩ := trodAll_cons hA
  obtain ⟨v1, vs1, d1, ds1, p1, q1, rfl, rfl, rfl, h1, r1⟩ := trodAll_cons r0
  obtain ⟨v2, vs2, d2, ds2, p2, q2, rfl, rfl, rfl, h2, r2⟩ := trodAll_cons r1
  obtain ⟨v3, vs3, d3, ds3, p3, q3, rfl, rfl, rfl, h3, r3⟩ := trodAll_cons r2
  obtain ⟨v4, vs4, d4, ds4, p4, q4, rfl, rfl, rfl, h4, r4⟩ := trodAll_cons r3
  obtain ⟨rfl, rfl, rfl⟩ := trodAll_nil r4
  obtain rfl : args = #[v0, v1, v2, v3, v4] := by cases args; simp_all
  obtain ⟨rfl, rfl⟩ := trodVars_none hV
  obtain ⟨ax0, nx0, cx0, x0, bx0, mx0, dx0, yx0, ex0, px0, fx0, zx0, rfl, wx0⟩ := open_mm (hval 0 36 v0 rfl rfl) h0
  obtain ⟨x1, rfl, _, _, wx1⟩ := open_int Try.underlying2 (hval 1 2 v1 rfl rfl) h1
  obtain ⟨x2, rfl, _, _, wx2⟩ := open_int Try.underlying2 (hval 2 2 v2 rfl rfl) h2
  obtain ⟨x3, rfl, _, _, wx3⟩ := open_int Try.underlying2 (hval 3 2 v3 rfl rfl) h3
  obtain ⟨x4, rfl, _, _, wx4⟩ := open_int Try.underlying2 (hval 4 2 v4 rfl rfl) h4
  clear hA0 hval0
  refine (walk_FnExactDoublingWindow W ax0 nx0 cx0 x0 bx0 mx0 dx0 yx0 ex0 px0 fx0 zx0 wx0 x1 wx1 x2 wx2 x3 wx3 x4 wx4).mono fun e W' ⟨he, bel⟩ => ?_
  subst he
  exact ⟨_, rfl, _, _, _, [], _, [], hW', trodAll_mk1 (shut_bool Try.underlying4 _), (trodAll_cons_mk (Below.trod laidOut (by kernel_rfl) (of_decide_eq_true (by kernel_rfl)) h0 bel (lt_of_trod h0)) (trodAll_cons_mk (Below.trod laidOut (by kernel_rfl) (of_decide_eq_true (by kernel_rfl)) h1 bel (lt_of_trod h1)) (trodAll_cons_mk (Below.trod laidOut (by kernel_rfl) (of_decide_eq_true (by kernel_rfl)) h2 bel (lt_of_trod h2)) (trodAll_cons_mk (Below.trod laidOut (by kernel_rfl) (of_decide_eq_true (by kernel_rfl)) h3 bel (lt_of_trod h3)) (trodAll_cons_mk (Below.trod laidOut (by kernel_rfl) (of_decide_eq_true (by kernel_rfl)) h4 bel (lt_of_trod h4)) trodAll_mk0))))), rfl, bel.frame _, fun h => by cases h⟩

theorem over : Rows.fnExactDoublingWindowRow.holds Try.pinned (OpenSpec.ofChange Rows.fnExactDoublingWindowSpec) :=
  OpenClaim.holds_of_wide 13 Try.f13 rfl rfl rfl rfl rfl rfl rfl ⟨rfl, rfl, rfl, rfl, rfl⟩ rfl rfl rfl rfl rfl (by kernel_rfl) Try.func13 (by kernel_rfl)
    (of_decide_eq_true (by kernel_rfl)) (by unfold Func.isWrapper; first | (rw [if_pos (by decide +kernel)]; kernel_rfl) | (rw [if_neg (by decide +kernel)]; exact ⟨rfl, rfl⟩))
    (fun os started H enc _ => lifted os started H enc)
theorem proved : Rows.FnExactDoublingWindowSaid := over
#print axioms proved
end fnExactDoublingWindow
end Go.Proofs.Ytkioliioakmepaa
