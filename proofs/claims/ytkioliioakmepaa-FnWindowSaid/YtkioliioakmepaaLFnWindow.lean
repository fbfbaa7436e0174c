/-
  FnWindow returns true for every code: the window of a double lies between the double point and the chance that the take point leaves, and both packages give a gammon the same value. No condition. (Printed by gen_fnwindow.py.)
-/
import Derived.Test.YtkioliioakmepaaMchL9
import Derived.Test.YtkioliioakmepaaMchDW
import Derived.Test.YtkioliioakmepaaMchGQ
namespace Go.Proofs.Ytkioliioakmepaa
open Go.ChangeShapes Go.WideShapes Go.ChangeAt Go.RowKit
set_option linter.unusedVariables false

theorem tup3 (v : Int × Int × Int) : ∃ x y c, v = (x, y, c) := ⟨v.1, v.2.1, v.2.2, rfl⟩
theorem shB_co {x y : Int} (h : shB x y = true) : shB (y - x) y = true := by
  obtain ⟨h1, h2, h3, h4, h5⟩ := shB_out h
  have e := shB_lo (n := y - x) (d := y) (by omega) (by omega) (by omega)
  have g : (Int.gcd y (y - x) : Int) = 1 := by rw [gcd_co2]; exact h5
  rw [loN_one g, loD_one g] at e
  rw [e, loB, loD_one g]
  exact decide_eq_true h2
theorem wd_ok {M : Mm} {a b ph c : Int} (h : (wdV M a b ph c).2.2.2.2 = 0) : (dpV M a b ph c).2.2 = 0 ∧ (mtV M a b ph c).2.2 = 0 ∧ wdV M a b ph c = ((dpV M a b ph c).1, (dpV M a b ph c).2.1, (mtV M a b ph c).2.1 - (mtV M a b ph c).1, (mtV M a b ph c).2.1, 0) := by
  unfold wdV at h ⊢
  split
  · rename_i h1
    rw [if_pos h1] at h
    split
    · rename_i h2; exact ⟨h1, h2, rfl⟩
    · rename_i h2; rw [if_neg h2] at h; exact absurd h h2
  · rename_i h1; rw [if_neg h1] at h; exact absurd h h1
theorem wd_err {M : Mm} {a b ph c : Int} (h : ¬ (wdV M a b ph c).2.2.2.2 = 0) : (wdV M a b ph c).1 = 0 ∧ (wdV M a b ph c).2.1 = 0 ∧ (wdV M a b ph c).2.2.1 = 0 ∧ (wdV M a b ph c).2.2.2.1 = 0 := by
  unfold wdV at h ⊢
  split
  · rename_i h1
    rw [if_pos h1] at h
    split
    · rename_i h2; rw [if_pos h2] at h; exact absurd rfl h
    · exact ⟨rfl, rfl, rfl, rfl⟩
  · exact ⟨rfl, rfl, rfl, rfl⟩
set_option maxRecDepth 16000 in
set_option maxHeartbeats 6400000 in
theorem walk_FnWindow (w : World) (ax0 : Option Addr) (nx0 cx0 : Nat) (x0 : List Int) (wx0 : IntsArg w .u8 ax0 nx0 x0) :
    Calls Try.prog 3 #[.slice ax0 nx0 cx0] w fun e w' => e = .returned (.bool true) ∧ Below w.heap.size w w' := by
  by_cases hbig : 4096 < (nx0 : Int)
  · have hd : decide (4096 < (nx0 : Int)) = true := decide_eq_true hbig
    go_enter Try.func3, Try.ntmps3
    go_wp2_with fail
    refine (big_any _ _ _ _).mono ?_
    rw [hd]
    rintro e w1 ⟨rfl, rfl⟩
    go_wp2_with fail
    go_ret
    exact ⟨rfl, Below.refl _ _⟩
  · have hd : decide (4096 < (nx0 : Int)) = false := decide_eq_false hbig
    have DR := Lib.hid (DrawDoublingWindow_any ax0 nx0 cx0 x0 w wx0 (by omega))
    clear wx0 hbig
    go_enter Try.func3, Try.ntmps3
    go_wp2_with fail
    refine (big_any _ _ _ _).mono ?_
    rw [hd]
    rintro e w1 ⟨rfl, rfl⟩
    go_wp2_with fail
    refine DR.out.mono ?_
    rintro e w1 ⟨M, x, y, p, q, rfl, hs, hA, hb⟩
    have WOK := Lib.hid (fun h => wd_ok (M := M) (a := x) (b := y) (ph := p) (c := q) h)
    have WER := Lib.hid (fun h => wd_err (M := M) (a := x) (b := y) (ph := p) (c := q) h)
    have MTO := Lib.hid (fun h => mt_ok (a := x) (b := y) (ph := p) (c := q) hA h)
    have WI := Lib.hid (fun W (h : M.at W W.heap.size) => impl_DoublingWindow_any M x y p q W h hs)
    have WS := Lib.hid (fun W (h : M.at W W.heap.size) => spec_DoublingWindow_any M x y p q W h hs)
    have GI := Lib.hid (fun W (h : M.at W W.heap.size) => impl_GammonValue_any M x y p q W h hs)
    have GS := Lib.hid (fun W (h : M.at W W.heap.size) => spec_GammonValue_any M x y p q W h hs)
    have DI := Lib.hid (fun W (h : M.at W W.heap.size) => impl_MatchDoublePoint_any M x y p q W h hs)
    have TI := Lib.hid (fun W (h : M.at W W.heap.size) => impl_MatchTakePoint_any M x y p q W h hs)
    obtain ⟨G, H, J, hG⟩ := tup3 (gvV M x y p q)
    rw [hG] at GI GS
    obtain ⟨X, Y, C, hV⟩ := tup3 (dpV M x y p q)
    obtain ⟨U, V, E, hU⟩ := tup3 (mtV M x y p q)
    rw [hV] at DI WOK
    rw [hU] at TI WOK MTO
    obtain ⟨R, S, T, N, D, hW⟩ : ∃ a b c d e, wdV M x y p q = (a, b, c, d, e) := ⟨(wdV M x y p q).1, (wdV M x y p q).2.1, (wdV M x y p q).2.2.1, (wdV M x y p q).2.2.2.1, (wdV M x y p q).2.2.2.2, rfl⟩
    rw [hW] at WI WS WOK WER
    replace WOK : Hid (D = 0 → C = 0 ∧ E = 0 ∧ (R, S, T, N, D) = (X, Y, V - U, V, 0)) := WOK
    replace WER : Hid (¬ D = 0 → R = 0 ∧ S = 0 ∧ T = 0 ∧ N = 0) := WER
    replace MTO : Hid (E = 0 → shB U V = true) := MTO
    have HA := Lib.hid hA
    have z1 := hb.size
    have B1 := Lib.hid (hb.alloc z1 (.cells #[.slice M.a M.n M.c, .slice M.b M.m M.d, .slice M.e M.p M.f] 26))
    have A1 := Lib.hid (hA.keep ((Below.refl w1.heap.size w1).alloc (Nat.le_refl _) (.cells #[.slice M.a M.n M.c, .slice M.b M.m M.d, .slice M.e M.p M.f] 26)))
    have R1 := Lib.hid (three_new w1 (.slice M.a M.n M.c) (.slice M.b M.m M.d) (.slice M.e M.p M.f) 26)
    clear hb hV hU hW hG hs hA
    go_wp2_with fail
    refine (WI.out _ (A1.out.more (by first | omega | (simp; done) | (simp; omega)))).mono ?_
    rintro e w2 ⟨rfl, hb⟩
    have z2 := hb.size
    simp only [World.size_alloc] at z2
    have B2 := Lib.hid (((B1.out.trans (hb.mono B1.out.size)).alloc (by first | omega | (simp; omega)) (.cells #[.int .i64 R, .int .i64 S] 30)).alloc (by first | omega | (simp; omega)) (.cells #[.int .i64 T, .int .i64 N] 30))
    have A2 := Lib.hid ((A1.out.keep (hb.mono (by first | omega | (simp; done) | (simp; omega)))).keep (((Below.refl w1.heap.size w2).alloc (by first | omega | (simp; omega)) (.cells #[.int .i64 R, .int .i64 S] 30)).alloc (by first | omega | (simp; omega)) (.cells #[.int .i64 T, .int .i64 N] 30)))
    have R2 := Lib.hid (((rowIs_below R1.out hb R1.out.lt).alloc (.cells #[.int .i64 R, .int .i64 S] 30)).alloc (.cells #[.int .i64 T, .int .i64 N] 30))
    have r0 := two_new (w2) R S 30
    have Pa2 := Lib.hid ((r0).alloc (.cells #[.int .i64 T, .int .i64 N] 30))
    clear r0
    have r0 := two_new (w2.alloc (.cells #[.int .i64 R, .int .i64 S] 30)) T N 30
    simp only [World.size_alloc] at r0
    have Pb2 := Lib.hid (r0)
    clear r0
    clear hb
    obtain ⟨m0, m1, m2⟩ := three_cells R2.out
    go_wp2_with fail
    refine (WS.out _ (A2.out.more (by first | omega | (simp; done) | (simp; omega)))).mono ?_
    rintro e w3 ⟨rfl, hb⟩
    have z3 := hb.size
    simp only [World.size_alloc] at z3
    have B3 := Lib.hid (((B2.out.trans (hb.mono B2.out.size)).alloc (by first | omega | (simp; omega)) (.cells #[.int .i64 R, .int .i64 S] 30)).alloc (by first | omega | (simp; omega)) (.cells #[.int .i64 T, .int .i64 N] 30))
    have A3 := Lib.hid ((A2.out.keep (hb.mono (by first | omega | (simp; done) | (simp; omega)))).keep (((Below.refl w1.heap.size w3).alloc (by first | omega | (simp; omega)) (.cells #[.int .i64 R, .int .i64 S] 30)).alloc (by first | omega | (simp; omega)) (.cells #[.int .i64 T, .int .i64 N] 30)))
    have R3 := Lib.hid (((rowIs_below R2.out hb R2.out.lt).alloc (.cells #[.int .i64 R, .int .i64 S] 30)).alloc (.cells #[.int .i64 T, .int .i64 N] 30))
    have Pa3 := Lib.hid (((rowIs_below Pa2.out hb Pa2.out.lt).alloc (.cells #[.int .i64 R, .int .i64 S] 30)).alloc (.cells #[.int .i64 T, .int .i64 N] 30))
    have Pb3 := Lib.hid (((rowIs_below Pb2.out hb Pb2.out.lt).alloc (.cells #[.int .i64 R, .int .i64 S] 30)).alloc (.cells #[.int .i64 T, .int .i64 N] 30))
    have r0 := two_new (w3) R S 30
    have Qa3 := Lib.hid ((r0).alloc (.cells #[.int .i64 T, .int .i64 N] 30))
    clear r0
    have r0 := two_new (w3.alloc (.cells #[.int .i64 R, .int .i64 S] 30)) T N 30
    simp only [World.size_alloc] at r0
    have Qb3 := Lib.hid (r0)
    clear r0
    clear hb m0 m1 m2
    obtain ⟨m0, m1, m2⟩ := three_cells R3.out
    have hdd : (D != D) = false := by simp
    go_wp2_with fail
    refine (GI.out _ (A3.out.more (by first | omega | (simp; done) | (simp; omega)))).mono ?_
    rintro e w4 ⟨rfl, hb⟩
    have z4 := hb.size
    simp only [World.size_alloc] at z4
    have B4 := Lib.hid ((B3.out.trans (hb.mono B3.out.size)).alloc (by first | omega | (simp; omega)) (.cells #[.int .i64 G, .int .i64 H] 30))
    have A4 := Lib.hid ((A3.out.keep (hb.mono (by first | omega | (simp; done) | (simp; omega)))).keep ((Below.refl w1.heap.size w4).alloc (by first | omega | (simp; omega)) (.cells #[.int .i64 G, .int .i64 H] 30)))
    have R4 := Lib.hid ((rowIs_below R3.out hb R3.out.lt).alloc (.cells #[.int .i64 G, .int .i64 H] 30))
    have Pa4 := Lib.hid ((rowIs_below Pa3.out hb Pa3.out.lt).alloc (.cells #[.int .i64 G, .int .i64 H] 30))
    have Pb4 := Lib.hid ((rowIs_below Pb3.out hb Pb3.out.lt).alloc (.cells #[.int .i64 G, .int .i64 H] 30))
    have r0 := two_new (w4) G H 30
    have Ga4 := Lib.hid (r0)
    clear r0
    clear hb m0 m1 m2
    obtain ⟨m0, m1, m2⟩ := three_cells R4.out
    go_wp2_with fail
    refine (GS.out _ (A4.out.more (by first | omega | (simp; done) | (simp; omega)))).mono ?_
    rintro e w5 ⟨rfl, hb⟩
    have z5 := hb.size
    simp only [World.size_alloc] at z5
    have B5 := Lib.hid ((B4.out.trans (hb.mono B4.out.size)).alloc (by first | omega | (simp; omega)) (.cells #[.int .i64 G, .int .i64 H] 30))
    have A5 := Lib.hid ((A4.out.keep (hb.mono (by first | omega | (simp; done) | (simp; omega)))).keep ((Below.refl w1.heap.size w5).alloc (by first | omega | (simp; omega)) (.cells #[.int .i64 G, .int .i64 H] 30)))
    have R5 := Lib.hid ((rowIs_below R4.out hb R4.out.lt).alloc (.cells #[.int .i64 G, .int .i64 H] 30))
    have Pa5 := Lib.hid ((rowIs_below Pa4.out hb Pa4.out.lt).alloc (.cells #[.int .i64 G, .int .i64 H] 30))
    have Pb5 := Lib.hid ((rowIs_below Pb4.out hb Pb4.out.lt).alloc (.cells #[.int .i64 G, .int .i64 H] 30))
    have Ga5 := Lib.hid ((rowIs_below Ga4.out hb Ga4.out.lt).alloc (.cells #[.int .i64 G, .int .i64 H] 30))
    have r0 := two_new (w5) G H 30
    have Gb5 := Lib.hid (r0)
    clear r0
    clear hb m0 m1 m2
    obtain ⟨m0, m1, m2⟩ := three_cells R5.out
    obtain ⟨g0, g1, _, _⟩ := two_cells Ga5.out
    obtain ⟨i0, i1, _, _⟩ := two_cells Gb5.out
    obtain ⟨c0, c1, _, _⟩ := two_cells Pa5.out
    obtain ⟨d0, d1, _, _⟩ := two_cells Pb5.out
    have hjj : (J != J) = false := by simp
    by_cases hD : D = 0
    · subst hD
      obtain ⟨rfl, rfl, hq⟩ := WOK.out rfl
      have hsh := MTO.out rfl
      injection hq with e1 hq
      injection hq with e2 hq
      injection hq with e3 hq
      injection hq with e4 hq
      subst e1
      subst e2
      subst e4
      have hco : shB T N = true := by rw [e3]; exact shB_co hsh
      obtain ⟨s1, s2, s3, s4, _⟩ := shB_out hsh
      have wz : U + T = N := by omega
      have IS := Lib.hid (fun W => spec_IsShare_any T N W)
      rw [hco] at IS
      have wne : IntKind.i64.wrap (U + T) = N := by rw [wz]; exact IntWalk.i64_in _ (by omega)
      clear hq hco hsh e3 wz WOK WER MTO
      go_wp2_with fail
      refine (DI.out _ (A5.out.more (by first | omega | (simp; done) | (simp; omega)))).mono ?_
      rintro e w6 ⟨rfl, hb⟩
      have z6 := hb.size
      simp only [World.size_alloc] at z6
      have B6 := Lib.hid ((B5.out.trans (hb.mono B5.out.size)).alloc (by first | omega | (simp; omega)) (.cells #[.int .i64 R, .int .i64 S] 30))
      have A6 := Lib.hid ((A5.out.keep (hb.mono (by first | omega | (simp; done) | (simp; omega)))).keep ((Below.refl w1.heap.size w6).alloc (by first | omega | (simp; omega)) (.cells #[.int .i64 R, .int .i64 S] 30)))
      have R6 := Lib.hid ((rowIs_below R5.out hb R5.out.lt).alloc (.cells #[.int .i64 R, .int .i64 S] 30))
      have Pa6 := Lib.hid ((rowIs_below Pa5.out hb Pa5.out.lt).alloc (.cells #[.int .i64 R, .int .i64 S] 30))
      have Pb6 := Lib.hid ((rowIs_below Pb5.out hb Pb5.out.lt).alloc (.cells #[.int .i64 R, .int .i64 S] 30))
      have Ga6 := Lib.hid ((rowIs_below Ga5.out hb Ga5.out.lt).alloc (.cells #[.int .i64 R, .int .i64 S] 30))
      have Gb6 := Lib.hid ((rowIs_below Gb5.out hb Gb5.out.lt).alloc (.cells #[.int .i64 R, .int .i64 S] 30))
      have r0 := two_new (w6) R S 30
      have Da6 := Lib.hid (r0)
      clear r0
      clear hb m0 m1 m2 g0 g1 i0 i1 c0 c1 d0 d1
      obtain ⟨m0, m1, m2⟩ := three_cells R6.out
      go_wp2_with fail
      refine (TI.out _ (A6.out.more (by first | omega | (simp; done) | (simp; omega)))).mono ?_
      rintro e w7 ⟨rfl, hb⟩
      have z7 := hb.size
      simp only [World.size_alloc] at z7
      have B7 := Lib.hid ((B6.out.trans (hb.mono B6.out.size)).alloc (by first | omega | (simp; omega)) (.cells #[.int .i64 U, .int .i64 N] 30))
      have A7 := Lib.hid ((A6.out.keep (hb.mono (by first | omega | (simp; done) | (simp; omega)))).keep ((Below.refl w1.heap.size w7).alloc (by first | omega | (simp; omega)) (.cells #[.int .i64 U, .int .i64 N] 30)))
      have R7 := Lib.hid ((rowIs_below R6.out hb R6.out.lt).alloc (.cells #[.int .i64 U, .int .i64 N] 30))
      have Pa7 := Lib.hid ((rowIs_below Pa6.out hb Pa6.out.lt).alloc (.cells #[.int .i64 U, .int .i64 N] 30))
      have Pb7 := Lib.hid ((rowIs_below Pb6.out hb Pb6.out.lt).alloc (.cells #[.int .i64 U, .int .i64 N] 30))
      have Ga7 := Lib.hid ((rowIs_below Ga6.out hb Ga6.out.lt).alloc (.cells #[.int .i64 U, .int .i64 N] 30))
      have Gb7 := Lib.hid ((rowIs_below Gb6.out hb Gb6.out.lt).alloc (.cells #[.int .i64 U, .int .i64 N] 30))
      have Da7 := Lib.hid ((rowIs_below Da6.out hb Da6.out.lt).alloc (.cells #[.int .i64 U, .int .i64 N] 30))
      have r0 := two_new (w7) U N 30
      have Ta7 := Lib.hid (r0)
      clear r0
      clear hb m0 m1 m2
      obtain ⟨m0, m1, m2⟩ := three_cells R7.out
      obtain ⟨c0, c1, _, _⟩ := two_cells Pa7.out
      obtain ⟨d0, d1, _, _⟩ := two_cells Pb7.out
      obtain ⟨g0, g1, _, _⟩ := two_cells Da7.out
      obtain ⟨i0, i1, _, _⟩ := two_cells Ta7.out
      go_wp2_with fail
      refine (IS.out _).mono ?_
      rintro e wz ⟨rfl, hb⟩
      have BF := Lib.hid (B7.out.trans (hb.mono B7.out.size))
      clear hb
      go_wp2_with fail
      go_ret
      exact ⟨rfl, BF.out⟩
    · obtain ⟨rfl, rfl, rfl, rfl⟩ := WER.out hD
      have ed : (D != 0) = true := by simpa using hD
      clear hD
      go_wp2_with fail
      go_ret
      exact ⟨rfl, B5.out⟩
namespace fnWindow
set_option linter.unusedVariables false
set_option maxRecDepth 100000 in
theorem lifted (os : Os) (started : os.Started) (H : Type) (enc : TypeId × Value → H) :
    ReturnsInHanded {} Try.checked os 3 .any (Rows.fnWindowSpec.pre6 enc Try.prog Try.f3 Rows.fnWindowRow.domain false) (Rows.fnWindowSpec.post enc Try.prog Try.f3 false true false false) := by
  refine returnsInHanded_of_change (C := Try.checked) own started (by kernel_rfl) Try.func3
    (ChangeSpec.witness6 (enc := enc) (C := Try.checked) false ⟨#[], #[.slice none 0 0], []⟩ 8 (by kernel_rfl) (by kernel_rfl) (by kernel_rfl) (by kernel_rfl)) ?_
  intro W base args ds gs before hval0 hW hcnd _
  have hval : ∀ (j : Nat) t v, Try.f3.params[j]? = some t → args[j]? = some v → Value.okWide Try.prog W .any base t v := hval0
  have hW' := hW
  obtain ⟨p, q, hA0, hV, rfl, hfz, hnd⟩ := hW
  have hA : DataW.TrodAll enc Try.prog W 0 (fun _ => true) true Try.f3.params.toList args.toList ds p := hA0
  rw [Try.params3] at hA hval
  obtain ⟨v0, vs0, d0, ds0, p0, q0, hargs, rfl, rfl, h0, r0⟩ := trodAll_cons hA
  obtain ⟨rfl, rfl, rfl⟩ := trodAll_nil r0
  obtain rfl : args = #[v0] := by cases args; simp_all
  obtain ⟨rfl, rfl⟩ := trodVars_none hV
  obtain ⟨ax0, nx0, cx0, x0, rfl, wx0⟩ := open_ints_arg Try.underlying22 Try.underlying5 (by kernel_rfl) (hval 0 22 v0 rfl rfl) h0
  clear hA0 hval0
  refine (walk_FnWindow W ax0 nx0 cx0 x0 wx0).mono fun e W' ⟨he, bel⟩ => ?_
  subst he
  exact ⟨_, rfl, _, _, _, [], _, [], hW', trodAll_mk1 (shut_bool Try.underlying4 _), (trodAll_cons_mk (Below.trod laidOut (by kernel_rfl) (of_decide_eq_true (by kernel_rfl)) h0 bel (lt_of_trod h0)) trodAll_mk0), rfl, bel.frame _, fun h => by cases h⟩

theorem over : Rows.fnWindowRow.holds Try.pinned (OpenSpec.ofChange Rows.fnWindowSpec) :=
  OpenClaim.holds_of_wide 3 Try.f3 rfl rfl rfl rfl rfl rfl rfl ⟨rfl, rfl, rfl, rfl, rfl⟩ rfl rfl rfl rfl rfl (by kernel_rfl) Try.func3 (by kernel_rfl)
    (of_decide_eq_true (by kernel_rfl)) (by unfold Func.isWrapper; first | (rw [if_pos (by decide +kernel)]; kernel_rfl) | (rw [if_neg (by decide +kernel)]; exact ⟨rfl, rfl⟩))
    (fun os started H enc _ => lifted os started H enc)
theorem proved : Rows.FnWindowSaid := over
#print axioms proved
end fnWindow
end Go.Proofs.Ytkioliioakmepaa
