/-
  FnMatchSum returns true for every code: the match chances of both players add up to 1, and after the Crawford game fewer points that are needed are never worse. No condition.
-/
import Derived.Test.YtkioliioakmepaaMchH
import Derived.Test.YtkioliioakmepaaMchT
import Derived.Test.YtkioliioakmepaaMchA
import Derived.Test.YtkioliioakmepaaCmpS
namespace Go.Proofs.Ytkioliioakmepaa
open Go.ChangeShapes Go.WideShapes Go.ChangeAt Go.RowKit
set_option linter.unusedVariables false

theorem impl_MatchPhase_ok (a b : Nat) (ph q : Int) (hs : stB a b ph = true) (hq : gp a b ph = q) (w : World) : Calls Try.prog 34 #[.int .i64 a, .int .i64 b, .int .i64 ph] w fun e w' => e = .returned (.int .i64 q) ∧ w = w' := by
  have HS := Lib.hid hs
  have HQ := Lib.hid hq
  clear hs hq
  go_enter Try.func34, Try.ntmps34
  go_wp2_with fail
  refine (isMatchState_k _ _ _ true HS.out _).mono ?_
  rintro e w1 ⟨rfl, rfl⟩
  go_wp2_with fail
  refine (gamePhase_i a b ph q HQ.out _).mono ?_
  rintro e w1 ⟨rfl, rfl⟩
  go_wp2_with fail
  go_ret
  exact ⟨rfl, rfl⟩
theorem spec_MatchPhase_ok (a b : Nat) (ph q : Int) (hs : stB a b ph = true) (hq : gp a b ph = q) (w : World) : Calls Try.prog 30 #[.int .i64 a, .int .i64 b, .int .i64 ph] w fun e w' => e = .returned (.int .i64 q) ∧ w = w' := by
  have HS := Lib.hid hs
  have HQ := Lib.hid hq
  clear hs hq
  go_enter Try.func30, Try.ntmps30
  go_wp2_with fail
  refine (l18State_k _ _ _ true HS.out _).mono ?_
  rintro e w1 ⟨rfl, rfl⟩
  go_wp2_with fail
  refine (l18Phase_k a b ph q HQ.out _).mono ?_
  rintro e w1 ⟨rfl, rfl⟩
  go_wp2_with fail
  go_ret
  exact ⟨rfl, rfl⟩
theorem tup3 (v : Int × Int × Int) : ∃ x y c, v = (x, y, c) := ⟨v.1, v.2.1, v.2.2, rfl⟩
set_option maxRecDepth 16000 in
set_option maxHeartbeats 6400000 in
theorem walk_FnMatchSum (w : World) (ax0 : Option Addr) (nx0 cx0 : Nat) (x0 : List Int) (wx0 : IntsArg w .u8 ax0 nx0 x0) :
    Calls Try.prog 7 #[.slice ax0 nx0 cx0] w fun e w' => e = .returned (.bool true) ∧ Below w.heap.size w w' := by
  by_cases hbig : 4096 < (nx0 : Int)
  · have hd : decide (4096 < (nx0 : Int)) = true := decide_eq_true hbig
    go_enter Try.func7, Try.ntmps7
    go_wp2_with fail
    refine (big_any _ _ _ _).mono ?_
    rw [hd]
    rintro e w1 ⟨rfl, rfl⟩
    go_wp2_with fail
    go_ret
    exact ⟨rfl, Below.refl _ _⟩
  · have hd : decide (4096 < (nx0 : Int)) = false := decide_eq_false hbig
    have DR := Lib.hid (DrawMatchChance_any ax0 nx0 cx0 x0 w wx0 (by omega))
    clear wx0 hbig
    go_enter Try.func7, Try.ntmps7
    go_wp2_with fail
    refine (big_any _ _ _ _).mono ?_
    rw [hd]
    rintro e w1 ⟨rfl, rfl⟩
    go_wp2_with fail
    refine DR.out.mono ?_
    rintro e w1 ⟨M, x, y, p, rfl, hs, hA, x1, x2, y1, y2, p1, p2, hb⟩
    obtain ⟨X, Y, C, hV⟩ := tup3 (mcV M x y p)
    obtain ⟨U, V, D, hW⟩ := tup3 (mcV M y x p)
    obtain ⟨q1, q2, q3⟩ := mc_swap hA x y p
    rw [hV, hW] at q1 q2 q3
    simp only at q1 q2 q3
    subst q1
    have HV := Lib.hid hV
    have HW := Lib.hid hW
    have HSZ := Lib.hid hs
    have HA := Lib.hid hA
    have Q2 := Lib.hid q2
    have Q3 := Lib.hid q3
    have z1 := hb.size
    have B1 := Lib.hid (hb.alloc z1 (.cells #[.slice M.a M.n M.c, .slice M.b M.m M.d, .slice M.e M.p M.f] 26))
    have A1 := Lib.hid (hA.keep ((Below.refl w1.heap.size w1).alloc (Nat.le_refl _) (.cells #[.slice M.a M.n M.c, .slice M.b M.m M.d, .slice M.e M.p M.f] 26)))
    have R1 := Lib.hid (three_new w1 (.slice M.a M.n M.c) (.slice M.b M.m M.d) (.slice M.e M.p M.f) 26)
    clear hb hV hW q2 q3 hs hA
    go_wp2_with fail
    refine (impl_MatchChance_any M x y p _ (A1.out.more (by simp)) HSZ.out).mono ?_
    rw [HV.out]
    rintro e w2 ⟨rfl, hb⟩
    have z2 := hb.size
    simp only [World.size_alloc] at z2
    have B2 := Lib.hid ((B1.out.trans (hb.mono B1.out.size)).alloc (by omega) (.cells #[.int .i64 X, .int .i64 Y] 30))
    have A2 := Lib.hid ((A1.out.keep (hb.mono (by simp))).keep ((Below.refl w1.heap.size w2).alloc (by omega) (.cells #[.int .i64 X, .int .i64 Y] 30)))
    have R2 := Lib.hid ((rowIs_below R1.out hb R1.out.lt).alloc (.cells #[.int .i64 X, .int .i64 Y] 30))
    have P2 := Lib.hid (two_new w2 X Y 30)
    obtain ⟨m0, m1, m2⟩ := three_cells R2.out
    clear hb
    go_wp2_with fail
    refine (impl_MatchChance_any M y x p _ (A2.out.more (by simp; omega)) HSZ.out).mono ?_
    rw [HW.out]
    rintro e w3 ⟨rfl, hb⟩
    have z3 := hb.size
    simp only [World.size_alloc] at z3
    have B3 := Lib.hid ((B2.out.trans (hb.mono B2.out.size)).alloc (by omega) (.cells #[.int .i64 U, .int .i64 V] 30))
    have A3 := Lib.hid ((A2.out.keep (hb.mono (by simp; omega))).keep ((Below.refl w1.heap.size w3).alloc (by omega) (.cells #[.int .i64 U, .int .i64 V] 30)))
    have R3 := Lib.hid ((rowIs_below R2.out hb R2.out.lt).alloc (.cells #[.int .i64 U, .int .i64 V] 30))
    have P3 := Lib.hid ((rowIs_below P2.out hb P2.out.lt).alloc (.cells #[.int .i64 U, .int .i64 V] 30))
    have S3 := Lib.hid (two_new w3 U V 30)
    clear hb m0 m1 m2
    obtain ⟨m0, m1, m2⟩ := three_cells R3.out
    go_wp2_with fail
    refine (spec_MatchChance_any M x y p _ (A3.out.more (by simp; omega)) HSZ.out).mono ?_
    rw [HV.out]
    rintro e w4 ⟨rfl, hb⟩
    have z4 := hb.size
    simp only [World.size_alloc] at z4
    have B4 := Lib.hid ((B3.out.trans (hb.mono B3.out.size)).alloc (by omega) (.cells #[.int .i64 X, .int .i64 Y] 30))
    have A4 := Lib.hid ((A3.out.keep (hb.mono (by simp; omega))).keep ((Below.refl w1.heap.size w4).alloc (by omega) (.cells #[.int .i64 X, .int .i64 Y] 30)))
    have R4 := Lib.hid ((rowIs_below R3.out hb R3.out.lt).alloc (.cells #[.int .i64 X, .int .i64 Y] 30))
    have P4 := Lib.hid ((rowIs_below P3.out hb P3.out.lt).alloc (.cells #[.int .i64 X, .int .i64 Y] 30))
    have S4 := Lib.hid ((rowIs_below S3.out hb S3.out.lt).alloc (.cells #[.int .i64 X, .int .i64 Y] 30))
    clear hb m0 m1 m2
    obtain ⟨m0, m1, m2⟩ := three_cells R4.out
    obtain ⟨c0, c1, _, _⟩ := two_cells P4.out
    obtain ⟨d0, d1, _, _⟩ := two_cells S4.out
    have hcc : (D != D) = false := by simp
    by_cases hD : D = 0
    · subst hD
      obtain ⟨e1, e2⟩ := Q2.out rfl
      replace e1 : V = Y := e1
      subst e1
      have K := mc_ok (M := M) (a := x) (b := y) (ph := p) (by rw [HV.out])
      obtain ⟨kg, ks, c, kc, kx, ky⟩ := K
      rw [HV.out] at kx ky
      obtain ⟨⟨a0, a9⟩, ⟨b0, b9⟩, ab, p0, p2'⟩ := stB_out ks
      obtain ⟨a, rfl⟩ := Int.eq_ofNat_of_zero_le a0
      obtain ⟨b, rfl⟩ := Int.eq_ofNat_of_zero_le b0
      have KS := Lib.hid ks
      have KG := Lib.hid kg
      have KC : Hid (M.ch a b p = some c) := kc
      have KX : Hid (X = sN c) := kx
      have KY : Hid (V = sD c) := ky
      obtain ⟨q, hq⟩ : ∃ q, gp a b p = q := ⟨_, rfl⟩
      have HQ := Lib.hid hq
      have hM := Mm.good_ok kg HA.out
      obtain ⟨cc0, cc1⟩ := Mm.ch_bd hM kc
      have hsf := s_facts cc0 cc1
      have xb : 0 ≤ X ∧ X ≤ V ∧ V ≤ 1000000000000000 := by
        have h1 : X = sN c := kx
        have h2 : V = sD c := ky
        have s1 : SC ≤ 1000000000000000 := by decide
        obtain ⟨_, h3, h4, _, h5, _⟩ := hsf
        omega
      have ub : 0 ≤ U ∧ U ≤ V := by omega
      obtain ⟨xb0, xb1, xb2⟩ := xb
      obtain ⟨ub0, ub1⟩ := ub
      have hne : (X + U != V) = false := by simp; omega
      have wne : IntKind.i64.wrap (X + U) = X + U := IntWalk.i64_in _ (by omega)
      have HE := Lib.hid e2
      have hqq : (q != q) = false := by simp
      have hvv : (V != V) = false := by simp
      clear ks kg kc kx ky hq hsf e2
      go_wp2_with fail
      refine (impl_MatchPhase_ok a b p q KS.out HQ.out _).mono ?_
      rintro e w5 ⟨rfl, rfl⟩
      go_wp2_with fail
      refine (spec_MatchPhase_ok a b p q KS.out HQ.out _).mono ?_
      rintro e w5 ⟨rfl, rfl⟩
      by_cases ha2 : (a : Int) < 2
      · go_wp2_with fail
        go_ret
        exact ⟨rfl, B4.out⟩
      by_cases hp2 : p = 2
      · subst hp2
        obtain ⟨Z, W, E, hZ⟩ := tup3 (mcV M ((a : Int) - 1) b 2)
        have HZ := Lib.hid hZ
        have hst : stB ((a : Int) - 1) b 2 = true := stB_mk (by omega) (by omega) b0 b9 (by omega) (by omega) (by omega)
        have HST := Lib.hid (mcV_yes KG.out hst)
        have HE3 : Hid (E = 0 ∨ E = 3) := by
          have h := HST.out
          rw [HZ.out] at h
          refine Lib.hid ?_
          cases hv : M.ch ((a : Int) - 1).toNat (b : Int).toNat 2 with
          | none => rw [hv] at h; injection h with _ h; injection h with _ h; exact .inr h
          | some c' => rw [hv] at h; injection h with _ h; injection h with _ h; exact .inl h
        clear hZ hst
        go_wp2_with fail
        refine (impl_MatchChance_any M ((a : Int) - 1) b 2 _ (A4.out.more (by simp; omega)) HSZ.out).mono ?_
        rw [HZ.out]
        rintro e w5 ⟨rfl, hb⟩
        have z5 := hb.size
        simp only [World.size_alloc] at z5
        have B5 := Lib.hid ((B4.out.trans (hb.mono B4.out.size)).alloc (by omega) (.cells #[.int .i64 Z, .int .i64 W] 30))
        have P5 := Lib.hid ((rowIs_below P4.out hb P4.out.lt).alloc (.cells #[.int .i64 Z, .int .i64 W] 30))
        have S5 := Lib.hid (two_new w5 Z W 30)
        obtain ⟨g0, g1, _, _⟩ := two_cells P5.out
        obtain ⟨f0, f1, _, _⟩ := two_cells S5.out
        clear hb m0 m1 m2 c0 c1 d0 d1
        by_cases hE : E = 0
        · subst hE
          have K := mc_ok (M := M) (a := (a : Int) - 1) (b := b) (ph := 2) (by rw [HZ.out])
          obtain ⟨_, _, d, kd, kz, kw⟩ := K
          rw [HZ.out] at kz kw
          replace kz : Z = sN d := kz
          replace kw : W = sD d := kw
          have kd' : M.ch (a - 1) b 2 = some d := by
            have e : ((a : Int) - 1).toNat = a - 1 := by omega
            rw [e] at kd; exact kd
          have kc' : M.ch ((a - 1) + 1) b 2 = some c := by
            have e : a - 1 + 1 = a := by omega
            rw [e]; exact KC.out
          have hmono := ch_mono hM ((a - 1) + b) (a - 1) b (Nat.le_refl _) c d kc' kd'
          obtain ⟨dd0, dd1⟩ := Mm.ch_bd hM kd'
          have hcmp := s_cmp cc0 cc1 dd0 dd1 hmono
          have s1 := (s_facts cc0 cc1).1
          have s2 := (s_facts dd0 dd1).1
          rw [← KX.out, ← KY.out, ← kz, ← kw] at hcmp
          rw [← KX.out, ← KY.out] at s1
          rw [← kz, ← kw] at s2
          obtain ⟨T, hT⟩ : ∃ T, cmpS Z W X V = T := ⟨_, rfl⟩
          have hT0 : 0 ≤ T := by
            rw [← hT]
            rcases Int.lt_or_eq_of_le hcmp with h | h
            · rw [cmpS_gt h]; decide
            · rw [cmpS_eq h.symm]; decide
          have CS := Lib.hid (fun WW => CompareShares_yes Z W X V WW s2 s1)
          rw [hT] at CS
          clear hcmp s1 s2 kz kw kd kd' kc' hmono hT
          go_wp2_with fail
          refine (CS.out _).mono ?_
          rintro e w6 ⟨rfl, hb⟩
          have BF := Lib.hid (B5.out.trans (hb.mono B5.out.size))
          clear hb
          go_wp2_with fail
          go_ret
          exact ⟨rfl, BF.out⟩
        · obtain rfl : E = 3 := HE3.out.resolve_left hE
          go_wp2_with fail
          go_ret
          exact ⟨rfl, B5.out⟩
      · have ep : (p != 2) = true := by simpa using hp2
        go_wp2_with fail
        go_ret
        exact ⟨rfl, B4.out⟩
    · have hD0 : (D != 0) = true := by simpa using hD
      obtain ⟨rfl, rfl, rfl, rfl⟩ := Q3.out hD
      clear hD
      go_wp2_with fail
      go_ret
      exact ⟨rfl, B4.out⟩
namespace fnMatchSum
set_option linter.unusedVariables false
set_option maxRecDepth 100000 in
theorem lifted (os : Os) (started : os.Started) (H : Type) (enc : TypeId × Value → H) :
    ReturnsInHanded {} Try.checked os 7 .any (Rows.fnMatchSumSpec.pre6 enc Try.prog Try.f7 Rows.fnMatchSumRow.domain false) (Rows.fnMatchSumSpec.post enc Try.prog Try.f7 false true false false) := by
  refine returnsInHanded_of_change (C := Try.checked) own started (by kernel_rfl) Try.func7
    (ChangeSpec.witness6 (enc := enc) (C := Try.checked) false ⟨#[], #[.slice none 0 0], []⟩ 8 (by kernel_rfl) (by kernel_rfl) (by kernel_rfl) (by kernel_rfl)) ?_
  intro W base args ds gs before hval0 hW hcnd _
  have hval : ∀ (j : Nat) t v, Try.f7.params[j]? = some t → args[j]? = some v → Value.okWide Try.prog W .any base t v := hval0
  have hW' := hW
  obtain ⟨p, q, hA0, hV, rfl, hfz, hnd⟩ := hW
  have hA : DataW.TrodAll enc Try.prog W 0 (fun _ => true) true Try.f7.params.toList args.toList ds p := hA0
  rw [Try.params7] at hA hval
  obtain ⟨v0, vs0, d0, ds0, p0, q0, hargs, rfl, rfl, h0, r0⟩ := trodAll_cons hA
  obtain ⟨rfl, rfl, rfl⟩ := trodAll_nil r0
  obtain rfl : args = #[v0] := by cases args; simp_all
  obtain ⟨rfl, rfl⟩ := trodVars_none hV
  obtain ⟨ax0, nx0, cx0, x0, rfl, wx0⟩ := open_ints_arg Try.underlying22 Try.underlying5 (by kernel_rfl) (hval 0 22 v0 rfl rfl) h0
  clear hA0 hval0
  refine (walk_FnMatchSum W ax0 nx0 cx0 x0 wx0).mono fun e W' ⟨he, bel⟩ => ?_
  subst he
  exact ⟨_, rfl, _, _, _, [], _, [], hW', trodAll_mk1 (shut_bool Try.underlying4 _), (trodAll_cons_mk (Below.trod laidOut (by kernel_rfl) (of_decide_eq_true (by kernel_rfl)) h0 bel (lt_of_trod h0)) trodAll_mk0), rfl, bel.frame _, fun h => by cases h⟩

theorem over : Rows.fnMatchSumRow.holds Try.pinned (OpenSpec.ofChange Rows.fnMatchSumSpec) :=
  OpenClaim.holds_of_wide 7 Try.f7 rfl rfl rfl rfl rfl rfl rfl ⟨rfl, rfl, rfl, rfl, rfl⟩ rfl rfl rfl rfl rfl (by kernel_rfl) Try.func7 (by kernel_rfl)
    (of_decide_eq_true (by kernel_rfl)) (by unfold Func.isWrapper; first | (rw [if_pos (by decide +kernel)]; kernel_rfl) | (rw [if_neg (by decide +kernel)]; exact ⟨rfl, rfl⟩))
    (fun os started H enc _ => lifted os started H enc)
theorem proved : Rows.FnMatchSumSaid := over
#print axioms proved
end fnMatchSum
end Go.Proofs.Ytkioliioakmepaa
