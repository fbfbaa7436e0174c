/-
  FnMatchRecursion returns true for every code: a match chance is the mean of those after all numbers of points that can be won or lost. No condition.
-/
import Derived.Test.YtkioliioakmepaaMchH
import Derived.Test.YtkioliioakmepaaMchY
import Derived.Deep.Cut
import Derived.Deep.CutRange
import Derived.Deep.DeepCutAuto
import Derived.Deep.CutBlock
namespace Go.Proofs.Ytkioliioakmepaa
open Go.ChangeShapes Go.WideShapes Go.ChangeAt Go.RowKit
set_option linter.unusedVariables false

theorem spec_MatchPhase_ok (a b : Nat) (ph q : Int) (hs : stB a b ph = true) (hq : gp a b ph = q) (w : World) : Calls Try.prog 30 #[.int .i64 a, .int .i64 b, .int .i64 ph] w fun e w' => e = .returned (.int .i64 q) ∧ w = w' := by
  have HS := Lib.hid hs
  have HQ := Lib.hid hq
  clear hs hq
  go_enter Try.func30, Try.ntmps30
  go_wp2_with fail
  refine (l18State_k _ _ _ true HS.out _).mono ?_
  rintro e w1 ⟨rfl, rfl⟩
  go_wp2_with fail
  refine (l18Phase_k a b ph q HQ.out _).mono ?_
  rintro e w1 ⟨rfl, rfl⟩
  go_wp2_with fail
  go_ret
  exact ⟨rfl, rfl⟩
theorem tup3 (v : Int × Int × Int) : ∃ x y c, v = (x, y, c) := ⟨v.1, v.2.1, v.2.2, rfl⟩
set_option maxRecDepth 16000 in
set_option maxHeartbeats 6400000 in
theorem walk_FnMatchRecursion (w : World) (ax0 : Option Addr) (nx0 cx0 : Nat) (x0 : List Int) (wx0 : IntsArg w .u8 ax0 nx0 x0) :
    Calls Try.prog 5 #[.slice ax0 nx0 cx0] w fun e w' => e = .returned (.bool true) ∧ Below w.heap.size w w' := by
  by_cases hbig : 4096 < (nx0 : Int)
  · have hd : decide (4096 < (nx0 : Int)) = true := decide_eq_true hbig
    go_enter Try.func5, Try.ntmps5
    go_wp2_with fail
    refine (big_any _ _ _ _).mono ?_
    rw [hd]
    rintro e w1 ⟨rfl, rfl⟩
    go_wp2_with fail
    go_ret
    exact ⟨rfl, Below.refl _ _⟩
  · have hd : decide (4096 < (nx0 : Int)) = false := decide_eq_false hbig
    have DR := Lib.hid (DrawMatchChance_any ax0 nx0 cx0 x0 w wx0 (by omega))
    clear wx0 hbig
    go_enter Try.func5, Try.ntmps5
    go_wp2_with fail
    refine (big_any _ _ _ _).mono ?_
    rw [hd]
    rintro e w1 ⟨rfl, rfl⟩
    go_wp2_with fail
    refine DR.out.mono ?_
    rintro e w1 ⟨M, x, y, p, rfl, hs, hA, x1, x2, y1, y2, p1, p2, hb⟩
    obtain ⟨X, Y, D, hV⟩ := tup3 (mcV M x y p)
    have HV := Lib.hid hV
    have HSZ := Lib.hid hs
    have HA := Lib.hid hA
    have z1 := hb.size
    have B1 := Lib.hid (hb.alloc z1 (.cells #[.slice M.a M.n M.c, .slice M.b M.m M.d, .slice M.e M.p M.f] 26))
    have A1 := Lib.hid (hA.keep ((Below.refl w1.heap.size w1).alloc (Nat.le_refl _) (.cells #[.slice M.a M.n M.c, .slice M.b M.m M.d, .slice M.e M.p M.f] 26)))
    have R1 := Lib.hid (three_new w1 (.slice M.a M.n M.c) (.slice M.b M.m M.d) (.slice M.e M.p M.f) 26)
    clear hb hV hs hA
    go_wp2_with fail
    refine (impl_MatchChance_any M x y p _ (A1.out.more (by simp)) HSZ.out).mono ?_
    rw [HV.out]
    rintro e w2 ⟨rfl, hb⟩
    have z2 := hb.size
    simp only [World.size_alloc] at z2
    have B2 := Lib.hid ((B1.out.trans (hb.mono B1.out.size)).alloc (by omega) (.cells #[.int .i64 X, .int .i64 Y] 30))
    have A2 := Lib.hid ((A1.out.keep (hb.mono (by simp))).keep ((Below.refl w1.heap.size w2).alloc (by omega) (.cells #[.int .i64 X, .int .i64 Y] 30)))
    have R2 := Lib.hid ((rowIs_below R1.out hb R1.out.lt).alloc (.cells #[.int .i64 X, .int .i64 Y] 30))
    have P2 := Lib.hid (two_new w2 X Y 30)
    obtain ⟨m0, m1, m2⟩ := three_cells R2.out
    clear hb
    go_wp2_with fail
    refine (spec_MatchChance_any M x y p _ (A2.out.more (by simp; omega)) HSZ.out).mono ?_
    rw [HV.out]
    rintro e w4 ⟨rfl, hb⟩
    have z4 := hb.size
    simp only [World.size_alloc] at z4
    have B4 := Lib.hid ((B2.out.trans (hb.mono B2.out.size)).alloc (by omega) (.cells #[.int .i64 X, .int .i64 Y] 30))
    have A4 := Lib.hid ((A2.out.keep (hb.mono (by simp; omega))).keep ((Below.refl w1.heap.size w4).alloc (by omega) (.cells #[.int .i64 X, .int .i64 Y] 30)))
    have R4 := Lib.hid ((rowIs_below R2.out hb R2.out.lt).alloc (.cells #[.int .i64 X, .int .i64 Y] 30))
    have P4 := Lib.hid ((rowIs_below P2.out hb P2.out.lt).alloc (.cells #[.int .i64 X, .int .i64 Y] 30))
    clear hb m0 m1 m2
    obtain ⟨m0, m1, m2⟩ := three_cells R4.out
    obtain ⟨c0, c1, _, _⟩ := two_cells P4.out
    have hcc : (D != D) = false := by simp
    by_cases hD : D = 0
    · subst hD
      have K := mc_ok (M := M) (a := x) (b := y) (ph := p) (by rw [HV.out])
      obtain ⟨kg, ks, c, kc, kx, ky⟩ := K
      rw [HV.out] at kx ky
      replace kx : X = sN c := kx
      replace ky : Y = sD c := ky
      obtain ⟨⟨a0, a9⟩, ⟨b0, b9⟩, ab, p0, p2'⟩ := stB_out ks
      obtain ⟨a, rfl⟩ := Int.eq_ofNat_of_zero_le a0
      obtain ⟨b, rfl⟩ := Int.eq_ofNat_of_zero_le b0
      replace kc : M.ch a b p = some c := kc
      rcases Nat.eq_zero_or_pos a with rfl | ha
      · have hc : c = SC := by
          have e : M.ch 0 b p = some SC := chV_a0
          rw [e] at kc; injection kc with kc; exact kc.symm
        obtain rfl : X = 1 := by rw [kx, hc]; exact s_one.1
        obtain rfl : Y = 1 := by rw [ky, hc]; exact s_one.2
        clear kx ky kc hc ks
        go_wp2_with fail
        go_ret
        exact ⟨rfl, B4.out⟩
      have ea : ((a : Int) == 0) = false := by simp; omega
      rcases Nat.eq_zero_or_pos b with rfl | hb
      · have hc : c = 0 := by
          have e : M.ch a 0 p = some 0 := chV_b0 ha
          rw [e] at kc; injection kc with kc; exact kc.symm
        obtain rfl : X = 0 := by rw [kx, hc]; exact s_zero.1
        obtain rfl : Y = 1 := by rw [ky, hc]; exact s_zero.2
        clear kx ky kc hc ks
        go_wp2_with fail
        go_ret
        exact ⟨rfl, B4.out⟩
      have eb : ((b : Int) == 0) = false := by simp; omega
      have KS := Lib.hid ks
      have KG := Lib.hid kg
      have KC := Lib.hid kc
      obtain ⟨q, hq⟩ : ∃ q, gp a b p = q := ⟨_, rfl⟩
      obtain ⟨r, hr⟩ : ∃ r, nx q = r := ⟨_, rfl⟩
      have q01 := (gp_bd (a := a) (b := b) p0 p2').1
      rw [hq] at q01
      have HQ := Lib.hid hq
      have HR := Lib.hid hr
      have hM := Mm.good_ok kg HA.out
      obtain ⟨T4, hT4, hprod, T40, T41, S1, S2⟩ := Mm.ch_sum hM ha hb hq kc
      have HT4 := Lib.hid hT4
      obtain ⟨cc0, cc1⟩ := Mm.ch_bd hM kc
      obtain ⟨A, C, hsl, hsi⟩ := Mm.sl_ints hM A4.out q
      obtain ⟨L, hL⟩ : ∃ L, M.wt q = L := ⟨_, rfl⟩
      rw [hL] at hsi hprod S1 S2
      obtain ⟨S, hS⟩ : ∃ S, psum L 4 = S := ⟨_, rfl⟩
      rw [hS] at hprod S1 S2
      have HPR := Lib.hid hprod
      have HPS := Lib.hid hS
      have wok := Mm.wt_ok hM q
      rw [hL] at wok
      have HL := Lib.hid hL
      have HSL := Lib.hid hsl
      have HSI := Lib.hid hsi
      obtain ⟨bb, off, hAA, hbb, _⟩ := hsi.2 (by omega)
      subst hAA
      have W5 : Hid (∀ W, Calls Try.prog 32 #[shV X Y] W fun e w' => e = .returned (.tuple #[.int .i64 c, .bool true]) ∧ Below W.heap.size W w') := by
        have sf := s_facts cc0 cc1
        rw [← kx, ← ky] at sf
        obtain ⟨f1, _, _, _, _, f2, f3⟩ := sf
        exact Lib.hid (fun W => w5_any X Y c W f1 f2 f3 cc0 cc1)
      have WX : ∀ j, j < 4 → 0 ≤ L.getD j 0 ∧ L.getD j 0 ≤ 16 := by
        intro j hj
        obtain ⟨_, y0, y1, y2, y3, _⟩ := wok
        match j, hj with
        | 0, _ => exact y0
        | 1, _ => exact y1
        | 2, _ => exact y2
        | 3, _ => exact y3
      have HWX := Lib.hid WX
      clear ks kg kc kx ky hq hr hT4 hprod hL hsl hsi hS wok WX
      go_upto_block 0 with ((go_at_call 30; refine (spec_MatchPhase_ok a b p q KS.out HQ.out _).mono ?_; rintro e w5 ⟨rfl, rfl⟩))
      go_cut [11] (fun l wx => l = .slice (some ⟨bb, off, none⟩) 4 C ∧ Hid (Below w.heap.size w wx) ∧ Hid (M.at wx w1.heap.size) ∧ Hid (wx.rowIs w1.heap.size 26 3 (three (.slice M.a M.n M.c) (.slice M.b M.m M.d) (.slice M.e M.p M.f))) ∧ Hid (wx.rowIs w2.heap.size 30 2 (two X Y)) ∧ Hid (Ints wx w1.heap.size .i64 (some ⟨bb, off, none⟩) 4 L) ∧ w4.heap.size ≤ wx.heap.size)
      case first =>
        have hsl := HSL.out
        by_cases k1 : q = 1
        · subst k1
          have e : M.sl 1 = .slice M.b M.m M.d := rfl
          rw [e] at hsl
          have HF := Lib.hid hsl
          clear hsl e
          go_wp2_with fail
          go_meet
          exact ⟨HF.out, B4, A4, R4, P4, HSI, by simp⟩
        · have e1 : (q == 1) = false := by simpa using k1
          by_cases k2 : q = 2
          · subst k2
            have e : M.sl 2 = .slice M.e M.p M.f := rfl
            rw [e] at hsl
            have HF := Lib.hid hsl
            clear hsl e
            go_wp2_with fail
            go_meet
            exact ⟨HF.out, B4, A4, R4, P4, HSI, by simp⟩
          · have e2 : (q == 2) = false := by simpa using k2
            have e : M.sl q = .slice M.a M.n M.c := by rw [Mm.sl, if_neg k1, if_neg k2]
            rw [e] at hsl
            have HF := Lib.hid hsl
            clear hsl e
            go_wp2_with fail
            go_meet
            exact ⟨HF.out, B4, A4, R4, P4, HSI, by simp⟩
      case rest =>
        obtain ⟨rfl, hB, hA5, hR, hP, hI, hz5⟩ := hcut
        go_wp2_with fail
        go_loopw [12, 13, 14] (fun s u i wx => ∃ (j : Nat) (T P : Int), j ≤ 4 ∧ s = .int .i64 T ∧ u = .int .i64 P ∧ i = .int .i64 j ∧ 0 ≤ T ∧ T ≤ 72057594037927936 ∧ 0 ≤ P ∧ P ≤ 32 * j ∧ Hid (P = 2 * psum L j) ∧ Hid (M.acc a b q j = some T) ∧ Hid (Below w.heap.size w wx) ∧ Hid (M.at wx w1.heap.size) ∧ Hid (wx.rowIs w1.heap.size 26 3 (three (.slice M.a M.n M.c) (.slice M.b M.m M.d) (.slice M.e M.p M.f))) ∧ Hid (wx.rowIs w2.heap.size 30 2 (two X Y)) ∧ Hid (Ints wx w1.heap.size .i64 (some ⟨bb, off, none⟩) 4 L) ∧ w4.heap.size ≤ wx.heap.size) (fun _ _ i _ => 4 - (intOf i).toNat)
        case atStart => exact ⟨0, 0, 0, by omega, rfl, rfl, rfl, by omega, by omega, by omega, by omega, rfl, rfl, hB, hA5, hR, hP, hI, hz5⟩
        case round =>
          clear hB hA5 hR hP hI hz5
          obtain ⟨j, T, P, hj, rfl, rfl, rfl, t0, t1, q0, q1, hps, hacc, hB, hA5, hR, hP, hI, hz5⟩ := hrel
          by_cases hj4 : j < 4
          · have hcx := Ints.hid hI.out j hj4
            obtain ⟨x, hx⟩ : ∃ x, L.getD j 0 = x := ⟨_, rfl⟩
            rw [hx] at hcx
            have x01 := HWX.out j hj4
            rw [hx] at x01
            obtain ⟨x0, x1⟩ := x01
            have HX := Lib.hid (show (M.wt q).getD j 0 = x by rw [HL.out]; exact hx)
            have HXL := Lib.hid hx
            clear hx
            by_cases hx0 : x = 0
            · have HN := Lib.hid (show M.acc a b q (j + 1) = some T by
                show stp ((M.wt q).getD j 0) _ _ _ = _
                rw [HX.out, hx0, stp_zero]; exact hacc.out)
              have HP2 := Lib.hid (show P = 2 * psum L (j + 1) by rw [psum_succ, HXL.out, hx0, Int.add_zero]; exact hps.out)
              subst hx0
              go_wp2_with fail
              go_roundw
              case rel => exact ⟨j + 1, T, P, by omega, rfl, rfl, by go_num, t0, t1, q0, by omega, HP2, HN, hB, hA5, hR, hP, hI, hz5⟩
              case measure => simp [intOf]; omega
            · have ex : (x == 0) = false := by simpa using hx0
              obtain ⟨k1, k2, hk1, hk2, hk3⟩ := Mm.acc_out HT4.out hj4 hacc.out HR.out HX.out hx0
              obtain ⟨b10, b11⟩ := Mm.ch_bd hM hk1
              obtain ⟨b20, b21⟩ := Mm.ch_bd hM hk2
              have SC1 : SC = 562949953421312 := rfl
              have sf1 := s_facts b10 b11
              have sf2 := s_facts b20 b21
              obtain ⟨m0', m1'⟩ := mul_bd x0 x1 (c := k1 + k2) (by omega) (by omega)
              have hT2 : T + x * (k1 + k2) ≤ 72057594037927936 := by
                have tb := (Mm.acc_bd hM (j + 1) (by omega) _ hk3).2
                refine Int.le_trans tb ?_
                have : (32 * ((j + 1 : Nat) : Int)) * SC ≤ 128 * SC := Int.mul_le_mul_of_nonneg_right (by omega) (by decide)
                rw [SC1] at this; rw [SC1]; omega
              have hT0 : 0 ≤ T + x * (k1 + k2) := by omega
              have HK3 := Lib.hid hk3
              have HP2 := Lib.hid (show P + 2 * x = 2 * psum L (j + 1) by rw [psum_succ, HXL.out, hps.out]; omega)
              have AV1 : apV M a b p ((j : Int) + 1) = (sN k1, sD k1, 0) := apV_at KG.out KS.out ha hb (by omega) (by omega) (by omega) HQ.out HR.out (by
                rw [if_pos (by omega)]
                have e : ((j : Int) + 1).toNat = j + 1 := by omega
                rw [e]; exact hk1)
              have AV2 : apV M a b p (-(j : Int) - 1) = (sN k2, sD k2, 0) := apV_at KG.out KS.out ha hb (by omega) (by omega) (by omega) HQ.out HR.out (by
                rw [if_neg (by omega)]
                have e : (-(-(j : Int) - 1)).toNat = j + 1 := by omega
                rw [e]; exact hk2)
              obtain ⟨s1, hs1⟩ : ∃ s, sN k1 = s := ⟨_, rfl⟩
              obtain ⟨d1, hd1⟩ : ∃ d, sD k1 = d := ⟨_, rfl⟩
              obtain ⟨s2, hs2⟩ : ∃ s, sN k2 = s := ⟨_, rfl⟩
              obtain ⟨d2, hd2⟩ : ∃ d, sD k2 = d := ⟨_, rfl⟩
              rw [hs1, hd1] at sf1 AV1
              rw [hs2, hd2] at sf2 AV2
              have V1 : Hid (∀ W, Calls Try.prog 32 #[shV s1 d1] W fun e w' => e = .returned (.tuple #[.int .i64 k1, .bool true]) ∧ Below W.heap.size W w') := by
                obtain ⟨f1, _, _, _, _, f2, f3⟩ := sf1
                exact Lib.hid (fun W => w5_any s1 d1 k1 W f1 f2 f3 b10 b11)
              have V2 : Hid (∀ W, Calls Try.prog 32 #[shV s2 d2] W fun e w' => e = .returned (.tuple #[.int .i64 k2, .bool true]) ∧ Below W.heap.size W w') := by
                obtain ⟨f1, _, _, _, _, f2, f3⟩ := sf2
                exact Lib.hid (fun W => w5_any s2 d2 k2 W f1 f2 f3 b20 b21)
              have HV1 := Lib.hid AV1
              have HV2 := Lib.hid AV2
              rw [SC1] at b11 b21
              obtain ⟨m0, m1, m2⟩ := three_cells hR.out
              have zz : w1.heap.size < wr.heap.size := hR.out.lt
              clear hk1 hk2 hk3 sf1 sf2 hs1 hd1 hs2 hd2 AV1 AV2 SC1 hx0
              go_wp2_with fail
              refine (impl_AfterPoints_any M a b p ((j : Int) + 1) _ (hA5.out.more (by omega)) HSZ.out).mono ?_
              rw [HV1.out]
              rintro e w6 ⟨rfl, hb⟩
              have z6 := hb.size
              have B6 := Lib.hid ((hB.out.trans (hb.mono hB.out.size)).alloc (by have := hB.out.size; omega) (.cells #[.int .i64 s1, .int .i64 d1] 30))
              have A6 := Lib.hid ((hA5.out.keep (hb.mono (by omega))).keep ((Below.refl w1.heap.size w6).alloc (by omega) (.cells #[.int .i64 s1, .int .i64 d1] 30)))
              have I6 := Lib.hid ((hI.out.below (hb.mono (by omega))).below ((Below.refl w1.heap.size w6).alloc (by omega) (.cells #[.int .i64 s1, .int .i64 d1] 30)))
              have R6 := Lib.hid ((rowIs_below hR.out hb hR.out.lt).alloc (.cells #[.int .i64 s1, .int .i64 d1] 30))
              have P6 := Lib.hid ((rowIs_below hP.out hb hP.out.lt).alloc (.cells #[.int .i64 s1, .int .i64 d1] 30))
              have S6 := Lib.hid (two_new w6 s1 d1 30)
              clear hb m0 m1 m2 hcx
              obtain ⟨m0, m1, m2⟩ := three_cells R6.out
              go_wp2_with fail
              refine (impl_AfterPoints_any M a b p (-(j : Int) - 1) _ (A6.out.more (by simp; omega)) HSZ.out).mono ?_
              rw [HV2.out]
              rintro e w7 ⟨rfl, hb⟩
              have z7 := hb.size
              simp only [World.size_alloc] at z7
              have B7 := Lib.hid ((B6.out.trans (hb.mono B6.out.size)).alloc (by have := hB.out.size; omega) (.cells #[.int .i64 s2, .int .i64 d2] 30))
              have A7 := Lib.hid ((A6.out.keep (hb.mono (by simp; omega))).keep ((Below.refl w1.heap.size w7).alloc (by omega) (.cells #[.int .i64 s2, .int .i64 d2] 30)))
              have I7 := Lib.hid ((I6.out.below (hb.mono (by simp; omega))).below ((Below.refl w1.heap.size w7).alloc (by omega) (.cells #[.int .i64 s2, .int .i64 d2] 30)))
              have R7 := Lib.hid ((rowIs_below R6.out hb R6.out.lt).alloc (.cells #[.int .i64 s2, .int .i64 d2] 30))
              have P7 := Lib.hid ((rowIs_below P6.out hb P6.out.lt).alloc (.cells #[.int .i64 s2, .int .i64 d2] 30))
              have S7 := Lib.hid ((rowIs_below S6.out hb S6.out.lt).alloc (.cells #[.int .i64 s2, .int .i64 d2] 30))
              have U7 := Lib.hid (two_new w7 s2 d2 30)
              clear hb m0 m1 m2
              obtain ⟨g0, g1, _, _⟩ := two_cells S7.out
              go_wp2_with fail
              refine (V1.out _).mono ?_
              rintro e w8 ⟨rfl, hb⟩
              have z8 := hb.size
              simp only [World.size_alloc] at z8
              have B8 := Lib.hid (B7.out.trans (hb.mono B7.out.size))
              have A8 := Lib.hid (A7.out.keep (hb.mono (by simp; omega)))
              have I8 := Lib.hid (I7.out.below (hb.mono (by simp; omega)))
              have R8 := Lib.hid (rowIs_below R7.out hb R7.out.lt)
              have P8 := Lib.hid (rowIs_below P7.out hb P7.out.lt)
              have U8 := Lib.hid (rowIs_below U7.out hb U7.out.lt)
              clear hb g0 g1
              obtain ⟨g0, g1, _, _⟩ := two_cells U8.out
              go_wp2_with fail
              refine (V2.out _).mono ?_
              rintro e w9 ⟨rfl, hb⟩
              have z9 := hb.size
              have B9 := Lib.hid (B8.out.trans (hb.mono B8.out.size))
              have A9 := Lib.hid (A8.out.keep (hb.mono (by omega)))
              have I9 := Lib.hid (I8.out.below (hb.mono (by omega)))
              have R9 := Lib.hid (rowIs_below R8.out hb R8.out.lt)
              have P9 := Lib.hid (rowIs_below P8.out hb P8.out.lt)
              clear hb g0 g1
              have hcx := Ints.hid I9.out j hj4
              rw [HXL.out] at hcx
              go_wp2_with fail
              go_roundw
              case rel => exact ⟨j + 1, T + x * (k1 + k2), P + 2 * x, by omega, rfl, rfl, by go_num, hT0, hT2, by omega, by omega, HP2, HK3, B9, A9, R9, P9, I9, by omega⟩
              case measure => simp [intOf]; omega
          · obtain rfl : j = 4 := by omega
            have eT : T = T4 := by
              have h := hacc.out
              rw [HT4.out] at h; injection h with h; exact h.symm
            have eP : P = 2 * S := by rw [hps.out, HPS.out]
            subst eT eP
            have wprod : IntKind.i64.wrap (c * (2 * S)) = T := by rw [HPR.out]; exact IntWalk.i64_in _ (by omega)
            have wprod2 : c * (2 * S) = T := HPR.out
            obtain ⟨g0, g1, _, _⟩ := two_cells hP.out
            go_wp2_with fail
            refine (W5.out _).mono ?_
            rintro e w6 ⟨rfl, hb⟩
            have BF := Lib.hid (hB.out.trans (hb.mono hB.out.size))
            clear hb
            go_wp2_with fail
            go_ret
            exact ⟨ret_bool (by simp), BF.out⟩
    · have hD0 : (D != 0) = true := by simpa using hD
      clear hD
      go_wp2_with fail
      go_ret
      exact ⟨rfl, B4.out⟩
namespace fnMatchRecursion
set_option linter.unusedVariables false
set_option maxRecDepth 100000 in
theorem lifted (os : Os) (started : os.Started) (H : Type) (enc : TypeId × Value → H) :
    ReturnsInHanded {} Try.checked os 5 .any (Rows.fnMatchRecursionSpec.pre6 enc Try.prog Try.f5 Rows.fnMatchRecursionRow.domain false) (Rows.fnMatchRecursionSpec.post enc Try.prog Try.f5 false true false false) := by
  refine returnsInHanded_of_change (C := Try.checked) own started (by kernel_rfl) Try.func5
    (ChangeSpec.witness6 (enc := enc) (C := Try.checked) false ⟨#[], #[.slice none 0 0], []⟩ 8 (by kernel_rfl) (by kernel_rfl) (by kernel_rfl) (by kernel_rfl)) ?_
  intro W base args ds gs before hval0 hW hcnd _
  have hval : ∀ (j : Nat) t v, Try.f5.params[j]? = some t → args[j]? = some v → Value.okWide Try.prog W .any base t v := hval0
  have hW' := hW
  obtain ⟨p, q, hA0, hV, rfl, hfz, hnd⟩ := hW
  have hA : DataW.TrodAll enc Try.prog W 0 (fun _ => true) true Try.f5.params.toList args.toList ds p := hA0
  rw [Try.params5] at hA hval
  obtain ⟨v0, vs0, d0, ds0, p0, q0, hargs, rfl, rfl, h0, r0⟩ := trodAll_cons hA
  obtain ⟨rfl, rfl, rfl⟩ := trodAll_nil r0
  obtain rfl : args = #[v0] := by cases args; simp_all
  obtain ⟨rfl, rfl⟩ := trodVars_none hV
  obtain ⟨ax0, nx0, cx0, x0, rfl, wx0⟩ := open_ints_arg Try.underlying22 Try.underlying5 (by kernel_rfl) (hval 0 22 v0 rfl rfl) h0
  clear hA0 hval0
  refine (walk_FnMatchRecursion W ax0 nx0 cx0 x0 wx0).mono fun e W' ⟨he, bel⟩ => ?_
  subst he
  exact ⟨_, rfl, _, _, _, [], _, [], hW', trodAll_mk1 (shut_bool Try.underlying4 _), (trodAll_cons_mk (Below.trod laidOut (by kernel_rfl) (of_decide_eq_true (by kernel_rfl)) h0 bel (lt_of_trod h0)) trodAll_mk0), rfl, bel.frame _, fun h => by cases h⟩

theorem over : Rows.fnMatchRecursionRow.holds Try.pinned (OpenSpec.ofChange Rows.fnMatchRecursionSpec) :=
  OpenClaim.holds_of_wide 5 Try.f5 rfl rfl rfl rfl rfl rfl rfl ⟨rfl, rfl, rfl, rfl, rfl⟩ rfl rfl rfl rfl rfl (by kernel_rfl) Try.func5 (by kernel_rfl)
    (of_decide_eq_true (by kernel_rfl)) (by unfold Func.isWrapper; first | (rw [if_pos (by decide +kernel)]; kernel_rfl) | (rw [if_neg (by decide +kernel)]; exact ⟨rfl, rfl⟩))
    (fun os started H enc _ => lifted os started H enc)
theorem proved : Rows.FnMatchRecursionSaid := over
#print axioms proved
end fnMatchRecursion
end Go.Proofs.Ytkioliioakmepaa
