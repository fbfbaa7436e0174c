/-
  The walk of l18Chance: what it returns is the chance, or it fails where some chance has no share.
-/
import Derived.Test.YtkioliioakmepaaMchC
import Derived.Test.YtkioliioakmepaaRec
import Derived.Deep.QuietTactic
import Derived.BigQuiet
import Derived.IntWalk
import Derived.Lib.MinMax
namespace Go.Proofs.Ytkioliioakmepaa
open Go.ChangeShapes Go.WideShapes Go.ChangeAt Go.RowKit
set_option linter.unusedVariables false

theorem chance_int {M : Mm} {lo hi g k v : Nat} {fb : Bool} {X Y r : Int} {W : World} (hX : 0 ≤ X) (hY : 0 ≤ Y) (h : Calls Try.prog 67 #[.pointer (some ⟨g, 0, none⟩), .int .i64 (X.toNat : Int), .int .i64 (Y.toNat : Int), .int .i64 r] W fun e w' => TbPost M lo hi g k v fb X.toNat Y.toNat r W e w') :
    Calls Try.prog 67 #[.pointer (some ⟨g, 0, none⟩), .int .i64 X, .int .i64 Y, .int .i64 r] W fun e w' => TbPost M lo hi g k v fb X.toNat Y.toNat r W e w' := by
  rw [Int.toNat_of_nonneg hX, Int.toNat_of_nonneg hY] at h
  exact h
/-- what l18Chance does for states with a + b ≤ n -/
def SpC (M : Mm) (lo hi g k v n : Nat) : Prop := ∀ (a b : Nat) (ph : Int) (fb : Bool) (w : World), a + b ≤ n → a ≤ 9 → b ≤ 9 → 0 ≤ ph → ph ≤ 2 → M.at w lo → Tb M g k v fb w → hi ≤ w.heap.size →
    Calls Try.prog 67 #[.pointer (some ⟨g, 0, none⟩), .int .i64 a, .int .i64 b, .int .i64 ph] w fun e w' => TbPost M lo hi g k v fb a b ph w e w'
theorem SpC.int {M : Mm} {lo hi g k v n : Nat} (h : SpC M lo hi g k v n) (X Y r : Int) (fb' : Bool) (W : World) (hX : 0 ≤ X) (hX9 : X ≤ 9) (hY : 0 ≤ Y) (hY9 : Y ≤ 9) (hr0 : 0 ≤ r) (hr2 : r ≤ 2) (hs : X.toNat + Y.toNat ≤ n) (hMW : M.at W lo) (hT : Tb M g k v fb' W) (hz : hi ≤ W.heap.size) :
    Calls Try.prog 67 #[.pointer (some ⟨g, 0, none⟩), .int .i64 X, .int .i64 Y, .int .i64 r] W fun e w' => TbPost M lo hi g k v fb' X.toNat Y.toNat r W e w' :=
  chance_int hX hY (h X.toNat Y.toNat r fb' W hs (by omega) (by omega) hr0 hr2 hMW hT hz)
set_option maxRecDepth 16000 in
set_option maxHeartbeats 4800000 in
theorem l18Chance_step (M : Mm) (hM : M.ok) (lo hi g k v : Nat) (hL : Lie lo hi g k v) (n : Nat) (ih : SpC M lo hi g k v n) : SpC M lo hi g k v (n + 1) := by
    have IH := Lib.hid ih.int
    clear ih
    intro a b ph fb w hn ha9 hb9 hp0 hp2 hMw hT hhi
    obtain ⟨L1, L2, L3, L4, L5, L6, L7, L8, L9⟩ := hL
    rcases Nat.eq_zero_or_pos a with rfl | ha
    · exact l18Chance_a0 M hM lo hi g k v ⟨L1, L2, L3, L4, L5, L6, L7, L8, L9⟩ b ph fb w hT
    rcases Nat.eq_zero_or_pos b with rfl | hb
    · exact l18Chance_b0 M hM lo hi g k v ⟨L1, L2, L3, L4, L5, L6, L7, L8, L9⟩ a ph fb w ha hT
    obtain ⟨kf, vf, r1, r2, r3, hinv⟩ := hT
    by_cases hkn : fb = true ∨ kf (ix a b (gp a b ph)) = true
    · exact l18Chance_old M hM lo hi g k v ⟨L1, L2, L3, L4, L5, L6, L7, L8, L9⟩ a b ph fb w ha hb ha9 hb9 hp0 hp2 kf vf r1 r2 r3 hinv hhi hkn
    obtain rfl : fb = false := by cases fb; rfl; exact absurd (.inl rfl) hkn
    have hB0 : kf (ix a b (gp a b ph)) = false := by cases h : kf (ix a b (gp a b ph)); rfl; exact absurd (.inr h) hkn
    clear hkn
    have ea : ((a : Int) == 0) = false := by simp; omega
    have eb : ((b : Int) == 0) = false := by simp; omega
    obtain ⟨q, hq⟩ : ∃ q, gp a b ph = q := ⟨_, rfl⟩
    have GP := Lib.hid (fun W => gamePhase_l18 a b ph q hq W)
    have q0 : 0 ≤ q ∧ q ≤ 2 := by rw [← hq]; unfold gp; split <;> omega
    obtain ⟨I, hI⟩ : ∃ I : Nat, ix a b q = I := ⟨_, rfl⟩
    have hI2 : (I : Int) = 100 * q + 10 * a + b := by rw [← hI]; unfold ix; omega
    have I0 : (0 : Int) ≤ (I : Int) := by omega
    have I1 : (I : Int) < 300 := by omega
    have w1 : IntKind.i64.wrap (100 * q) = 100 * q := IntWalk.i64_in _ (by omega)
    have w2 : IntKind.i64.wrap (10 * (a : Int)) = 10 * (a : Int) := IntWalk.i64_in _ (by omega)
    have w3 : IntKind.i64.wrap (100 * q + 10 * (a : Int)) = 100 * q + 10 * (a : Int) := IntWalk.i64_in _ (by omega)
    have w4 : IntKind.i64.wrap (100 * q + 10 * (a : Int) + (b : Int)) = (I : Int) := by rw [← hI2]; exact IntWalk.i64_in _ (by omega)
    have HQ := Lib.hid hq
    have HI := Lib.hid hI
    obtain ⟨q1, q2⟩ := q0
    rw [hq, hI] at hB0
    clear hq hI hI2
    have HINV := Lib.hid hinv
    have HMW := Lib.hid hMw
    have HR := Lib.hid (And.intro r1 (And.intro r2 r3))
    clear hinv hMw
    have o1 := r1.lt
    have o2 := r2.lt
    have o3 := r3.lt
    have Z1 := Lib.hid (r1.alloc (.cells #[.int .i64 0, .int .i64 0] 30))
    have Z2 := Lib.hid (r2.alloc (.cells #[.int .i64 0, .int .i64 0] 30))
    have Z3 := Lib.hid (r3.alloc (.cells #[.int .i64 0, .int .i64 0] 30))
    have t0 := Z1.out.cell (i := 0) (by omega)
    have t1 := Z1.out.cell (i := 1) (by omega)
    have t2 := Z1.out.cell (i := 2) (by omega)
    have t3 := Z1.out.cell (i := 3) (by omega)
    have t4 := Z1.out.cell (i := 4) (by omega)
    have t5 := Z1.out.cell (i := 5) (by omega)
    have k1 := Z2.out.cell (i := I) (by omega)
    rw [hB0] at k1
    simp only [tbC] at t0 t1 t2 t3 t4 t5
    clear hB0 r1 r2 r3
    have V0 := Z3.out.cell (i := I * 2) (by omega)
    have V1 := Z3.out.cell (i := I * 2 + 1) (by omega)
    go_enter Try.func67, Try.ntmps67
    go_wp2_with fail
    refine (GP.out _).mono ?_
    rintro e w1 ⟨rfl, rfl⟩
    go_wp2_with fail
    obtain ⟨A, C, hsl, hsi⟩ := Mm.sl_ints hM HMW.out q
    have HSL := Lib.hid hsl
    have wok := Mm.wt_ok hM q
    obtain ⟨L, hL⟩ : ∃ L, M.wt q = L := ⟨_, rfl⟩
    rw [hL] at hsi wok
    have HLQ := Lib.hid hL
    refine (l18Weights_any M q _).mono ?_
    rintro e w2 ⟨rfl, hb⟩
    rw [HSL.out]
    have HO := Lib.hid (((Out.refl lo hi w).after ((Below.refl w.heap.size w).alloc (Nat.le_refl _) (.cells #[.int .i64 0, .int .i64 0] 30))).after hb)
    have TB : Hid (Tb M g k v false w2) := ⟨kf, vf, rowIs_below Z1.out hb Z1.out.lt, rowIs_below Z2.out hb Z2.out.lt, rowIs_below Z3.out hb Z3.out.lt, fun _ => HINV.out (by first | trivial | rfl)⟩
    have RZ := Lib.hid (rowIs_below (two_new w 0 0 30) hb (two_new w 0 0 30).lt)
    have HSI := Lib.hid (hsi.out HO.out (Nat.le_refl _) (by omega))
    have zw := HO.out.size
    have zr := RZ.out.lt
    obtain ⟨bb, off, hA, hbb, _⟩ := hsi.2 (by omega)
    subst hA
    clear hsl hsi hL hb t0 t1 t2 t3 t4 t5 k1 V0 V1
    go_wp2_with fail
    refine (l18Next_any _ _).mono ?_
    rintro e w3 ⟨rfl, rfl⟩
    obtain ⟨r, hr⟩ : ∃ r, nx q = r := ⟨_, rfl⟩
    have r01 : 0 ≤ r ∧ r ≤ 2 := by rw [← hr]; unfold nx; split <;> omega
    rw [hr]
    have HRQ := Lib.hid hr
    obtain ⟨r0, r1⟩ := r01
    clear hr
    go_wp2_with fail
    go_loopw [12, 13] (fun s i wr => ∃ (j : Nat) (T : Int), j ≤ 4 ∧ s = .int .i64 T ∧ i = .int .i64 j ∧ 0 ≤ T ∧ T ≤ 72057594037927936 ∧ Hid (M.acc a b q j = some T) ∧ Hid (Tb M g k v false wr) ∧ Hid (Out lo hi w wr) ∧ Hid (wr.rowIs w.heap.size 30 2 (two 0 0)) ∧ Hid (Ints wr lo .i64 (some ⟨bb, off, none⟩) 4 L)) (fun _ i _ => 4 - (intOf i).toNat)
    case atStart => exact ⟨0, 0, by omega, rfl, rfl, by omega, by omega, rfl, TB, HO, RZ, HSI⟩
    case round =>
      obtain ⟨j, T, hj, rfl, rfl, T0, T1, hacc, tb, ho, rz, hsi⟩ := hrel
      by_cases hj4 : j < 4
      · have hcx := Ints.hid hsi.out j (by omega)
        obtain ⟨x, hx⟩ : ∃ x, L.getD j 0 = x := ⟨_, rfl⟩
        rw [hx] at hcx
        have x01 : 0 ≤ x ∧ x ≤ 16 := by
          rw [← hx]
          obtain ⟨_, y0, y1, y2, y3, _⟩ := wok
          match j, hj4 with
          | 0, _ => exact y0
          | 1, _ => exact y1
          | 2, _ => exact y2
          | 3, _ => exact y3
        obtain ⟨x0, x1⟩ := x01
        have HX := Lib.hid hx
        clear hx
        by_cases hx0 : x = 0
        · have HN := Lib.hid (show M.acc a b q (j + 1) = some T by
            show stp ((M.wt q).getD j 0) _ _ _ = _
            rw [HLQ.out, HX.out, hx0, stp_zero]; exact hacc.out)
          subst hx0
          go_wp2_with fail
          go_roundw
          case rel => exact ⟨j + 1, T, by omega, rfl, by go_num, by omega, by omega, HN, tb, ho, rz, hsi⟩
          case measure => simp [intOf]; omega
        · have ex : (x == 0) = false := by simpa using hx0
          have hzr := ho.out.size
          have hmr := Lib.hid (HMW.out.out ho.out (by omega))
          obtain ⟨X, hX⟩ : ∃ X, max 0 ((a : Int) - (j : Int) - 1) = X := ⟨_, rfl⟩
          obtain ⟨Y, hY⟩ : ∃ Y, max 0 ((b : Int) - (j : Int) - 1) = Y := ⟨_, rfl⟩
          obtain ⟨X0, X9, XN⟩ : 0 ≤ X ∧ X ≤ 9 ∧ X.toNat = a - (j + 1) := by omega
          obtain ⟨Y0, Y9, YN⟩ : 0 ≤ Y ∧ Y ≤ 9 ∧ Y.toNat = b - (j + 1) := by omega
          have sX : X.toNat + (b : Int).toNat ≤ n := by omega
          have sY : (a : Int).toNat + Y.toNat ≤ n := by omega
          have HXN := Lib.hid XN
          have HYN := Lib.hid YN
          clear XN YN
          go_wp2_with fail
          refine (IH.out X b r false wr X0 X9 (by omega) (by omega) r0 r1 sX hmr.out tb.out (by omega)).mono ?_
          rintro e w3 ⟨p1, d1, fb1, rfl, t1, oA, _, s1, n1⟩
          have OA := Lib.hid oA
          have T1 := Lib.hid (t1.alloc (.cells #[.int .i64 p1, .int .i64 d1] 30))
          have O1 := Lib.hid ((ho.out.trans oA).after ((Below.refl w3.heap.size w3).alloc (Nat.le_refl _) (.cells #[.int .i64 p1, .int .i64 d1] 30)))
          have z3 := oA.size
          have M1 := Lib.hid (HMW.out.out O1.out (by omega))
          have S1 := Lib.hid s1
          have N1 := Lib.hid n1
          have B1 := Lib.hid (two_new w3 p1 d1 30)
          clear t1 oA s1 n1
          go_wp2_with fail
          refine (IH.out a Y r fb1 _ (by omega) (by omega) Y0 Y9 r0 r1 sY M1.out T1.out (by rw [World.size_alloc]; omega)).mono ?_
          rintro e w4 ⟨p2, d2, fb2, rfl, t2, o2, f2, s2, n2⟩
          have z4 := o2.size
          simp only [World.size_alloc] at z4
          have B2 := Lib.hid (row_out B1.out o2 (by omega))
          have T2 := Lib.hid (t2.alloc (.cells #[.int .i64 p2, .int .i64 d2] 30))
          have O2 := Lib.hid ((O1.out.trans o2).after ((Below.refl w4.heap.size w4).alloc (Nat.le_refl _) (.cells #[.int .i64 p2, .int .i64 d2] 30)))
          have BX := Lib.hid (B2.out.alloc (.cells #[.int .i64 p2, .int .i64 d2] 30))
          have BY := Lib.hid (two_new w4 p2 d2 30)
          have BR := Lib.hid ((row_out ((row_out rz.out OA.out (by omega)).alloc (.cells #[.int .i64 p1, .int .i64 d1] 30)) o2 (by omega)).alloc (.cells #[.int .i64 p2, .int .i64 d2] 30))
          have MX := Lib.hid (HMW.out.out O2.out (by omega))
          have IX := Lib.hid (((hsi.out.out OA.out (Nat.le_refl _) (by omega)).below ((Below.refl lo w3).alloc (by omega) (.cells #[.int .i64 p1, .int .i64 d1] 30))).out o2 (Nat.le_refl _) (by simp; omega))
          have IY := Lib.hid (IX.out.below ((Below.refl lo w4).alloc (by omega) (.cells #[.int .i64 p2, .int .i64 d2] 30)))
          have F2 := Lib.hid f2
          have S2 := Lib.hid s2
          have N2 := Lib.hid n2
          clear t2 o2 f2 s2 n2
          obtain ⟨kf2, vf2, g1, g2, g3, _⟩ := T2.out
          have u0 := g1.cell (i := 0) (by omega)
          have u5 := g1.cell (i := 5) (by omega)
          obtain ⟨v0, v1, _, _⟩ := two_cells BX.out
          obtain ⟨y0, y1, _, _⟩ := two_cells BY.out
          obtain ⟨q0, q1, q2, q3⟩ := two_cells BR.out
          simp only [tbC] at u0 u5
          clear g1 g2 g3
          cases fb2
          · obtain rfl : fb1 = false := by cases fb1; rfl; exact absurd (F2.out rfl) (by decide)
            obtain ⟨c1, hc1, hp1, hd1⟩ := S1.out rfl
            obtain ⟨c2, hc2, hp2', hd2⟩ := S2.out rfl
            obtain ⟨c10, c11⟩ := Mm.ch_bd hM hc1
            obtain ⟨c20, c21⟩ := Mm.ch_bd hM hc2
            have SC1 : SC = 562949953421312 := rfl
            have sf1 := s_facts c10 c11
            have sf2 := s_facts c20 c21
            rw [← hp1, ← hd1] at sf1
            rw [← hp2', ← hd2] at sf2
            obtain ⟨_, p10, p11, d10, d11, _, pd1⟩ := sf1
            obtain ⟨_, p20, p21, d20, d21, _, pd2⟩ := sf2
            rw [SC1] at pd1 pd2 c11 c21 d11 d21
            obtain ⟨e1, he1⟩ : ∃ e1, 562949953421312 / d1 = e1 := ⟨_, rfl⟩
            obtain ⟨e2, he2⟩ : ∃ e2, 562949953421312 / d2 = e2 := ⟨_, rfl⟩
            rw [he1] at pd1
            rw [he2] at pd2
            have e10 : 0 ≤ e1 := by rw [← he1]; exact Int.ediv_nonneg (by omega) (by omega)
            have e11 : e1 ≤ 562949953421312 := by rw [← he1]; exact Int.ediv_le_self _ (by omega)
            have e20 : 0 ≤ e2 := by rw [← he2]; exact Int.ediv_nonneg (by omega) (by omega)
            have e21 : e2 ≤ 562949953421312 := by rw [← he2]; exact Int.ediv_le_self _ (by omega)
            obtain ⟨m0, m1⟩ := mmul_bd x0 x1 (c := c1 + c2) (by omega) (by omega)
            have hacc' := Mm.acc_some (M := M) (a := a) (b := b) (j := j) (x := x) HRQ.out (by rw [HLQ.out]; exact HX.out) hacc.out (by rw [← HXN.out]; exact hc1) (by rw [← HYN.out]; exact hc2)
            have tb1 := Mm.acc_bd hM (j + 1) (by omega) _ hacc'
            have HACC := Lib.hid hacc'
            have tb2 : T + x * (c1 + c2) ≤ 72057594037927936 := by
              refine Int.le_trans tb1.2 ?_
              have : (32 * ((j + 1 : Nat) : Int)) * SC ≤ 128 * SC := Int.mul_le_mul_of_nonneg_right (by omega) (by decide)
              rw [SC1] at this; rw [SC1]; omega
            have wq1 : IntKind.i64.wrap (Int.tdiv 562949953421312 d1) = e1 := by rw [Int.tdiv_eq_ediv_of_nonneg (by omega), he1]; exact IntWalk.i64_in _ (by omega)
            have wq2 : IntKind.i64.wrap (Int.tdiv 562949953421312 d2) = e2 := by rw [Int.tdiv_eq_ediv_of_nonneg (by omega), he2]; exact IntWalk.i64_in _ (by omega)
            have wm1 : IntKind.i64.wrap (p1 * e1) = c1 := by rw [pd1]; exact IntWalk.i64_in _ (by omega)
            have wm2 : IntKind.i64.wrap (p2 * e2) = c2 := by rw [pd2]; exact IntWalk.i64_in _ (by omega)
            have ws : IntKind.i64.wrap (c1 + c2) = c1 + c2 := IntWalk.i64_in _ (by omega)
            have wx : IntKind.i64.wrap (x * (c1 + c2)) = x * (c1 + c2) := IntWalk.i64_in _ (by omega)
            have wt : IntKind.i64.wrap (T + x * (c1 + c2)) = T + x * (c1 + c2) := IntWalk.i64_in _ (by omega)
            have dn1 : ¬ d1 = 0 := by omega
            have dn2 : ¬ d2 = 0 := by omega
            have hl := Ints.hid IY.out j hj4
            rw [HX.out] at hl
            have tpos : 0 ≤ T + x * (c1 + c2) := by omega
            clear hc1 hp1 hd1 hc2 hp2' hd2 he1 he2 pd1 pd2 SC1 hacc' tb1 hcx
            go_wp2_with fail
            go_region
            go_wp2_with fail
            go_roundw
            case rel => exact ⟨j + 1, T + x * (c1 + c2), by omega, rfl, by go_num, by omega, tb2, HACC, Lib.hid T2.out.drew, Lib.hid O2.out.drew, Lib.hid (rowIs_drewN BR.out 1), Lib.hid (ints_drew IY.out)⟩
            case measure => simp [intOf]; omega
          · have NONE := Lib.hid (Mm.ch_none (M := M) (a := a) (b := b) (ph := ph) (j := j) (x := x) ha hb HQ.out HRQ.out hj4 (by rw [HLQ.out]; exact HX.out) hx0 (by
              cases fb1
              · right; rw [← HYN.out]; exact N2.out (by first | trivial | rfl) (by first | trivial | rfl)
              · left; rw [← HXN.out]; exact N1.out (by first | trivial | rfl) (by first | trivial | rfl)))
            have TF := Lib.hid (((T2.out.set (b := w.heap.size) (by omega) (by omega) (by omega) 0 (.int .i64 0)).set (b := w.heap.size) (by omega) (by omega) (by omega) 1 (.int .i64 0)))
            have OF := Lib.hid ((O2.out.setNew (p := ⟨w.heap.size, 0, none⟩) (Nat.le_refl _) (.int .i64 0)).setNew (p := ⟨w.heap.size, 1, none⟩) (Nat.le_refl _) (.int .i64 0))
            obtain ⟨z0, z1, _, _⟩ := two_cells (two_set BR.out 0 0)
            clear hx0
            go_wp2_with fail
            refine bodyPost_ret (v := shV 0 0) (by simp [results, Try.results67, go_sem, z0, z1]) rfl ⟨0, 0, true, rfl, TF.out, OF.out, fun _ => rfl, (fun h => by cases h), fun _ _ => NONE.out⟩
      · obtain rfl : j = 4 := by omega
        obtain ⟨S, hS⟩ : ∃ S, sum4 L = S := ⟨_, rfl⟩
        have okS := wok.2.2.2.2.2
        rw [hS] at okS
        obtain ⟨S1, S2⟩ : 1 ≤ S ∧ S ≤ 16 := by unfold okM at okS; omega
        have WS : wkS 4 L = S := by rw [wkS, wkB_of wok]; exact hS
        obtain ⟨N, hN⟩ : ∃ N, loN T (2 * S * SC) = N := ⟨_, rfl⟩
        obtain ⟨D, hD⟩ : ∃ D, loD T (2 * S * SC) = D := ⟨_, rfl⟩
        obtain ⟨K, hK⟩ : ∃ K, loB T (2 * S * SC) = K := ⟨_, rfl⟩
        have CH : M.ch a b ph = mean (2 * S) (some T) := by
          rw [Mm.ch_acc ha hb, HQ.out, HLQ.out, hS, hacc.out]
        have CH1 : K = true → ∃ c, M.ch a b ph = some c ∧ N = sN c ∧ D = sD c := by
          intro hk
          rw [← hK, lo_okM okS T0] at hk
          have hk := of_decide_eq_true hk
          refine ⟨T / (2 * S), ?_, ?_, ?_⟩
          · rw [CH]; exact if_pos hk
          · rw [← hN]; exact (lo_mix okS hk).1
          · rw [← hD]; exact (lo_mix okS hk).2
        have CH2 : K = false → M.ch a b ph = none := by
          intro hk
          rw [← hK, lo_okM okS T0] at hk
          rw [CH]; exact if_neg (of_decide_eq_false hk)
        have HN := Lib.hid hN
        have HD := Lib.hid hD
        have HK := Lib.hid hK
        have HC1 := Lib.hid CH1
        have HC1Q : Hid (K = true → ∃ c, M.ch a b q = some c ∧ N = sN c ∧ D = sD c) := by
          have e : M.ch a b q = M.ch a b ph := by rw [← HQ.out]; exact chV_gp
          rw [e]; exact HC1
        have HC2 := Lib.hid CH2
        have hzr := ho.out.size
        clear hN hD hK CH CH1 CH2 hS okS wok
        have HWS := Lib.hid WS
        clear WS
        go_wp2_with fail
        refine (l18Sum_any (some ⟨bb, off, none⟩) 4 C lo L wr hsi.out (by omega)).mono ?_
        rintro e w4 ⟨rfl, rfl⟩
        rw [HWS.out]
        go_wp2_with fail
        refine (l18Make_any T (2 * S * 562949953421312) wr T0 (by omega) (by omega) (by omega)).mono ?_
        rintro e w5 ⟨rfl, hb⟩
        rw [show loN T (2 * S * 562949953421312) = N from HN.out, show loD T (2 * S * 562949953421312) = D from HD.out, show loB T (2 * S * 562949953421312) = K from HK.out]
        have z5 := hb.size
        have TB5 := Lib.hid ((tb.out.keep hb (by omega) (by omega) (by omega)).alloc (.cells #[.int .i64 N, .int .i64 D] 30))
        have RZ5 := Lib.hid ((rowIs_below rz.out hb rz.out.lt).alloc (.cells #[.int .i64 N, .int .i64 D] 30))
        have RN5 := Lib.hid (two_new w5 N D 30)
        have HO5 := Lib.hid ((ho.out.after hb).after ((Below.refl w5.heap.size w5).alloc (Nat.le_refl _) (.cells #[.int .i64 N, .int .i64 D] 30)))
        clear hb
        obtain ⟨kf5, vf5, g1, g2, g3, _⟩ := TB5.out
        have u0 := g1.cell (i := 0) (by omega)
        have u1 := g1.cell (i := 1) (by omega)
        have u2 := g1.cell (i := 2) (by omega)
        have u3 := g1.cell (i := 3) (by omega)
        have u4 := g1.cell (i := 4) (by omega)
        have u5 := g1.cell (i := 5) (by omega)
        have y1 := g2.cell (i := I) (by omega)
        have y2 := g3.cell (i := I * 2) (by omega)
        have y3 := g3.cell (i := I * 2 + 1) (by omega)
        have f1 := g1.frozen 5
        have f2 := g2.frozen I
        have f3 := g3.frozen (I * 2)
        have f4 := g3.frozen (I * 2 + 1)
        obtain ⟨v0, v1, v2, v3⟩ := two_cells RN5.out
        obtain ⟨h0, h1, h2, h3⟩ := two_cells RZ5.out
        simp only [tbC] at u0 u1 u2 u3 u4 u5
        clear g1 g2 g3
        go_wp2_with fail
        have TL := Lib.hid (((TB5.out.learn ⟨L1, L2, L3, L4, L5, L6, L7, L8, L9⟩ ha9 hb9 q1 q2 HI.out HC1Q.out).set (b := w.heap.size) (by omega) (by omega) (by omega) 0 (.int .i64 N)).set (b := w.heap.size) (by omega) (by omega) (by omega) 1 (.int .i64 D)).drew
        have OL := Lib.hid (((((((HO5.out.set (p := ⟨k, I, none⟩) L3 L4 (.bool true)).set (p := ⟨v, I * 2, none⟩) L5 L6 (.int .i64 N)).set (p := ⟨v, I * 2 + 1, none⟩) L5 L6 (.int .i64 D)).set (p := ⟨g, 5, none⟩) L1 L2 (.bool (!K))).setNew (p := ⟨w.heap.size, 0, none⟩) (Nat.le_refl _) (.int .i64 N)).setNew (p := ⟨w.heap.size, 1, none⟩) (Nat.le_refl _) (.int .i64 D)).drew)
        have RL := Lib.hid (two_set (row_set (b := g) (row_set (b := v) (row_set (b := v) (row_set (b := k) RZ5.out (by omega) I (.bool true)) (by omega) (I * 2) (.int .i64 N)) (by omega) (I * 2 + 1) (.int .i64 D)) (by omega) 5 (.bool (!K))) N D)
        go_region
        go_wp2_with fail
        obtain ⟨z0, z1, _, _⟩ := two_cells RL.out.drew
        refine bodyPost_ret (v := shV N D) (by simp [results, Try.results67, go_sem, z0, z1]) rfl ⟨N, D, !K, rfl, by with_reducible exact TL.out, by with_reducible exact OL.out, (fun h => by cases h), (fun h => HC1.out (by simpa using h)), (fun _ h => HC2.out (by simpa using h))⟩
theorem l18Chance_any (M : Mm) (hM : M.ok) (lo hi g k v : Nat) (hL : Lie lo hi g k v) : ∀ n, SpC M lo hi g k v n
  | 0 => fun a b ph fb w hn _ _ _ _ _ hT _ => by
    obtain rfl : a = 0 := by omega
    exact l18Chance_a0 M hM lo hi g k v hL b ph fb w hT
  | n + 1 => l18Chance_step M hM lo hi g k v hL n (l18Chance_any M hM lo hi g k v hL n)
end Go.Proofs.Ytkioliioakmepaa
