/-
  The walk of GammonValue of the reference (printed by gen_gv.py).
-/
import Derived.Test.YtkioliioakmepaaMchGV
import Derived.Test.YtkioliioakmepaaMchDQ
namespace Go.Proofs.Ytkioliioakmepaa
open Go.ChangeShapes Go.WideShapes Go.ChangeAt Go.RowKit
set_option linter.unusedVariables false

theorem lo_le {P Q : Int} (h0 : 0 ≤ P) (h1 : 0 < Q) : (loN P Q ≤ loD P Q) ↔ (P ≤ Q) := by
  obtain ⟨g0, e1, e2, _⟩ := lo_facts h0 h1
  constructor
  · intro h
    have := Int.mul_le_mul_of_nonneg_right h (show 0 ≤ (Int.gcd Q P : Int) by omega)
    omega
  · intro h
    refine Int.le_of_mul_le_mul_right (a := (Int.gcd Q P : Int)) ?_ g0
    rw [e1, e2]; exact h
/-- the products that the reference reduces stand as P to Q -/
theorem gv_parts {P Q : Int} (P0 : 0 ≤ P) (P1 : P ≤ SC) (Q0 : 0 < Q) (Q1 : Q ≤ SC) (hn : sD P ≤ 1000000) (hd : sD Q ≤ 1000000) :
    ∃ g N D : Int, (Int.gcd (sD P) (sD Q) : Int) = g ∧ ¬ g = 0 ∧ (0 < sD P ∧ N ≤ 1000000 ∧ 0 ≤ N) ∧ (0 < sD Q ∧ D ≤ 1000000 ∧ 0 ≤ D) ∧ Int.tdiv (sD Q) g = D ∧ Int.tdiv (sD P) g = N ∧ 0 ≤ sN P * D ∧ sN P * D ≤ 1000000000000 ∧ 0 < sN Q * N ∧ sN Q * N ≤ 1000000000000 ∧ loN (sN P * D) (sN Q * N) = loN P Q ∧ loD (sN P * D) (sN Q * N) = loD P Q ∧ loB (sN P * D) (sN Q * N) = loB P Q := by
  obtain ⟨_, p0, p1, n0, _, _, pk⟩ := s_facts P0 P1
  obtain ⟨_, q0, q1, d0, _, _, qk⟩ := s_facts (show 0 ≤ Q by omega) Q1
  have s1 := (D2.share P0 P1).scq
  have s2 := (D2.share (show 0 ≤ Q by omega) Q1).scq
  have hS : ¬ SC = 0 := by decide
  have f1 : sN P * SC = P * sD P := by
    conv => lhs; rw [← s1]
    rw [← Int.mul_assoc, pk]
  have f2 : sN Q * SC = Q * sD Q := by
    conv => lhs; rw [← s2]
    rw [← Int.mul_assoc, qk]
  obtain ⟨p, hp'⟩ : ∃ p, sN P = p := ⟨_, rfl⟩
  obtain ⟨n, hn'⟩ : ∃ n, sD P = n := ⟨_, rfl⟩
  obtain ⟨q, hq'⟩ : ∃ q, sN Q = q := ⟨_, rfl⟩
  obtain ⟨d, hd'⟩ : ∃ d, sD Q = d := ⟨_, rfl⟩
  rw [hp'] at p0 p1 f1 pk
  rw [hn'] at p1 n0 f1 hn
  rw [hq'] at q0 q1 f2 qk
  rw [hd'] at q1 d0 f2 hd
  rw [hp', hn', hq', hd']
  obtain ⟨g, hg⟩ : ∃ g : Int, (Int.gcd n d : Int) = g := ⟨_, rfl⟩
  have g0 : 0 < g := by rw [← hg]; exact Int.natCast_pos.2 (Int.gcd_pos_of_ne_zero_left d (by omega))
  have hng : n / g * g = n := by rw [← hg]; exact Int.ediv_mul_cancel (Int.gcd_dvd_left ..)
  have hdg : d / g * g = d := by rw [← hg]; exact Int.ediv_mul_cancel (Int.gcd_dvd_right ..)
  have ng1 : n / g ≤ n := Int.ediv_le_self _ (by omega)
  have dg1 : d / g ≤ d := Int.ediv_le_self _ (by omega)
  have ng0 : 0 ≤ n / g := Int.ediv_nonneg (by omega) (by omega)
  have dg0 : 0 ≤ d / g := Int.ediv_nonneg (by omega) (by omega)
  obtain ⟨N, hN⟩ : ∃ N, n / g = N := ⟨_, rfl⟩
  obtain ⟨D, hD⟩ : ∃ D, d / g = D := ⟨_, rfl⟩
  rw [hN] at hng ng0 ng1
  rw [hD] at hdg dg0 dg1
  have hpar := parts_eq hS f1 f2 hng hdg
  have a0 : 0 ≤ p * D := Int.mul_nonneg p0 dg0
  have a1 : p * D ≤ 1000000000000 := by
    have := Int.mul_le_mul (show p ≤ 1000000 by omega) (show D ≤ 1000000 by omega) dg0 (by omega); omega
  have b1 : q * N ≤ 1000000000000 := by
    have := Int.mul_le_mul (show q ≤ 1000000 by omega) (show N ≤ 1000000 by omega) ng0 (by omega); omega
  have hN0 : ¬ N = 0 := by
    intro h; rw [h, Int.zero_mul] at hng; omega
  have hq0 : ¬ q = 0 := by
    intro h; rw [h, Int.zero_mul] at qk; omega
  have b0 : 0 < q * N := Int.mul_pos (by omega) (by omega)
  obtain ⟨l1, l2, l3⟩ := lo_cross b0 Q0 hpar
  exact ⟨g, N, D, hg, by omega, ⟨by omega, by omega, ng0⟩, ⟨by omega, by omega, dg0⟩, by rw [Int.tdiv_eq_ediv_of_nonneg (by omega)]; exact hD, by rw [Int.tdiv_eq_ediv_of_nonneg (by omega)]; exact hN, a0, a1, b0, b1, l1, l2, l3⟩
set_option maxHeartbeats 3200000 in
theorem spec_GammonValue_any (M : Mm) (a b ph c : Int) (w : World) (hA : M.at w w.heap.size) (hs : M.sz) :
    Calls Try.prog 19 #[M.V, .int .i64 a, .int .i64 b, .int .i64 ph, .int .i64 c] w fun e w' => ShPost (gvV M a b ph c) w e w' := by
  have hb0 := ((Below.refl w.heap.size w).alloc (Nat.le_refl _) (.cells #[.slice M.a M.n M.c, .slice M.b M.m M.d, .slice M.e M.p M.f] 26)).alloc (by simp) (.cells #[.int .i64 0, .int .i64 0] 30)
  have HB := Lib.hid hb0
  have HA := Lib.hid (hA.keep hb0)
  have rm := (three_new w (.slice M.a M.n M.c) (.slice M.b M.m M.d) (.slice M.e M.p M.f) 26).alloc (.cells #[.int .i64 0, .int .i64 0] 30)
  have r8 := two_new (w.alloc (.cells #[.slice M.a M.n M.c, .slice M.b M.m M.d, .slice M.e M.p M.f] 26)) 0 0 30
  rw [World.size_alloc] at r8
  have RM := Lib.hid rm
  have R8 := Lib.hid r8
  have GA := Lib.hid hA
  have HSZ := Lib.hid hs
  obtain ⟨K, hK⟩ : ∃ K, cdV M a b ph c = K := ⟨_, rfl⟩
  have HK := Lib.hid hK
  clear hb0 rm r8 hA hK
  go_enter Try.func19, Try.ntmps19
  go_wp2_with fail
  refine (l19Code_any M a b ph c _ (HA.out.more HB.out.size) hs K HK.out).mono ?_
  rintro e w1 ⟨rfl, hb1⟩
  have z1 := hb1.size
  simp only [World.size_alloc] at z1
  have B1 := Lib.hid (HB.out.trans (hb1.mono HB.out.size))
  have A1 := Lib.hid (HA.out.keep (hb1.mono HB.out.size))
  have M1 := Lib.hid (rowIs_below RM.out hb1 RM.out.lt)
  have E1 := Lib.hid (rowIs_below R8.out hb1 R8.out.lt)
  obtain ⟨h0, h1, h2, h3⟩ := two_cells E1.out
  obtain ⟨m0, m1, m2⟩ := three_cells M1.out
  clear hb1
  by_cases hk : K = 0
  · subst hk
    obtain ⟨kg, ks, kc, ka, kb⟩ := cdV_out HK.out
    obtain ⟨⟨a0, a9⟩, ⟨b0, b9⟩, ab, p0, p2⟩ := stB_out ks
    obtain ⟨c1, c64⟩ := pwB_pos kc
    obtain ⟨X, rfl⟩ := Int.eq_ofNat_of_zero_le a0
    obtain ⟨Y, rfl⟩ := Int.eq_ofNat_of_zero_le b0
    have hM := Mm.good_ok kg GA.out
    have HMV : Hid (gvV M X Y ph c = gvR (M.afK X Y ph [2 * c, c, -c] 3)) := by
      refine Lib.hid ?_
      unfold gvV; rw [if_pos HK.out]; rfl
    have hX0 : 0 < X := by omega
    have hY0 : 0 < Y := by omega
    have LC := Lib.hid (fun (W : World) (A : Option Addr) (hAt : M.at W W.heap.size) (hP : Ints W W.heap.size .i64 A 3 [2 * c, c, -c]) => l19Chances_any M X Y ph A 3 3 [2 * c, c, -c] W hAt HSZ.out kg ks hX0 hY0 hP (by omega) (fun i hi => by
      match i, hi with
      | 0, _ => show ¬ 2 * c = 0 ∧ -1000 ≤ 2 * c ∧ 2 * c ≤ 1000; omega
      | 1, _ => show ¬ c = 0 ∧ -1000 ≤ c ∧ c ≤ 1000; omega
      | 2, _ => show ¬ -c = 0 ∧ -1000 ≤ -c ∧ -c ≤ 1000; omega))
    clear kg ks kc ka kb h0 h1 h2 h3
    go_wp2_with fail
    have IN := Lib.hid (ints_new3 w1 (2 * c) c (-c))
    have A2 := Lib.hid (A1.out.keep ((Below.refl w.heap.size w1).alloc (by omega) (.cells #[.int .i64 (2 * c), .int .i64 c, .int .i64 (-c)] 2)))
    have B2 := Lib.hid (B1.out.alloc B1.out.size (.cells #[.int .i64 (2 * c), .int .i64 c, .int .i64 (-c)] 2))
    have E2 := Lib.hid (E1.out.alloc (.cells #[.int .i64 (2 * c), .int .i64 c, .int .i64 (-c)] 2))
    refine (LC.out _ _ (A2.out.more (by simp; omega)) (IN.out.more (by simp))).mono ?_
    rintro e w2 ⟨v, ok, rfl, hb2, hyes, hno⟩
    have z2 := hb2.size
    simp only [World.size_alloc] at z2
    have B3 := Lib.hid (B2.out.trans (hb2.mono B2.out.size))
    have E3 := Lib.hid (rowIs_below E2.out hb2 E2.out.lt)
    have HYES := Lib.hid hyes
    have HNO := Lib.hid hno
    obtain ⟨h0, h1, h2, h3⟩ := two_cells E3.out
    clear hb2 hyes hno m0 m1 m2
    cases ok
    · have HV : Hid (gvV M X Y ph c = (0, 0, 3)) := by
        refine Lib.hid ?_
        rw [HMV.out, HNO.out rfl]; rfl
      have BF := Lib.hid ((B3.out.setCell (p := ⟨w.heap.size + 1, 0, none⟩) (by simp) (.int .i64 0)).setCell (p := ⟨w.heap.size + 1, 1, none⟩) (by simp) (.int .i64 0))
      obtain ⟨e0, e1, _, _⟩ := two_cells (two_set E3.out 0 0)
      go_wp2_with fail
      refine bodyPost_ret (v := .tuple #[shV 0 0, .int .i64 3]) (by simp [results, Try.results19, go_sem, e0, e1]) rfl (ShPost.mk rfl HV.out BF.out)
    · obtain ⟨xs, lo, hafk, hgs, hlo⟩ := HYES.out rfl
      obtain ⟨k0, k1, k2, rfl, ⟨k00, k01⟩, ⟨k10, k11⟩, k20, k21⟩ := Mm.afK3 hM hafk
      obtain ⟨al, cl, rfl, hrow⟩ := hgs.row
      have hints := hrow.ints rfl
      obtain ⟨gl, rfl, gl1, gl2, gl3, hcs⟩ := hrow.blk (by omega)
      have HV0 : Hid (gvV M X Y ph c = gvQ (k0 - k1) (k1 - k2) (fitsB [sN k0, sD k0, sN k1, sD k1, sN k2, sD k2] 3)) := by
        refine Lib.hid ?_
        rw [HMV.out, hafk]
        show gvQ (sN k0 * (SC / sD k0) - sN k1 * (SC / sD k1)) (sN k1 * (SC / sD k1) - sN k2 * (SC / sD k2)) _ = _
        rw [(s_facts k00 k01).2.2.2.2.2.2, (s_facts k10 k11).2.2.2.2.2.2, (s_facts k20 k21).2.2.2.2.2.2]
      have FT := Lib.hid (fun (W : World) (hb : Below w2.heap.size w2 W) => l19Fits_any (some ⟨gl, 0, none⟩) 3 cl [sN k0, sD k0, sN k1, sD k1, sN k2, sD k2] w2.heap.size W (hints.below hb) (by omega) (by omega))
      obtain ⟨ft, hft⟩ : ∃ ft, fitsB [sN k0, sD k0, sN k1, sD k1, sN k2, sD k2] 3 = ft := ⟨_, rfl⟩
      rw [hft] at FT HV0
      have FO : Hid (ft = true → sD k0 ≤ 1000000 ∧ sD k1 ≤ 1000000 ∧ sD k2 ≤ 1000000) := by
        refine Lib.hid (fun h => ?_)
        rw [h] at hft
        simp [fitsB] at hft
        omega
      have q0 := (hcs 0 (by omega)).1
      have q1 := (hcs 1 (by omega)).1
      have q2 := (hcs 2 (by omega)).1
      have q3 := (hcs 3 (by omega)).1
      have q4 := (hcs 4 (by omega)).1
      have q5 := (hcs 5 (by omega)).1
      simp only [icell, List.getD_cons_zero, List.getD_cons_succ] at q0 q1 q2 q3 q4 q5
      have HQ := Lib.hid (show L6 w2 gl (sN k0) (sD k0) (sN k1) (sD k1) (sN k2) (sD k2) from ⟨q0, q1, q2, q3, q4, q5⟩)
      obtain ⟨u0, u1, u2, u3⟩ := s_bd k00 k01
      obtain ⟨v0, v1, v2, v3⟩ := s_bd k10 k11
      obtain ⟨x0, x1, x2, x3⟩ := s_bd k20 k21
      have C1 := Lib.hid (fun W => l18Compare_any (sN k2) (sD k2) (sN k1) (sD k1) W x0 x1 x2 x3 v0 v1 v2 v3)
      have C2 := Lib.hid (fun W => l18Compare_any (sN k1) (sD k1) (sN k0) (sD k0) W v0 v1 v2 v3 u0 u1 u2 u3)
      rw [cmpS_s k20 k21 k10 k11] at C1
      rw [cmpS_s k10 k11 k00 k01] at C2
      obtain ⟨s1, hs1⟩ : ∃ s, Int.sign (k2 - k1) = s := ⟨_, rfl⟩
      obtain ⟨s2, hs2⟩ : ∃ s, Int.sign (k1 - k0) = s := ⟨_, rfl⟩
      rw [hs1] at C1
      rw [hs2] at C2
      have E4 := Lib.hid E3.out.drew
      have B4 := Lib.hid B3.out.drew
      have hgl3 : gl < w2.heap.size := gl3
      have HK0 := Lib.hid (And.intro (And.intro k00 k01) (And.intro k10 k11))
      have HK1 := Lib.hid (And.intro k20 k21)
      have HW2 := Lib.hid (Below.refl w2.heap.size w2).drew
      clear hcs hrow hgs hafk hft hints q0 q1 q2 q3 q4 q5 k00 k01 k10 k11 k20 k21 u0 u1 u2 u3 v0 v1 v2 v3 x0 x1 x2 x3 h0 h1 h2 h3
      by_cases tQ : k1 ≤ k2
      · have HV : Hid (gvV M X Y ph c = (0, 0, 5)) := HV0.out.trans (if_pos (.inl (by omega)))
        have hd1 : decide (0 ≤ s1) = true := by
          refine decide_eq_true ?_
          rw [← hs1]
          rcases Int.lt_or_eq_of_le tQ with h | h
          · rw [Int.sign_eq_one_of_pos (by omega)]; decide
          · rw [h, Int.sub_self]; decide
        clear hs1 hs2
        go_wp2_with fail
        refine wp_region_held_drew (S := fun w' => w'.cell? ⟨gl, 0, none⟩ = some (.int .i64 (sN k0)) ∧ w'.cell? ⟨gl, 1, none⟩ = some (.int .i64 (sD k0)) ∧ w'.cell? ⟨gl, 2, none⟩ = some (.int .i64 (sN k1)) ∧ w'.cell? ⟨gl, 3, none⟩ = some (.int .i64 (sD k1)) ∧ w'.cell? ⟨gl, 4, none⟩ = some (.int .i64 (sN k2)) ∧ w'.cell? ⟨gl, 5, none⟩ = some (.int .i64 (sD k2))) (by kernel_rfl) ?_ (fun hHeld => ?_)
        · exact HQ.out
        refine wpAnyH_take (i := 0) (oi := ?oa0) (v := ?va0) ?hia0 (by kernel_rfl) (by kernel_rfl) (by kernel_rfl) ?hqa0 (Or.inl ⟨?hwa0, ?hya0⟩) (by assumption) ?_
        case hia0 => (simp only [List.getElem?_toArray, List.getElem?_cons_zero]; all_goals rfl)
        case hqa0 => exact fun _ _ _ h => h
        case hwa0 => rfl
        case hya0 => ((intro w hSw; (try dsimp only at hSw); go_simp); all_goals (first | with_reducible rfl))
        try simp only [Act.put, List.setIfInBounds_toArray, List.set_cons_zero, List.set_cons_succ]
        refine wpAnyH_take (i := 1) (oi := ?oa1) (v := ?va1) ?hia1 (by kernel_rfl) (by kernel_rfl) (by kernel_rfl) ?hqa1 (Or.inl ⟨?hwa1, ?hya1⟩) (by assumption) ?_
        case hia1 => (simp only [List.getElem?_toArray, List.getElem?_cons_succ, List.getElem?_cons_zero]; all_goals rfl)
        case hqa1 => exact fun _ _ _ h => h
        case hwa1 => rfl
        case hya1 => ((intro w hSw; (try dsimp only at hSw); go_simp); all_goals (first | with_reducible rfl))
        try simp only [Act.put, List.setIfInBounds_toArray, List.set_cons_zero, List.set_cons_succ]
        refine wpAnyH_take (i := 2) (oi := ?oa2) (v := ?va2) ?hia2 (by kernel_rfl) (by kernel_rfl) (by kernel_rfl) ?hqa2 (Or.inl ⟨?hwa2, ?hya2⟩) (by assumption) ?_
        case hia2 => (simp only [List.getElem?_toArray, List.getElem?_cons_succ, List.getElem?_cons_zero]; all_goals rfl)
        case hqa2 => exact fun _ _ _ h => h
        case hwa2 => rfl
        case hya2 => ((intro w hSw; (try dsimp only at hSw); go_simp); all_goals (first | with_reducible rfl))
        try simp only [Act.put, List.setIfInBounds_toArray, List.set_cons_zero, List.set_cons_succ]
        refine wpAnyH_take (i := 3) (oi := ?oa3) (v := ?va3) ?hia3 (by kernel_rfl) (by kernel_rfl) (by kernel_rfl) ?hqa3 (Or.inl ⟨?hwa3, ?hya3⟩) (by assumption) ?_
        case hia3 => (simp only [List.getElem?_toArray, List.getElem?_cons_succ, List.getElem?_cons_zero]; all_goals rfl)
        case hqa3 => exact fun _ _ _ h => h
        case hwa3 => rfl
        case hya3 => ((intro w hSw; (try dsimp only at hSw); go_simp); all_goals (first | with_reducible rfl))
        try simp only [Act.put, List.setIfInBounds_toArray, List.set_cons_zero, List.set_cons_succ]
        refine wpAnyH_take (i := 4) (oi := ?oa4) (v := ?va4) ?hia4 (by kernel_rfl) (by kernel_rfl) (by kernel_rfl) ?hqa4 (Or.inl ⟨?hwa4, ?hya4⟩) (by assumption) ?_
        case hia4 => (simp only [List.getElem?_toArray, List.getElem?_cons_succ, List.getElem?_cons_zero]; all_goals rfl)
        case hqa4 => exact fun _ _ _ h => h
        case hwa4 => rfl
        case hya4 => ((intro w hSw; (try dsimp only at hSw); go_simp); all_goals (first | with_reducible rfl))
        try simp only [Act.put, List.setIfInBounds_toArray, List.set_cons_zero, List.set_cons_succ]
        refine wpAnyH_take (i := 5) (oi := ?oa5) (v := ?va5) ?hia5 (by kernel_rfl) (by kernel_rfl) (by kernel_rfl) ?hqa5 (Or.inl ⟨?hwa5, ?hya5⟩) (by assumption) ?_
        case hia5 => (simp only [List.getElem?_toArray, List.getElem?_cons_succ, List.getElem?_cons_zero]; all_goals rfl)
        case hqa5 => exact fun _ _ _ h => h
        case hwa5 => rfl
        case hya5 => ((intro w hSw; (try dsimp only at hSw); go_simp); all_goals (first | with_reducible rfl))
        try simp only [Act.put, List.setIfInBounds_toArray, List.set_cons_zero, List.set_cons_succ]
        refine wpAnyH_ready (rs := [6]) (by kernel_rfl) (by simp) ?_
        refine AllReadyH.cons rfl (fun K hK => ?_) AllReadyH.nil
        go_simp
        go_at_call 56
        with_reducible refine (C1.out w2.drew).mono ?_
        rintro e p1 ⟨rfl, hb⟩
        replace HQ := Lib.hid (L6.below (w := w2.drew) HQ.out hb hgl3)
        have s1s : w2.heap.size ≤ p1.heap.size := hb.size
        have W1 := Lib.hid (HW2.out.trans (hb.mono (Nat.le_refl _)))
        have E5 := Lib.hid (rowIs_below (w := w2.drew) E4.out hb E4.out.lt)
        have B5 := Lib.hid (B4.out.trans (hb.mono B4.out.size))
        clear hb
        go_wp2_with fail
        refine hK.out _ _ ?_ (fun hHeld => ?_)
        · exact HQ.out
        clear hK K
        try simp only [Act.put, List.setIfInBounds_toArray, List.set_cons_zero, List.set_cons_succ]
        refine wpAnyH_take (i := 7) (oi := ?oa7) (v := ?va7) ?hia7 (by kernel_rfl) (by kernel_rfl) (by kernel_rfl) ?hqa7 (Or.inl ⟨?hwa7, ?hya7⟩) (by assumption) ?_
        case hia7 => (simp only [List.getElem?_toArray, List.getElem?_cons_succ, List.getElem?_cons_zero]; all_goals rfl)
        case hqa7 => exact fun _ _ _ h => h
        case hwa7 => rfl
        case hya7 => ((intro w hSw; (try dsimp only at hSw); go_simp); all_goals (first | with_reducible rfl))
        try simp only [Act.put, List.setIfInBounds_toArray, List.set_cons_zero, List.set_cons_succ]
        refine wpAnyH_take (i := 8) (oi := ?oa8) (v := ?va8) ?hia8 (by kernel_rfl) (by kernel_rfl) (by kernel_rfl) ?hqa8 (Or.inl ⟨?hwa8, ?hya8⟩) (by assumption) ?_
        case hia8 => (simp only [List.getElem?_toArray, List.getElem?_cons_succ, List.getElem?_cons_zero]; all_goals rfl)
        case hqa8 => exact fun _ _ _ h => h
        case hwa8 => rfl
        case hya8 => ((intro w hSw; (try dsimp only at hSw); go_simp); all_goals (first | with_reducible rfl))
        try simp only [Act.put, List.setIfInBounds_toArray, List.set_cons_zero, List.set_cons_succ]
        refine wpAnyH_take (i := 9) (oi := ?oa9) (v := undef) ?hia9 (by kernel_rfl) (by kernel_rfl) (by kernel_rfl) ?hqa9 (Or.inr ⟨?hwa9, ?hva9⟩) (by assumption) ?_
        case hia9 => (simp only [List.getElem?_toArray, List.getElem?_cons_succ, List.getElem?_cons_zero]; all_goals rfl)
        case hqa9 => exact fun _ _ _ h => h
        case hwa9 => rfl
        case hva9 => rfl
        try simp only [Act.put, List.setIfInBounds_toArray, List.set_cons_zero, List.set_cons_succ]
        refine wpAnyH_take (i := 10) (oi := ?oa10) (v := undef) ?hia10 (by kernel_rfl) (by kernel_rfl) (by kernel_rfl) ?hqa10 (Or.inr ⟨?hwa10, ?hva10⟩) (by assumption) ?_
        case hia10 => (simp only [List.getElem?_toArray, List.getElem?_cons_succ, List.getElem?_cons_zero]; all_goals rfl)
        case hqa10 => exact fun _ _ _ h => h
        case hwa10 => rfl
        case hva10 => rfl
        try simp only [Act.put, List.setIfInBounds_toArray, List.set_cons_zero, List.set_cons_succ]
        refine wpAnyH_take (i := 11) (oi := ?oa11) (v := undef) ?hia11 (by kernel_rfl) (by kernel_rfl) (by kernel_rfl) ?hqa11 (Or.inr ⟨?hwa11, ?hva11⟩) (by assumption) ?_
        case hia11 => (simp only [List.getElem?_toArray, List.getElem?_cons_succ, List.getElem?_cons_zero]; all_goals rfl)
        case hqa11 => exact fun _ _ _ h => h
        case hwa11 => rfl
        case hva11 => rfl
        try simp only [Act.put, List.setIfInBounds_toArray, List.set_cons_zero, List.set_cons_succ]
        refine wpAnyH_take (i := 12) (oi := ?oa12) (v := undef) ?hia12 (by kernel_rfl) (by kernel_rfl) (by kernel_rfl) ?hqa12 (Or.inr ⟨?hwa12, ?hva12⟩) (by assumption) ?_
        case hia12 => (simp only [List.getElem?_toArray, List.getElem?_cons_succ, List.getElem?_cons_zero]; all_goals rfl)
        case hqa12 => exact fun _ _ _ h => h
        case hwa12 => rfl
        case hva12 => rfl
        try simp only [Act.put, List.setIfInBounds_toArray, List.set_cons_zero, List.set_cons_succ]
        refine wpAnyH_take (i := 13) (oi := ?oa13) (v := undef) ?hia13 (by kernel_rfl) (by kernel_rfl) (by kernel_rfl) ?hqa13 (Or.inr ⟨?hwa13, ?hva13⟩) (by assumption) ?_
        case hia13 => (simp only [List.getElem?_toArray, List.getElem?_cons_succ, List.getElem?_cons_zero]; all_goals rfl)
        case hqa13 => exact fun _ _ _ h => h
        case hwa13 => rfl
        case hva13 => rfl
        try simp only [Act.put, List.setIfInBounds_toArray, List.set_cons_zero, List.set_cons_succ]
        refine wpAnyH_take (i := 14) (oi := ?oa14) (v := undef) ?hia14 (by kernel_rfl) (by kernel_rfl) (by kernel_rfl) ?hqa14 (Or.inr ⟨?hwa14, ?hva14⟩) (by assumption) ?_
        case hia14 => (simp only [List.getElem?_toArray, List.getElem?_cons_succ, List.getElem?_cons_zero]; all_goals rfl)
        case hqa14 => exact fun _ _ _ h => h
        case hwa14 => rfl
        case hva14 => rfl
        try simp only [Act.put, List.setIfInBounds_toArray, List.set_cons_zero, List.set_cons_succ]
        refine wpAnyH_take (i := 15) (oi := ?oa15) (v := undef) ?hia15 (by kernel_rfl) (by kernel_rfl) (by kernel_rfl) ?hqa15 (Or.inr ⟨?hwa15, ?hva15⟩) (by assumption) ?_
        case hia15 => (simp only [List.getElem?_toArray, List.getElem?_cons_succ, List.getElem?_cons_zero]; all_goals rfl)
        case hqa15 => exact fun _ _ _ h => h
        case hwa15 => rfl
        case hva15 => rfl
        try simp only [Act.put, List.setIfInBounds_toArray, List.set_cons_zero, List.set_cons_succ]
        refine wpAnyH_take (i := 16) (oi := ?oa16) (v := undef) ?hia16 (by kernel_rfl) (by kernel_rfl) (by kernel_rfl) ?hqa16 (Or.inr ⟨?hwa16, ?hva16⟩) (by assumption) ?_
        case hia16 => (simp only [List.getElem?_toArray, List.getElem?_cons_succ, List.getElem?_cons_zero]; all_goals rfl)
        case hqa16 => exact fun _ _ _ h => h
        case hwa16 => rfl
        case hva16 => rfl
        try simp only [Act.put, List.setIfInBounds_toArray, List.set_cons_zero, List.set_cons_succ]
        refine wpAnyH_take (i := 17) (oi := ?oa17) (v := ?va17) ?hia17 (by kernel_rfl) (by kernel_rfl) (by kernel_rfl) ?hqa17 (Or.inl ⟨?hwa17, ?hya17⟩) (by assumption) ?_
        case hia17 => (simp only [List.getElem?_toArray, List.getElem?_cons_succ, List.getElem?_cons_zero]; all_goals rfl)
        case hqa17 => exact fun _ _ _ h => h
        case hwa17 => rfl
        case hya17 => ((intro w hSw; (try dsimp only at hSw); go_simp); all_goals (first | with_reducible rfl))
        try simp only [Act.put, List.setIfInBounds_toArray, List.set_cons_zero, List.set_cons_succ]
        refine wpAnyH_done (by kernel_rfl) ?_ _
        have BF := Lib.hid ((B5.out.setCell (p := ⟨w.heap.size + 1, 0, none⟩) (by simp) (.int .i64 0)).setCell (p := ⟨w.heap.size + 1, 1, none⟩) (by simp) (.int .i64 0))
        obtain ⟨h0, h1, h2, h3⟩ := two_cells E5.out
        obtain ⟨e0, e1, _, _⟩ := two_cells (two_set E5.out 0 0)
        go_wp2_with fail
        refine bodyPost_ret (v := .tuple #[shV 0 0, .int .i64 5]) (by simp [results, Try.results19, go_sem, e0, e1]) rfl (ShPost.mk rfl HV.out BF.out)
      have hd1 : decide (0 ≤ s1) = false := by
        refine decide_eq_false ?_
        rw [← hs1, Int.sign_eq_neg_one_of_neg (by omega)]; decide
      by_cases tP : k0 < k1
      · have HV : Hid (gvV M X Y ph c = (0, 0, 5)) := HV0.out.trans (if_pos (.inr (by omega)))
        obtain rfl : s2 = 1 := by rw [← hs2]; exact Int.sign_eq_one_of_pos (by omega)
        clear hs1 hs2
        go_wp2_with fail
        refine wp_region_held_drew (S := fun w' => w'.cell? ⟨gl, 0, none⟩ = some (.int .i64 (sN k0)) ∧ w'.cell? ⟨gl, 1, none⟩ = some (.int .i64 (sD k0)) ∧ w'.cell? ⟨gl, 2, none⟩ = some (.int .i64 (sN k1)) ∧ w'.cell? ⟨gl, 3, none⟩ = some (.int .i64 (sD k1)) ∧ w'.cell? ⟨gl, 4, none⟩ = some (.int .i64 (sN k2)) ∧ w'.cell? ⟨gl, 5, none⟩ = some (.int .i64 (sD k2))) (by kernel_rfl) ?_ (fun hHeld => ?_)
        · exact HQ.out
        refine wpAnyH_take (i := 0) (oi := ?ob0) (v := ?vb0) ?hib0 (by kernel_rfl) (by kernel_rfl) (by kernel_rfl) ?hqb0 (Or.inl ⟨?hwb0, ?hyb0⟩) (by assumption) ?_
        case hib0 => (simp only [List.getElem?_toArray, List.getElem?_cons_zero]; all_goals rfl)
        case hqb0 => exact fun _ _ _ h => h
        case hwb0 => rfl
        case hyb0 => ((intro w hSw; (try dsimp only at hSw); go_simp); all_goals (first | with_reducible rfl))
        try simp only [Act.put, List.setIfInBounds_toArray, List.set_cons_zero, List.set_cons_succ]
        refine wpAnyH_take (i := 1) (oi := ?ob1) (v := ?vb1) ?hib1 (by kernel_rfl) (by kernel_rfl) (by kernel_rfl) ?hqb1 (Or.inl ⟨?hwb1, ?hyb1⟩) (by assumption) ?_
        case hib1 => (simp only [List.getElem?_toArray, List.getElem?_cons_succ, List.getElem?_cons_zero]; all_goals rfl)
        case hqb1 => exact fun _ _ _ h => h
        case hwb1 => rfl
        case hyb1 => ((intro w hSw; (try dsimp only at hSw); go_simp); all_goals (first | with_reducible rfl))
        try simp only [Act.put, List.setIfInBounds_toArray, List.set_cons_zero, List.set_cons_succ]
        refine wpAnyH_take (i := 2) (oi := ?ob2) (v := ?vb2) ?hib2 (by kernel_rfl) (by kernel_rfl) (by kernel_rfl) ?hqb2 (Or.inl ⟨?hwb2, ?hyb2⟩) (by assumption) ?_
        case hib2 => (simp only [List.getElem?_toArray, List.getElem?_cons_succ, List.getElem?_cons_zero]; all_goals rfl)
        case hqb2 => exact fun _ _ _ h => h
        case hwb2 => rfl
        case hyb2 => ((intro w hSw; (try dsimp only at hSw); go_simp); all_goals (first | with_reducible rfl))
        try simp only [Act.put, List.setIfInBounds_toArray, List.set_cons_zero, List.set_cons_succ]
        refine wpAnyH_take (i := 3) (oi := ?ob3) (v := ?vb3) ?hib3 (by kernel_rfl) (by kernel_rfl) (by kernel_rfl) ?hqb3 (Or.inl ⟨?hwb3, ?hyb3⟩) (by assumption) ?_
        case hib3 => (simp only [List.getElem?_toArray, List.getElem?_cons_succ, List.getElem?_cons_zero]; all_goals rfl)
        case hqb3 => exact fun _ _ _ h => h
        case hwb3 => rfl
        case hyb3 => ((intro w hSw; (try dsimp only at hSw); go_simp); all_goals (first | with_reducible rfl))
        try simp only [Act.put, List.setIfInBounds_toArray, List.set_cons_zero, List.set_cons_succ]
        refine wpAnyH_take (i := 4) (oi := ?ob4) (v := ?vb4) ?hib4 (by kernel_rfl) (by kernel_rfl) (by kernel_rfl) ?hqb4 (Or.inl ⟨?hwb4, ?hyb4⟩) (by assumption) ?_
        case hib4 => (simp only [List.getElem?_toArray, List.getElem?_cons_succ, List.getElem?_cons_zero]; all_goals rfl)
        case hqb4 => exact fun _ _ _ h => h
        case hwb4 => rfl
        case hyb4 => ((intro w hSw; (try dsimp only at hSw); go_simp); all_goals (first | with_reducible rfl))
        try simp only [Act.put, List.setIfInBounds_toArray, List.set_cons_zero, List.set_cons_succ]
        refine wpAnyH_take (i := 5) (oi := ?ob5) (v := ?vb5) ?hib5 (by kernel_rfl) (by kernel_rfl) (by kernel_rfl) ?hqb5 (Or.inl ⟨?hwb5, ?hyb5⟩) (by assumption) ?_
        case hib5 => (simp only [List.getElem?_toArray, List.getElem?_cons_succ, List.getElem?_cons_zero]; all_goals rfl)
        case hqb5 => exact fun _ _ _ h => h
        case hwb5 => rfl
        case hyb5 => ((intro w hSw; (try dsimp only at hSw); go_simp); all_goals (first | with_reducible rfl))
        try simp only [Act.put, List.setIfInBounds_toArray, List.set_cons_zero, List.set_cons_succ]
        refine wpAnyH_ready (rs := [6]) (by kernel_rfl) (by simp) ?_
        refine AllReadyH.cons rfl (fun K hK => ?_) AllReadyH.nil
        go_simp
        go_at_call 56
        with_reducible refine (C1.out w2.drew).mono ?_
        rintro e p1 ⟨rfl, hb⟩
        replace HQ := Lib.hid (L6.below (w := w2.drew) HQ.out hb hgl3)
        have s1s : w2.heap.size ≤ p1.heap.size := hb.size
        have W1 := Lib.hid (HW2.out.trans (hb.mono (Nat.le_refl _)))
        have E5 := Lib.hid (rowIs_below (w := w2.drew) E4.out hb E4.out.lt)
        have B5 := Lib.hid (B4.out.trans (hb.mono B4.out.size))
        clear hb
        go_wp2_with fail
        refine hK.out _ _ ?_ (fun hHeld => ?_)
        · exact HQ.out
        clear hK K
        try simp only [Act.put, List.setIfInBounds_toArray, List.set_cons_zero, List.set_cons_succ]
        refine wpAnyH_take (i := 7) (oi := ?ob7) (v := ?vb7) ?hib7 (by kernel_rfl) (by kernel_rfl) (by kernel_rfl) ?hqb7 (Or.inl ⟨?hwb7, ?hyb7⟩) (by assumption) ?_
        case hib7 => (simp only [List.getElem?_toArray, List.getElem?_cons_succ, List.getElem?_cons_zero]; all_goals rfl)
        case hqb7 => exact fun _ _ _ h => h
        case hwb7 => rfl
        case hyb7 => ((intro w hSw; (try dsimp only at hSw); go_simp); all_goals (first | with_reducible rfl))
        try simp only [Act.put, List.setIfInBounds_toArray, List.set_cons_zero, List.set_cons_succ]
        refine wpAnyH_take (i := 8) (oi := ?ob8) (v := ?vb8) ?hib8 (by kernel_rfl) (by kernel_rfl) (by kernel_rfl) ?hqb8 (Or.inl ⟨?hwb8, ?hyb8⟩) (by assumption) ?_
        case hib8 => (simp only [List.getElem?_toArray, List.getElem?_cons_succ, List.getElem?_cons_zero]; all_goals rfl)
        case hqb8 => exact fun _ _ _ h => h
        case hwb8 => rfl
        case hyb8 => ((intro w hSw; (try dsimp only at hSw); go_simp); all_goals (first | with_reducible rfl))
        try simp only [Act.put, List.setIfInBounds_toArray, List.set_cons_zero, List.set_cons_succ]
        refine wpAnyH_take (i := 9) (oi := ?ob9) (v := ?vb9) ?hib9 (by kernel_rfl) (by kernel_rfl) (by kernel_rfl) ?hqb9 (Or.inl ⟨?hwb9, ?hyb9⟩) (by assumption) ?_
        case hib9 => (simp only [List.getElem?_toArray, List.getElem?_cons_succ, List.getElem?_cons_zero]; all_goals rfl)
        case hqb9 => exact fun _ _ _ h => h
        case hwb9 => rfl
        case hyb9 => ((intro w hSw; (try dsimp only at hSw); go_simp); all_goals (first | with_reducible rfl))
        try simp only [Act.put, List.setIfInBounds_toArray, List.set_cons_zero, List.set_cons_succ]
        refine wpAnyH_take (i := 10) (oi := ?ob10) (v := ?vb10) ?hib10 (by kernel_rfl) (by kernel_rfl) (by kernel_rfl) ?hqb10 (Or.inl ⟨?hwb10, ?hyb10⟩) (by assumption) ?_
        case hib10 => (simp only [List.getElem?_toArray, List.getElem?_cons_succ, List.getElem?_cons_zero]; all_goals rfl)
        case hqb10 => exact fun _ _ _ h => h
        case hwb10 => rfl
        case hyb10 => ((intro w hSw; (try dsimp only at hSw); go_simp); all_goals (first | with_reducible rfl))
        try simp only [Act.put, List.setIfInBounds_toArray, List.set_cons_zero, List.set_cons_succ]
        refine wpAnyH_take (i := 11) (oi := ?ob11) (v := ?vb11) ?hib11 (by kernel_rfl) (by kernel_rfl) (by kernel_rfl) ?hqb11 (Or.inl ⟨?hwb11, ?hyb11⟩) (by assumption) ?_
        case hib11 => (simp only [List.getElem?_toArray, List.getElem?_cons_succ, List.getElem?_cons_zero]; all_goals rfl)
        case hqb11 => exact fun _ _ _ h => h
        case hwb11 => rfl
        case hyb11 => ((intro w hSw; (try dsimp only at hSw); go_simp); all_goals (first | with_reducible rfl))
        try simp only [Act.put, List.setIfInBounds_toArray, List.set_cons_zero, List.set_cons_succ]
        refine wpAnyH_take (i := 12) (oi := ?ob12) (v := ?vb12) ?hib12 (by kernel_rfl) (by kernel_rfl) (by kernel_rfl) ?hqb12 (Or.inl ⟨?hwb12, ?hyb12⟩) (by assumption) ?_
        case hib12 => (simp only [List.getElem?_toArray, List.getElem?_cons_succ, List.getElem?_cons_zero]; all_goals rfl)
        case hqb12 => exact fun _ _ _ h => h
        case hwb12 => rfl
        case hyb12 => ((intro w hSw; (try dsimp only at hSw); go_simp); all_goals (first | with_reducible rfl))
        try simp only [Act.put, List.setIfInBounds_toArray, List.set_cons_zero, List.set_cons_succ]
        refine wpAnyH_take (i := 13) (oi := ?ob13) (v := ?vb13) ?hib13 (by kernel_rfl) (by kernel_rfl) (by kernel_rfl) ?hqb13 (Or.inl ⟨?hwb13, ?hyb13⟩) (by assumption) ?_
        case hib13 => (simp only [List.getElem?_toArray, List.getElem?_cons_succ, List.getElem?_cons_zero]; all_goals rfl)
        case hqb13 => exact fun _ _ _ h => h
        case hwb13 => rfl
        case hyb13 => ((intro w hSw; (try dsimp only at hSw); go_simp); all_goals (first | with_reducible rfl))
        try simp only [Act.put, List.setIfInBounds_toArray, List.set_cons_zero, List.set_cons_succ]
        refine wpAnyH_take (i := 14) (oi := ?ob14) (v := ?vb14) ?hib14 (by kernel_rfl) (by kernel_rfl) (by kernel_rfl) ?hqb14 (Or.inl ⟨?hwb14, ?hyb14⟩) (by assumption) ?_
        case hib14 => (simp only [List.getElem?_toArray, List.getElem?_cons_succ, List.getElem?_cons_zero]; all_goals rfl)
        case hqb14 => exact fun _ _ _ h => h
        case hwb14 => rfl
        case hyb14 => ((intro w hSw; (try dsimp only at hSw); go_simp); all_goals (first | with_reducible rfl))
        try simp only [Act.put, List.setIfInBounds_toArray, List.set_cons_zero, List.set_cons_succ]
        refine wpAnyH_ready (rs := [15]) (by kernel_rfl) (by simp) ?_
        refine AllReadyH.cons rfl (fun K hK => ?_) AllReadyH.nil
        go_simp
        go_at_call 56
        with_reducible refine (C2.out p1).mono ?_
        rintro e p2 ⟨rfl, hb⟩
        replace HQ := Lib.hid (L6.below (w := p1) HQ.out hb (by omega))
        have s2s : p1.heap.size ≤ p2.heap.size := hb.size
        have W2 := Lib.hid (W1.out.trans (hb.mono s1s))
        have E6 := Lib.hid (rowIs_below (w := p1) E5.out hb E5.out.lt)
        have B6 := Lib.hid (B5.out.trans (hb.mono B5.out.size))
        clear hb
        go_wp2_with fail
        refine hK.out _ _ ?_ (fun hHeld => ?_)
        · exact HQ.out
        clear hK K
        try simp only [Act.put, List.setIfInBounds_toArray, List.set_cons_zero, List.set_cons_succ]
        refine wpAnyH_take (i := 16) (oi := ?ob16) (v := ?vb16) ?hib16 (by kernel_rfl) (by kernel_rfl) (by kernel_rfl) ?hqb16 (Or.inl ⟨?hwb16, ?hyb16⟩) (by assumption) ?_
        case hib16 => (simp only [List.getElem?_toArray, List.getElem?_cons_succ, List.getElem?_cons_zero]; all_goals rfl)
        case hqb16 => exact fun _ _ _ h => h
        case hwb16 => rfl
        case hyb16 => ((intro w hSw; (try dsimp only at hSw); go_simp); all_goals (first | with_reducible rfl))
        try simp only [Act.put, List.setIfInBounds_toArray, List.set_cons_zero, List.set_cons_succ]
        refine wpAnyH_take (i := 17) (oi := ?ob17) (v := ?vb17) ?hib17 (by kernel_rfl) (by kernel_rfl) (by kernel_rfl) ?hqb17 (Or.inl ⟨?hwb17, ?hyb17⟩) (by assumption) ?_
        case hib17 => (simp only [List.getElem?_toArray, List.getElem?_cons_succ, List.getElem?_cons_zero]; all_goals rfl)
        case hqb17 => exact fun _ _ _ h => h
        case hwb17 => rfl
        case hyb17 => ((intro w hSw; (try dsimp only at hSw); go_simp); all_goals (first | with_reducible rfl))
        try simp only [Act.put, List.setIfInBounds_toArray, List.set_cons_zero, List.set_cons_succ]
        refine wpAnyH_done (by kernel_rfl) ?_ _
        have BF := Lib.hid ((B6.out.setCell (p := ⟨w.heap.size + 1, 0, none⟩) (by simp) (.int .i64 0)).setCell (p := ⟨w.heap.size + 1, 1, none⟩) (by simp) (.int .i64 0))
        obtain ⟨h0, h1, h2, h3⟩ := two_cells E6.out
        obtain ⟨e0, e1, _, _⟩ := two_cells (two_set E6.out 0 0)
        go_wp2_with fail
        refine bodyPost_ret (v := .tuple #[shV 0 0, .int .i64 5]) (by simp [results, Try.results19, go_sem, e0, e1]) rfl (ShPost.mk rfl HV.out BF.out)
      have hd2 : decide (0 < s2) = false := by
        refine decide_eq_false ?_
        rw [← hs2]
        rcases Int.lt_or_eq_of_le (show k1 ≤ k0 by omega) with h | h
        · rw [Int.sign_eq_neg_one_of_neg (by omega)]; decide
        · rw [h, Int.sub_self]; decide
      clear hs1 hs2
      have NO : Hid (¬ (k1 - k2 ≤ 0 ∨ k0 - k1 < 0)) := by
        refine Lib.hid ?_
        rintro (h | h) <;> omega
      go_wp2_with fail
      refine wp_region_held_drew (S := fun w' => w'.cell? ⟨gl, 0, none⟩ = some (.int .i64 (sN k0)) ∧ w'.cell? ⟨gl, 1, none⟩ = some (.int .i64 (sD k0)) ∧ w'.cell? ⟨gl, 2, none⟩ = some (.int .i64 (sN k1)) ∧ w'.cell? ⟨gl, 3, none⟩ = some (.int .i64 (sD k1)) ∧ w'.cell? ⟨gl, 4, none⟩ = some (.int .i64 (sN k2)) ∧ w'.cell? ⟨gl, 5, none⟩ = some (.int .i64 (sD k2))) (by kernel_rfl) ?_ (fun hHeld => ?_)
      · exact HQ.out
      refine wpAnyH_take (i := 0) (oi := ?oc0) (v := ?vc0) ?hic0 (by kernel_rfl) (by kernel_rfl) (by kernel_rfl) ?hqc0 (Or.inl ⟨?hwc0, ?hyc0⟩) (by assumption) ?_
      case hic0 => (simp only [List.getElem?_toArray, List.getElem?_cons_zero]; all_goals rfl)
      case hqc0 => exact fun _ _ _ h => h
      case hwc0 => rfl
      case hyc0 => ((intro w hSw; (try dsimp only at hSw); go_simp); all_goals (first | with_reducible rfl))
      try simp only [Act.put, List.setIfInBounds_toArray, List.set_cons_zero, List.set_cons_succ]
      refine wpAnyH_take (i := 1) (oi := ?oc1) (v := ?vc1) ?hic1 (by kernel_rfl) (by kernel_rfl) (by kernel_rfl) ?hqc1 (Or.inl ⟨?hwc1, ?hyc1⟩) (by assumption) ?_
      case hic1 => (simp only [List.getElem?_toArray, List.getElem?_cons_succ, List.getElem?_cons_zero]; all_goals rfl)
      case hqc1 => exact fun _ _ _ h => h
      case hwc1 => rfl
      case hyc1 => ((intro w hSw; (try dsimp only at hSw); go_simp); all_goals (first | with_reducible rfl))
      try simp only [Act.put, List.setIfInBounds_toArray, List.set_cons_zero, List.set_cons_succ]
      refine wpAnyH_take (i := 2) (oi := ?oc2) (v := ?vc2) ?hic2 (by kernel_rfl) (by kernel_rfl) (by kernel_rfl) ?hqc2 (Or.inl ⟨?hwc2, ?hyc2⟩) (by assumption) ?_
      case hic2 => (simp only [List.getElem?_toArray, List.getElem?_cons_succ, List.getElem?_cons_zero]; all_goals rfl)
      case hqc2 => exact fun _ _ _ h => h
      case hwc2 => rfl
      case hyc2 => ((intro w hSw; (try dsimp only at hSw); go_simp); all_goals (first | with_reducible rfl))
      try simp only [Act.put, List.setIfInBounds_toArray, List.set_cons_zero, List.set_cons_succ]
      refine wpAnyH_take (i := 3) (oi := ?oc3) (v := ?vc3) ?hic3 (by kernel_rfl) (by kernel_rfl) (by kernel_rfl) ?hqc3 (Or.inl ⟨?hwc3, ?hyc3⟩) (by assumption) ?_
      case hic3 => (simp only [List.getElem?_toArray, List.getElem?_cons_succ, List.getElem?_cons_zero]; all_goals rfl)
      case hqc3 => exact fun _ _ _ h => h
      case hwc3 => rfl
      case hyc3 => ((intro w hSw; (try dsimp only at hSw); go_simp); all_goals (first | with_reducible rfl))
      try simp only [Act.put, List.setIfInBounds_toArray, List.set_cons_zero, List.set_cons_succ]
      refine wpAnyH_take (i := 4) (oi := ?oc4) (v := ?vc4) ?hic4 (by kernel_rfl) (by kernel_rfl) (by kernel_rfl) ?hqc4 (Or.inl ⟨?hwc4, ?hyc4⟩) (by assumption) ?_
      case hic4 => (simp only [List.getElem?_toArray, List.getElem?_cons_succ, List.getElem?_cons_zero]; all_goals rfl)
      case hqc4 => exact fun _ _ _ h => h
      case hwc4 => rfl
      case hyc4 => ((intro w hSw; (try dsimp only at hSw); go_simp); all_goals (first | with_reducible rfl))
      try simp only [Act.put, List.setIfInBounds_toArray, List.set_cons_zero, List.set_cons_succ]
      refine wpAnyH_take (i := 5) (oi := ?oc5) (v := ?vc5) ?hic5 (by kernel_rfl) (by kernel_rfl) (by kernel_rfl) ?hqc5 (Or.inl ⟨?hwc5, ?hyc5⟩) (by assumption) ?_
      case hic5 => (simp only [List.getElem?_toArray, List.getElem?_cons_succ, List.getElem?_cons_zero]; all_goals rfl)
      case hqc5 => exact fun _ _ _ h => h
      case hwc5 => rfl
      case hyc5 => ((intro w hSw; (try dsimp only at hSw); go_simp); all_goals (first | with_reducible rfl))
      try simp only [Act.put, List.setIfInBounds_toArray, List.set_cons_zero, List.set_cons_succ]
      refine wpAnyH_ready (rs := [6]) (by kernel_rfl) (by simp) ?_
      refine AllReadyH.cons rfl (fun K hK => ?_) AllReadyH.nil
      go_simp
      go_at_call 56
      with_reducible refine (C1.out w2.drew).mono ?_
      rintro e p1 ⟨rfl, hb⟩
      replace HQ := Lib.hid (L6.below (w := w2.drew) HQ.out hb hgl3)
      have s1s : w2.heap.size ≤ p1.heap.size := hb.size
      have W1 := Lib.hid (HW2.out.trans (hb.mono (Nat.le_refl _)))
      have E5 := Lib.hid (rowIs_below (w := w2.drew) E4.out hb E4.out.lt)
      have B5 := Lib.hid (B4.out.trans (hb.mono B4.out.size))
      clear hb
      go_wp2_with fail
      refine hK.out _ _ ?_ (fun hHeld => ?_)
      · exact HQ.out
      clear hK K
      try simp only [Act.put, List.setIfInBounds_toArray, List.set_cons_zero, List.set_cons_succ]
      refine wpAnyH_take (i := 7) (oi := ?oc7) (v := ?vc7) ?hic7 (by kernel_rfl) (by kernel_rfl) (by kernel_rfl) ?hqc7 (Or.inl ⟨?hwc7, ?hyc7⟩) (by assumption) ?_
      case hic7 => (simp only [List.getElem?_toArray, List.getElem?_cons_succ, List.getElem?_cons_zero]; all_goals rfl)
      case hqc7 => exact fun _ _ _ h => h
      case hwc7 => rfl
      case hyc7 => ((intro w hSw; (try dsimp only at hSw); go_simp); all_goals (first | with_reducible rfl))
      try simp only [Act.put, List.setIfInBounds_toArray, List.set_cons_zero, List.set_cons_succ]
      refine wpAnyH_take (i := 8) (oi := ?oc8) (v := ?vc8) ?hic8 (by kernel_rfl) (by kernel_rfl) (by kernel_rfl) ?hqc8 (Or.inl ⟨?hwc8, ?hyc8⟩) (by assumption) ?_
      case hic8 => (simp only [List.getElem?_toArray, List.getElem?_cons_succ, List.getElem?_cons_zero]; all_goals rfl)
      case hqc8 => exact fun _ _ _ h => h
      case hwc8 => rfl
      case hyc8 => ((intro w hSw; (try dsimp only at hSw); go_simp); all_goals (first | with_reducible rfl))
      try simp only [Act.put, List.setIfInBounds_toArray, List.set_cons_zero, List.set_cons_succ]
      refine wpAnyH_take (i := 9) (oi := ?oc9) (v := ?vc9) ?hic9 (by kernel_rfl) (by kernel_rfl) (by kernel_rfl) ?hqc9 (Or.inl ⟨?hwc9, ?hyc9⟩) (by assumption) ?_
      case hic9 => (simp only [List.getElem?_toArray, List.getElem?_cons_succ, List.getElem?_cons_zero]; all_goals rfl)
      case hqc9 => exact fun _ _ _ h => h
      case hwc9 => rfl
      case hyc9 => ((intro w hSw; (try dsimp only at hSw); go_simp); all_goals (first | with_reducible rfl))
      try simp only [Act.put, List.setIfInBounds_toArray, List.set_cons_zero, List.set_cons_succ]
      refine wpAnyH_take (i := 10) (oi := ?oc10) (v := ?vc10) ?hic10 (by kernel_rfl) (by kernel_rfl) (by kernel_rfl) ?hqc10 (Or.inl ⟨?hwc10, ?hyc10⟩) (by assumption) ?_
      case hic10 => (simp only [List.getElem?_toArray, List.getElem?_cons_succ, List.getElem?_cons_zero]; all_goals rfl)
      case hqc10 => exact fun _ _ _ h => h
      case hwc10 => rfl
      case hyc10 => ((intro w hSw; (try dsimp only at hSw); go_simp); all_goals (first | with_reducible rfl))
      try simp only [Act.put, List.setIfInBounds_toArray, List.set_cons_zero, List.set_cons_succ]
      refine wpAnyH_take (i := 11) (oi := ?oc11) (v := ?vc11) ?hic11 (by kernel_rfl) (by kernel_rfl) (by kernel_rfl) ?hqc11 (Or.inl ⟨?hwc11, ?hyc11⟩) (by assumption) ?_
      case hic11 => (simp only [List.getElem?_toArray, List.getElem?_cons_succ, List.getElem?_cons_zero]; all_goals rfl)
      case hqc11 => exact fun _ _ _ h => h
      case hwc11 => rfl
      case hyc11 => ((intro w hSw; (try dsimp only at hSw); go_simp); all_goals (first | with_reducible rfl))
      try simp only [Act.put, List.setIfInBounds_toArray, List.set_cons_zero, List.set_cons_succ]
      refine wpAnyH_take (i := 12) (oi := ?oc12) (v := ?vc12) ?hic12 (by kernel_rfl) (by kernel_rfl) (by kernel_rfl) ?hqc12 (Or.inl ⟨?hwc12, ?hyc12⟩) (by assumption) ?_
      case hic12 => (simp only [List.getElem?_toArray, List.getElem?_cons_succ, List.getElem?_cons_zero]; all_goals rfl)
      case hqc12 => exact fun _ _ _ h => h
      case hwc12 => rfl
      case hyc12 => ((intro w hSw; (try dsimp only at hSw); go_simp); all_goals (first | with_reducible rfl))
      try simp only [Act.put, List.setIfInBounds_toArray, List.set_cons_zero, List.set_cons_succ]
      refine wpAnyH_take (i := 13) (oi := ?oc13) (v := ?vc13) ?hic13 (by kernel_rfl) (by kernel_rfl) (by kernel_rfl) ?hqc13 (Or.inl ⟨?hwc13, ?hyc13⟩) (by assumption) ?_
      case hic13 => (simp only [List.getElem?_toArray, List.getElem?_cons_succ, List.getElem?_cons_zero]; all_goals rfl)
      case hqc13 => exact fun _ _ _ h => h
      case hwc13 => rfl
      case hyc13 => ((intro w hSw; (try dsimp only at hSw); go_simp); all_goals (first | with_reducible rfl))
      try simp only [Act.put, List.setIfInBounds_toArray, List.set_cons_zero, List.set_cons_succ]
      refine wpAnyH_take (i := 14) (oi := ?oc14) (v := ?vc14) ?hic14 (by kernel_rfl) (by kernel_rfl) (by kernel_rfl) ?hqc14 (Or.inl ⟨?hwc14, ?hyc14⟩) (by assumption) ?_
      case hic14 => (simp only [List.getElem?_toArray, List.getElem?_cons_succ, List.getElem?_cons_zero]; all_goals rfl)
      case hqc14 => exact fun _ _ _ h => h
      case hwc14 => rfl
      case hyc14 => ((intro w hSw; (try dsimp only at hSw); go_simp); all_goals (first | with_reducible rfl))
      try simp only [Act.put, List.setIfInBounds_toArray, List.set_cons_zero, List.set_cons_succ]
      refine wpAnyH_ready (rs := [15]) (by kernel_rfl) (by simp) ?_
      refine AllReadyH.cons rfl (fun K hK => ?_) AllReadyH.nil
      go_simp
      go_at_call 56
      with_reducible refine (C2.out p1).mono ?_
      rintro e p2 ⟨rfl, hb⟩
      replace HQ := Lib.hid (L6.below (w := p1) HQ.out hb (by omega))
      have s2s : p1.heap.size ≤ p2.heap.size := hb.size
      have W2 := Lib.hid (W1.out.trans (hb.mono s1s))
      have E6 := Lib.hid (rowIs_below (w := p1) E5.out hb E5.out.lt)
      have B6 := Lib.hid (B5.out.trans (hb.mono B5.out.size))
      clear hb
      go_wp2_with fail
      refine hK.out _ _ ?_ (fun hHeld => ?_)
      · exact HQ.out
      clear hK K
      try simp only [Act.put, List.setIfInBounds_toArray, List.set_cons_zero, List.set_cons_succ]
      refine wpAnyH_take (i := 16) (oi := ?oc16) (v := ?vc16) ?hic16 (by kernel_rfl) (by kernel_rfl) (by kernel_rfl) ?hqc16 (Or.inl ⟨?hwc16, ?hyc16⟩) (by assumption) ?_
      case hic16 => (simp only [List.getElem?_toArray, List.getElem?_cons_succ, List.getElem?_cons_zero]; all_goals rfl)
      case hqc16 => exact fun _ _ _ h => h
      case hwc16 => rfl
      case hyc16 => ((intro w hSw; (try dsimp only at hSw); go_simp); all_goals (first | with_reducible rfl))
      try simp only [Act.put, List.setIfInBounds_toArray, List.set_cons_zero, List.set_cons_succ]
      refine wpAnyH_take (i := 17) (oi := ?oc17) (v := ?vc17) ?hic17 (by kernel_rfl) (by kernel_rfl) (by kernel_rfl) ?hqc17 (Or.inl ⟨?hwc17, ?hyc17⟩) (by assumption) ?_
      case hic17 => (simp only [List.getElem?_toArray, List.getElem?_cons_succ, List.getElem?_cons_zero]; all_goals rfl)
      case hqc17 => exact fun _ _ _ h => h
      case hwc17 => rfl
      case hyc17 => ((intro w hSw; (try dsimp only at hSw); go_simp); all_goals (first | with_reducible rfl))
      try simp only [Act.put, List.setIfInBounds_toArray, List.set_cons_zero, List.set_cons_succ]
      refine wpAnyH_done (by kernel_rfl) ?_ _
      go_wp2_with fail
      refine (FT.out _ W2.out).mono ?_
      rintro e w4 ⟨rfl, rfl⟩
      cases ft
      · have HV : Hid (gvV M X Y ph c = (0, 0, 3)) := HV0.out.trans (by unfold gvQ; rw [if_neg NO.out, if_pos rfl])
        have BF := Lib.hid ((B6.out.setCell (p := ⟨w.heap.size + 1, 0, none⟩) (by simp) (.int .i64 0)).setCell (p := ⟨w.heap.size + 1, 1, none⟩) (by simp) (.int .i64 0))
        obtain ⟨h0, h1, h2, h3⟩ := two_cells E6.out
        obtain ⟨e0, e1, _, _⟩ := two_cells (two_set E6.out 0 0)
        go_wp2_with fail
        refine bodyPost_ret (v := .tuple #[shV 0 0, .int .i64 3]) (by simp [results, Try.results19, go_sem, e0, e1]) rfl (ShPost.mk rfl HV.out BF.out)
      · have HV1 : Hid (gvV M X Y ph c = gvP (k0 - k1) (k1 - k2)) := HV0.out.trans (by unfold gvQ; rw [if_neg NO.out, if_neg (by decide)])
        obtain ⟨f0, f1, f2⟩ := FO.out rfl
        obtain ⟨⟨k00, k01⟩, k10, k11⟩ := HK0.out
        obtain ⟨k20, k21⟩ := HK1.out
        have DF1 := Lib.hid (fun W => l19Diff_s k00 k01 k10 k11 (by omega) f0 f1 W)
        have DF2 := Lib.hid (fun W => l19Diff_s k10 k11 k20 k21 (by omega) f1 f2 W)
        have g1 := sD_sub k00 k01 k10 k11 (by omega) f0 f1
        have g2 := sD_sub k10 k11 k20 k21 (by omega) f1 f2
        obtain ⟨P, hP⟩ : ∃ P, k0 - k1 = P := ⟨_, rfl⟩
        obtain ⟨Q, hQ⟩ : ∃ Q, k1 - k2 = Q := ⟨_, rfl⟩
        rw [hP] at DF1 g1 HV1
        rw [hQ] at DF2 g2 HV1
        have P0 : 0 ≤ P := by omega
        have P1 : P ≤ SC := by omega
        have Q0 : 0 < Q := by omega
        have Q1 : Q ≤ SC := by omega
        have GP := gv_parts P0 P1 Q0 Q1 g1 g2
        obtain ⟨p, hp'⟩ : ∃ p, sN P = p := ⟨_, rfl⟩
        obtain ⟨n, hn'⟩ : ∃ n, sD P = n := ⟨_, rfl⟩
        obtain ⟨q, hq'⟩ : ∃ q, sN Q = q := ⟨_, rfl⟩
        obtain ⟨d, hd'⟩ : ∃ d, sD Q = d := ⟨_, rfl⟩
        rw [hp', hn'] at DF1
        rw [hq', hd'] at DF2
        rw [hp', hn', hq', hd'] at GP
        obtain ⟨g, N, D, hg, gn, n0, d0, t1, t2, a0, a1, b0, b1, l1, l2, l3⟩ := GP
        have HG := Lib.hid hg
        have wq1 : IntKind.i64.wrap (Int.tdiv d g) = D := by rw [t1]; exact IntWalk.i64_in _ (by omega)
        have wq2 : IntKind.i64.wrap (Int.tdiv n g) = N := by rw [t2]; exact IntWalk.i64_in _ (by omega)
        have wm1 : IntKind.i64.wrap (p * D) = p * D := IntWalk.i64_in _ (by omega)
        have wm2 : IntKind.i64.wrap (q * N) = q * N := IntWalk.i64_in _ (by omega)
        have GC := Lib.hid (fun W => l18Gcd_any n d W (by omega) (by omega))
        rw [HG.out] at GC
        obtain ⟨x, hx⟩ : ∃ x, loN P Q = x := ⟨_, rfl⟩
        obtain ⟨y, hy⟩ : ∃ y, loD P Q = y := ⟨_, rfl⟩
        obtain ⟨k, hk⟩ : ∃ k, loB P Q = k := ⟨_, rfl⟩
        have MK := Lib.hid (fun W => l18Make_any (p * D) (q * N) W a0 b0 (by omega) (by omega))
        rw [l1, l2, l3, hx, hy, hk] at MK
        have HVG : Hid (gvV M X Y ph c = if k = true ∧ x ≤ y then (x, y, 0) else (0, 0, 3)) := by
          refine Lib.hid (HV1.out.trans ?_)
          unfold gvP
          have e := lo_le P0 Q0
          rw [hx, hy] at e
          rw [hx, hy, hk]
          simp only [e]
        clear k00 k01 k10 k11 k20 k21 f0 f1 f2 g1 g2 hP hQ hp' hn' hq' hd' hg t1 t2 l1 l2 l3 hx hy hk hd1 hd2 tQ tP P0 P1 Q0 Q1 d0 n0
        go_wp2_with fail
        refine wp_region_held_drew (S := fun w' => w'.cell? ⟨gl, 0, none⟩ = some (.int .i64 (sN k0)) ∧ w'.cell? ⟨gl, 1, none⟩ = some (.int .i64 (sD k0)) ∧ w'.cell? ⟨gl, 2, none⟩ = some (.int .i64 (sN k1)) ∧ w'.cell? ⟨gl, 3, none⟩ = some (.int .i64 (sD k1)) ∧ w'.cell? ⟨gl, 4, none⟩ = some (.int .i64 (sN k2)) ∧ w'.cell? ⟨gl, 5, none⟩ = some (.int .i64 (sD k2))) (by kernel_rfl) ?_ (fun hHeld => ?_)
        · exact HQ.out
        refine wpAnyH_take (i := 0) (oi := ?ox0) (v := ?vx0) ?hix0 (by kernel_rfl) (by kernel_rfl) (by kernel_rfl) ?hqx0 (Or.inl ⟨?hwx0, ?hyx0⟩) (by assumption) ?_
        case hix0 => (simp only [List.getElem?_toArray, List.getElem?_cons_zero]; all_goals rfl)
        case hqx0 => exact fun _ _ _ h => h
        case hwx0 => rfl
        case hyx0 => ((intro w hSw; (try dsimp only at hSw); go_simp); all_goals (first | with_reducible rfl))
        try simp only [Act.put, List.setIfInBounds_toArray, List.set_cons_zero, List.set_cons_succ]
        refine wpAnyH_take (i := 1) (oi := ?ox1) (v := ?vx1) ?hix1 (by kernel_rfl) (by kernel_rfl) (by kernel_rfl) ?hqx1 (Or.inl ⟨?hwx1, ?hyx1⟩) (by assumption) ?_
        case hix1 => (simp only [List.getElem?_toArray, List.getElem?_cons_succ, List.getElem?_cons_zero]; all_goals rfl)
        case hqx1 => exact fun _ _ _ h => h
        case hwx1 => rfl
        case hyx1 => ((intro w hSw; (try dsimp only at hSw); go_simp); all_goals (first | with_reducible rfl))
        try simp only [Act.put, List.setIfInBounds_toArray, List.set_cons_zero, List.set_cons_succ]
        refine wpAnyH_take (i := 2) (oi := ?ox2) (v := ?vx2) ?hix2 (by kernel_rfl) (by kernel_rfl) (by kernel_rfl) ?hqx2 (Or.inl ⟨?hwx2, ?hyx2⟩) (by assumption) ?_
        case hix2 => (simp only [List.getElem?_toArray, List.getElem?_cons_succ, List.getElem?_cons_zero]; all_goals rfl)
        case hqx2 => exact fun _ _ _ h => h
        case hwx2 => rfl
        case hyx2 => ((intro w hSw; (try dsimp only at hSw); go_simp); all_goals (first | with_reducible rfl))
        try simp only [Act.put, List.setIfInBounds_toArray, List.set_cons_zero, List.set_cons_succ]
        refine wpAnyH_take (i := 3) (oi := ?ox3) (v := ?vx3) ?hix3 (by kernel_rfl) (by kernel_rfl) (by kernel_rfl) ?hqx3 (Or.inl ⟨?hwx3, ?hyx3⟩) (by assumption) ?_
        case hix3 => (simp only [List.getElem?_toArray, List.getElem?_cons_succ, List.getElem?_cons_zero]; all_goals rfl)
        case hqx3 => exact fun _ _ _ h => h
        case hwx3 => rfl
        case hyx3 => ((intro w hSw; (try dsimp only at hSw); go_simp); all_goals (first | with_reducible rfl))
        try simp only [Act.put, List.setIfInBounds_toArray, List.set_cons_zero, List.set_cons_succ]
        refine wpAnyH_take (i := 4) (oi := ?ox4) (v := ?vx4) ?hix4 (by kernel_rfl) (by kernel_rfl) (by kernel_rfl) ?hqx4 (Or.inl ⟨?hwx4, ?hyx4⟩) (by assumption) ?_
        case hix4 => (simp only [List.getElem?_toArray, List.getElem?_cons_succ, List.getElem?_cons_zero]; all_goals rfl)
        case hqx4 => exact fun _ _ _ h => h
        case hwx4 => rfl
        case hyx4 => ((intro w hSw; (try dsimp only at hSw); go_simp); all_goals (first | with_reducible rfl))
        try simp only [Act.put, List.setIfInBounds_toArray, List.set_cons_zero, List.set_cons_succ]
        refine wpAnyH_take (i := 5) (oi := ?ox5) (v := ?vx5) ?hix5 (by kernel_rfl) (by kernel_rfl) (by kernel_rfl) ?hqx5 (Or.inl ⟨?hwx5, ?hyx5⟩) (by assumption) ?_
        case hix5 => (simp only [List.getElem?_toArray, List.getElem?_cons_succ, List.getElem?_cons_zero]; all_goals rfl)
        case hqx5 => exact fun _ _ _ h => h
        case hwx5 => rfl
        case hyx5 => ((intro w hSw; (try dsimp only at hSw); go_simp); all_goals (first | with_reducible rfl))
        try simp only [Act.put, List.setIfInBounds_toArray, List.set_cons_zero, List.set_cons_succ]
        refine wpAnyH_ready (rs := [6]) (by kernel_rfl) (by simp) ?_
        refine AllReadyH.cons rfl (fun K hK => ?_) AllReadyH.nil
        go_simp
        go_at_call 58
        with_reducible refine (DF1.out p2.drew).mono ?_
        rintro e p3 ⟨rfl, hb⟩
        replace HQ := Lib.hid (L6.below (w := p2.drew) HQ.out hb (by show gl < p2.heap.size; omega))
        have s3s : p2.heap.size ≤ p3.heap.size := hb.size
        have E7 := Lib.hid (rowIs_below (w := p2.drew) E6.out.drew hb E6.out.lt)
        have B7 := Lib.hid (B6.out.drew.trans (hb.mono B6.out.size))
        clear hb
        go_wp2_with fail
        refine hK.out _ _ ?_ (fun hHeld => ?_)
        · exact HQ.out
        clear hK K
        try simp only [Act.put, List.setIfInBounds_toArray, List.set_cons_zero, List.set_cons_succ]
        refine wpAnyH_take (i := 7) (oi := ?ox7) (v := ?vx7) ?hix7 (by kernel_rfl) (by kernel_rfl) (by kernel_rfl) ?hqx7 (Or.inl ⟨?hwx7, ?hyx7⟩) (by assumption) ?_
        case hix7 => (simp only [List.getElem?_toArray, List.getElem?_cons_succ, List.getElem?_cons_zero]; all_goals rfl)
        case hqx7 => exact fun _ _ _ h => h
        case hwx7 => rfl
        case hyx7 => ((intro w hSw; (try dsimp only at hSw); go_simp); all_goals (first | with_reducible rfl))
        try simp only [Act.put, List.setIfInBounds_toArray, List.set_cons_zero, List.set_cons_succ]
        refine wpAnyH_take (i := 8) (oi := ?ox8) (v := ?vx8) ?hix8 (by kernel_rfl) (by kernel_rfl) (by kernel_rfl) ?hqx8 (Or.inl ⟨?hwx8, ?hyx8⟩) (by assumption) ?_
        case hix8 => (simp only [List.getElem?_toArray, List.getElem?_cons_succ, List.getElem?_cons_zero]; all_goals rfl)
        case hqx8 => exact fun _ _ _ h => h
        case hwx8 => rfl
        case hyx8 => ((intro w hSw; (try dsimp only at hSw); go_simp); all_goals (first | with_reducible rfl))
        try simp only [Act.put, List.setIfInBounds_toArray, List.set_cons_zero, List.set_cons_succ]
        refine wpAnyH_take (i := 9) (oi := ?ox9) (v := ?vx9) ?hix9 (by kernel_rfl) (by kernel_rfl) (by kernel_rfl) ?hqx9 (Or.inl ⟨?hwx9, ?hyx9⟩) (by assumption) ?_
        case hix9 => (simp only [List.getElem?_toArray, List.getElem?_cons_succ, List.getElem?_cons_zero]; all_goals rfl)
        case hqx9 => exact fun _ _ _ h => h
        case hwx9 => rfl
        case hyx9 => ((intro w hSw; (try dsimp only at hSw); go_simp); all_goals (first | with_reducible rfl))
        try simp only [Act.put, List.setIfInBounds_toArray, List.set_cons_zero, List.set_cons_succ]
        refine wpAnyH_take (i := 10) (oi := ?ox10) (v := ?vx10) ?hix10 (by kernel_rfl) (by kernel_rfl) (by kernel_rfl) ?hqx10 (Or.inl ⟨?hwx10, ?hyx10⟩) (by assumption) ?_
        case hix10 => (simp only [List.getElem?_toArray, List.getElem?_cons_succ, List.getElem?_cons_zero]; all_goals rfl)
        case hqx10 => exact fun _ _ _ h => h
        case hwx10 => rfl
        case hyx10 => ((intro w hSw; (try dsimp only at hSw); go_simp); all_goals (first | with_reducible rfl))
        try simp only [Act.put, List.setIfInBounds_toArray, List.set_cons_zero, List.set_cons_succ]
        refine wpAnyH_take (i := 11) (oi := ?ox11) (v := ?vx11) ?hix11 (by kernel_rfl) (by kernel_rfl) (by kernel_rfl) ?hqx11 (Or.inl ⟨?hwx11, ?hyx11⟩) (by assumption) ?_
        case hix11 => (simp only [List.getElem?_toArray, List.getElem?_cons_succ, List.getElem?_cons_zero]; all_goals rfl)
        case hqx11 => exact fun _ _ _ h => h
        case hwx11 => rfl
        case hyx11 => ((intro w hSw; (try dsimp only at hSw); go_simp); all_goals (first | with_reducible rfl))
        try simp only [Act.put, List.setIfInBounds_toArray, List.set_cons_zero, List.set_cons_succ]
        refine wpAnyH_done (by kernel_rfl) ?_ _
        go_wp2_with fail
        refine wp_region_held_drew (S := fun w' => w'.cell? ⟨gl, 0, none⟩ = some (.int .i64 (sN k0)) ∧ w'.cell? ⟨gl, 1, none⟩ = some (.int .i64 (sD k0)) ∧ w'.cell? ⟨gl, 2, none⟩ = some (.int .i64 (sN k1)) ∧ w'.cell? ⟨gl, 3, none⟩ = some (.int .i64 (sD k1)) ∧ w'.cell? ⟨gl, 4, none⟩ = some (.int .i64 (sN k2)) ∧ w'.cell? ⟨gl, 5, none⟩ = some (.int .i64 (sD k2))) (by kernel_rfl) ?_ (fun hHeld => ?_)
        · exact HQ.out
        refine wpAnyH_take (i := 0) (oi := ?oy0) (v := ?vy0) ?hiy0 (by kernel_rfl) (by kernel_rfl) (by kernel_rfl) ?hqy0 (Or.inl ⟨?hwy0, ?hyy0⟩) (by assumption) ?_
        case hiy0 => (simp only [List.getElem?_toArray, List.getElem?_cons_zero]; all_goals rfl)
        case hqy0 => exact fun _ _ _ h => h
        case hwy0 => rfl
        case hyy0 => ((intro w hSw; (try dsimp only at hSw); go_simp); all_goals (first | with_reducible rfl))
        try simp only [Act.put, List.setIfInBounds_toArray, List.set_cons_zero, List.set_cons_succ]
        refine wpAnyH_take (i := 1) (oi := ?oy1) (v := ?vy1) ?hiy1 (by kernel_rfl) (by kernel_rfl) (by kernel_rfl) ?hqy1 (Or.inl ⟨?hwy1, ?hyy1⟩) (by assumption) ?_
        case hiy1 => (simp only [List.getElem?_toArray, List.getElem?_cons_succ, List.getElem?_cons_zero]; all_goals rfl)
        case hqy1 => exact fun _ _ _ h => h
        case hwy1 => rfl
        case hyy1 => ((intro w hSw; (try dsimp only at hSw); go_simp); all_goals (first | with_reducible rfl))
        try simp only [Act.put, List.setIfInBounds_toArray, List.set_cons_zero, List.set_cons_succ]
        refine wpAnyH_take (i := 2) (oi := ?oy2) (v := ?vy2) ?hiy2 (by kernel_rfl) (by kernel_rfl) (by kernel_rfl) ?hqy2 (Or.inl ⟨?hwy2, ?hyy2⟩) (by assumption) ?_
        case hiy2 => (simp only [List.getElem?_toArray, List.getElem?_cons_succ, List.getElem?_cons_zero]; all_goals rfl)
        case hqy2 => exact fun _ _ _ h => h
        case hwy2 => rfl
        case hyy2 => ((intro w hSw; (try dsimp only at hSw); go_simp); all_goals (first | with_reducible rfl))
        try simp only [Act.put, List.setIfInBounds_toArray, List.set_cons_zero, List.set_cons_succ]
        refine wpAnyH_take (i := 3) (oi := ?oy3) (v := ?vy3) ?hiy3 (by kernel_rfl) (by kernel_rfl) (by kernel_rfl) ?hqy3 (Or.inl ⟨?hwy3, ?hyy3⟩) (by assumption) ?_
        case hiy3 => (simp only [List.getElem?_toArray, List.getElem?_cons_succ, List.getElem?_cons_zero]; all_goals rfl)
        case hqy3 => exact fun _ _ _ h => h
        case hwy3 => rfl
        case hyy3 => ((intro w hSw; (try dsimp only at hSw); go_simp); all_goals (first | with_reducible rfl))
        try simp only [Act.put, List.setIfInBounds_toArray, List.set_cons_zero, List.set_cons_succ]
        refine wpAnyH_take (i := 4) (oi := ?oy4) (v := ?vy4) ?hiy4 (by kernel_rfl) (by kernel_rfl) (by kernel_rfl) ?hqy4 (Or.inl ⟨?hwy4, ?hyy4⟩) (by assumption) ?_
        case hiy4 => (simp only [List.getElem?_toArray, List.getElem?_cons_succ, List.getElem?_cons_zero]; all_goals rfl)
        case hqy4 => exact fun _ _ _ h => h
        case hwy4 => rfl
        case hyy4 => ((intro w hSw; (try dsimp only at hSw); go_simp); all_goals (first | with_reducible rfl))
        try simp only [Act.put, List.setIfInBounds_toArray, List.set_cons_zero, List.set_cons_succ]
        refine wpAnyH_take (i := 5) (oi := ?oy5) (v := ?vy5) ?hiy5 (by kernel_rfl) (by kernel_rfl) (by kernel_rfl) ?hqy5 (Or.inl ⟨?hwy5, ?hyy5⟩) (by assumption) ?_
        case hiy5 => (simp only [List.getElem?_toArray, List.getElem?_cons_succ, List.getElem?_cons_zero]; all_goals rfl)
        case hqy5 => exact fun _ _ _ h => h
        case hwy5 => rfl
        case hyy5 => ((intro w hSw; (try dsimp only at hSw); go_simp); all_goals (first | with_reducible rfl))
        try simp only [Act.put, List.setIfInBounds_toArray, List.set_cons_zero, List.set_cons_succ]
        refine wpAnyH_ready (rs := [6]) (by kernel_rfl) (by simp) ?_
        refine AllReadyH.cons rfl (fun K hK => ?_) AllReadyH.nil
        go_simp
        go_at_call 58
        with_reducible refine (DF2.out p3.drew).mono ?_
        rintro e p4 ⟨rfl, hb⟩
        replace HQ := Lib.hid (L6.below (w := p3.drew) HQ.out hb (by show gl < p3.heap.size; omega))
        have s4s : p3.heap.size ≤ p4.heap.size := hb.size
        have E8 := Lib.hid (rowIs_below (w := p3.drew) E7.out.drew hb E7.out.lt)
        have B8 := Lib.hid (B7.out.drew.trans (hb.mono B7.out.size))
        clear hb
        go_wp2_with fail
        refine hK.out _ _ ?_ (fun hHeld => ?_)
        · exact HQ.out
        clear hK K
        try simp only [Act.put, List.setIfInBounds_toArray, List.set_cons_zero, List.set_cons_succ]
        refine wpAnyH_take (i := 7) (oi := ?oy7) (v := ?vy7) ?hiy7 (by kernel_rfl) (by kernel_rfl) (by kernel_rfl) ?hqy7 (Or.inl ⟨?hwy7, ?hyy7⟩) (by assumption) ?_
        case hiy7 => (simp only [List.getElem?_toArray, List.getElem?_cons_succ, List.getElem?_cons_zero]; all_goals rfl)
        case hqy7 => exact fun _ _ _ h => h
        case hwy7 => rfl
        case hyy7 => ((intro w hSw; (try dsimp only at hSw); go_simp); all_goals (first | with_reducible rfl))
        try simp only [Act.put, List.setIfInBounds_toArray, List.set_cons_zero, List.set_cons_succ]
        refine wpAnyH_take (i := 8) (oi := ?oy8) (v := ?vy8) ?hiy8 (by kernel_rfl) (by kernel_rfl) (by kernel_rfl) ?hqy8 (Or.inl ⟨?hwy8, ?hyy8⟩) (by assumption) ?_
        case hiy8 => (simp only [List.getElem?_toArray, List.getElem?_cons_succ, List.getElem?_cons_zero]; all_goals rfl)
        case hqy8 => exact fun _ _ _ h => h
        case hwy8 => rfl
        case hyy8 => ((intro w hSw; (try dsimp only at hSw); go_simp); all_goals (first | with_reducible rfl))
        try simp only [Act.put, List.setIfInBounds_toArray, List.set_cons_zero, List.set_cons_succ]
        refine wpAnyH_take (i := 9) (oi := ?oy9) (v := ?vy9) ?hiy9 (by kernel_rfl) (by kernel_rfl) (by kernel_rfl) ?hqy9 (Or.inl ⟨?hwy9, ?hyy9⟩) (by assumption) ?_
        case hiy9 => (simp only [List.getElem?_toArray, List.getElem?_cons_succ, List.getElem?_cons_zero]; all_goals rfl)
        case hqy9 => exact fun _ _ _ h => h
        case hwy9 => rfl
        case hyy9 => ((intro w hSw; (try dsimp only at hSw); go_simp); all_goals (first | with_reducible rfl))
        try simp only [Act.put, List.setIfInBounds_toArray, List.set_cons_zero, List.set_cons_succ]
        refine wpAnyH_take (i := 10) (oi := ?oy10) (v := ?vy10) ?hiy10 (by kernel_rfl) (by kernel_rfl) (by kernel_rfl) ?hqy10 (Or.inl ⟨?hwy10, ?hyy10⟩) (by assumption) ?_
        case hiy10 => (simp only [List.getElem?_toArray, List.getElem?_cons_succ, List.getElem?_cons_zero]; all_goals rfl)
        case hqy10 => exact fun _ _ _ h => h
        case hwy10 => rfl
        case hyy10 => ((intro w hSw; (try dsimp only at hSw); go_simp); all_goals (first | with_reducible rfl))
        try simp only [Act.put, List.setIfInBounds_toArray, List.set_cons_zero, List.set_cons_succ]
        refine wpAnyH_take (i := 11) (oi := ?oy11) (v := ?vy11) ?hiy11 (by kernel_rfl) (by kernel_rfl) (by kernel_rfl) ?hqy11 (Or.inl ⟨?hwy11, ?hyy11⟩) (by assumption) ?_
        case hiy11 => (simp only [List.getElem?_toArray, List.getElem?_cons_succ, List.getElem?_cons_zero]; all_goals rfl)
        case hqy11 => exact fun _ _ _ h => h
        case hwy11 => rfl
        case hyy11 => ((intro w hSw; (try dsimp only at hSw); go_simp); all_goals (first | with_reducible rfl))
        try simp only [Act.put, List.setIfInBounds_toArray, List.set_cons_zero, List.set_cons_succ]
        refine wpAnyH_done (by kernel_rfl) ?_ _
        go_wp2_with fail
        refine (GC.out _).mono ?_
        rintro e p5 ⟨rfl, rfl⟩
        go_wp2_with fail
        go_region
        go_wp2_with fail
        refine (MK.out _).mono ?_
        rintro e p6 ⟨rfl, hb⟩
        have z6 : p4.heap.size ≤ p6.heap.size := hb.size
        have B9 := Lib.hid ((B8.out.drew.trans (hb.mono B8.out.size)).alloc (Nat.le_trans B8.out.size z6) (.cells #[.int .i64 x, .int .i64 y] 30))
        have E9 := Lib.hid ((rowIs_below (w := p4.drew) E8.out.drew hb E8.out.lt).alloc (.cells #[.int .i64 x, .int .i64 y] 30))
        have X9 := Lib.hid (two_new p6 x y 30)
        clear hb
        obtain ⟨x0, x1, _, _⟩ := two_cells X9.out
        cases k
        · have HV : Hid (gvV M X Y ph c = (0, 0, 3)) := HVG.out.trans (if_neg (fun h => absurd h.1 (by decide)))
          have BF := Lib.hid ((B9.out.setCell (p := ⟨w.heap.size + 1, 0, none⟩) (by simp) (.int .i64 0)).setCell (p := ⟨w.heap.size + 1, 1, none⟩) (by simp) (.int .i64 0))
          obtain ⟨h0, h1, h2, h3⟩ := two_cells E9.out
          obtain ⟨e0, e1, _, _⟩ := two_cells (two_set E9.out 0 0)
          go_wp2_with fail
          refine bodyPost_ret (v := .tuple #[shV 0 0, .int .i64 3]) (by simp [results, Try.results19, go_sem, e0, e1]) rfl (ShPost.mk rfl HV.out BF.out)
        · by_cases hxy : x ≤ y
          · have HV : Hid (gvV M X Y ph c = (x, y, 0)) := HVG.out.trans (if_pos ⟨rfl, hxy⟩)
            have BF := Lib.hid ((B9.out.setCell (p := ⟨w.heap.size + 1, 0, none⟩) (by simp) (.int .i64 x)).setCell (p := ⟨w.heap.size + 1, 1, none⟩) (by simp) (.int .i64 y))
            obtain ⟨h0, h1, h2, h3⟩ := two_cells E9.out
            obtain ⟨e0, e1, _, _⟩ := two_cells (two_set E9.out x y)
            go_wp2_with fail
            refine bodyPost_ret (v := .tuple #[shV x y, .int .i64 0]) (by simp [results, Try.results19, go_sem, e0, e1]) rfl (ShPost.mk rfl HV.out BF.out)
          · have HV : Hid (gvV M X Y ph c = (0, 0, 3)) := HVG.out.trans (if_neg (fun h => hxy h.2))
            have BF := Lib.hid ((B9.out.setCell (p := ⟨w.heap.size + 1, 0, none⟩) (by simp) (.int .i64 0)).setCell (p := ⟨w.heap.size + 1, 1, none⟩) (by simp) (.int .i64 0))
            obtain ⟨h0, h1, h2, h3⟩ := two_cells E9.out
            obtain ⟨e0, e1, _, _⟩ := two_cells (two_set E9.out 0 0)
            go_wp2_with fail
            refine bodyPost_ret (v := .tuple #[shV 0 0, .int .i64 3]) (by simp [results, Try.results19, go_sem, e0, e1]) rfl (ShPost.mk rfl HV.out BF.out)
  · have ek : (K != 0) = true := by simpa using hk
    have HV : Hid (gvV M a b ph c = (0, 0, K)) := by
      refine Lib.hid ?_
      unfold gvV; rw [HK.out, if_neg hk]
    have BF := Lib.hid ((B1.out.setCell (p := ⟨w.heap.size + 1, 0, none⟩) (by simp) (.int .i64 0)).setCell (p := ⟨w.heap.size + 1, 1, none⟩) (by simp) (.int .i64 0))
    obtain ⟨e0, e1, _, _⟩ := two_cells (two_set E1.out 0 0)
    clear hk
    go_wp2_with fail
    refine bodyPost_ret (v := .tuple #[shV 0 0, .int .i64 K]) (by simp [results, Try.results19, go_sem, e0, e1]) rfl (ShPost.mk rfl HV.out BF.out)
end Go.Proofs.Ytkioliioakmepaa
