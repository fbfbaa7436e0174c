/-
  The walk of MatchDoublePoint of the reference (UNDER WAY: it has a hole behind the call of l19Chances).
-/
import Derived.Test.YtkioliioakmepaaMchDP
namespace Go.Proofs.Ytkioliioakmepaa
open Go.ChangeShapes Go.WideShapes Go.ChangeAt Go.RowKit
set_option linter.unusedVariables false

theorem cmpS_s {c e : Int} (c0 : 0 ≤ c) (c1 : c ≤ SC) (e0 : 0 ≤ e) (e1 : e ≤ SC) : cmpS (sN c) (sD c) (sN e) (sD e) = Int.sign (c - e) := by
  have hl := less_eq c0 c1 e0 e1
  have hD : 0 < sD c * sD e := Int.mul_pos (D2.share c0 c1).pos (D2.share e0 e1).pos
  have h1 : Int.sign ((sN c * sD e - sN e * sD c) * SC) = Int.sign ((c - e) * (sD c * sD e)) := by rw [hl]
  rw [Int.sign_mul, Int.sign_mul, Int.sign_eq_one_of_pos (show 0 < SC by decide), Int.sign_eq_one_of_pos hD, Int.mul_one, Int.mul_one] at h1
  exact h1
theorem s_inj {c e : Int} (c0 : 0 ≤ c) (c1 : c ≤ SC) (e0 : 0 ≤ e) (e1 : e ≤ SC) (h1 : sN c = sN e) (h2 : sD c = sD e) : c = e := by
  rw [← (s_facts c0 c1).2.2.2.2.2.2, ← (s_facts e0 e1).2.2.2.2.2.2, h1, h2]
theorem s_bd {c : Int} (c0 : 0 ≤ c) (c1 : c ≤ SC) : 0 ≤ sN c ∧ sN c ≤ 1000000000000000 ∧ 0 < sD c ∧ sD c ≤ 1000000000000000 := by
  have s1 : SC ≤ 1000000000000000 := by decide
  obtain ⟨_, a1, a2, a0, a3, _⟩ := s_facts c0 c1
  have := (D2.share c0 c1).pos
  omega
theorem l19Diff_s {c e : Int} (c0 : 0 ≤ c) (c1 : c ≤ SC) (e0 : 0 ≤ e) (e1 : e ≤ SC) (h : e ≤ c) (hc : sD c ≤ 1000000) (he : sD e ≤ 1000000) (W : World) :
    Calls Try.prog 58 #[shV (sN c) (sD c), shV (sN e) (sD e)] W fun e' w' => e' = .returned (.tuple #[.int .i64 (sN (c - e)), .int .i64 (sD (c - e))]) ∧ Below W.heap.size W w' := by
  have h1 := diff_s c0 c1 e0 e1
  rw [← h1.1, ← h1.2]
  obtain ⟨_, a1, a2, a0, _⟩ := s_facts c0 c1
  obtain ⟨_, b1, b2, b0, _⟩ := s_facts e0 e1
  obtain ⟨hL, _⟩ := diff_eq c0 c1 e0 e1 h
  have m (x y : Int) (x0 : 0 ≤ x) (x1 : x ≤ 1000000) (y0 : 0 ≤ y) (y1 : y ≤ 1000000) : x * y ≤ 1000000000000 := by
    have := Int.mul_le_mul x1 y1 y0 (by omega); omega
  exact l19Diff_any _ _ _ _ W (Int.mul_nonneg a1 (by omega)) (m _ _ a1 (by omega) (by omega) he) (Int.mul_nonneg b1 (by omega)) (m _ _ b1 (by omega) (by omega) hc) hL (Int.mul_pos (D2.share c0 c1).pos (D2.share e0 e1).pos) (m _ _ (by omega) hc (by omega) he)
theorem sD_sub {c e N : Int} (c0 : 0 ≤ c) (c1 : c ≤ SC) (e0 : 0 ≤ e) (e1 : e ≤ SC) (h : e ≤ c) (hc : sD c ≤ N) (he : sD e ≤ N) : sD (c - e) ≤ N := by
  have dc := D2.share c0 c1
  have de := D2.share e0 e1
  have kc := (s_facts c0 c1).2.2.2.2.2.2
  have ke := (s_facts e0 e1).2.2.2.2.2.2
  rcases Int.le_total (sD c) (sD e) with q | q
  · have g := grow_den de dc q kc
    have hm : (sN c * (sD e / sD c) - sN e) * (SC / sD e) = c - e := by rw [Int.sub_mul, g, ke]
    have := sD_le de (nn_shrink (by omega) (de.qpos D2.sc de.le) hm) hm
    omega
  · have g := grow_den dc de q ke
    have hm : (sN c - sN e * (sD c / sD e)) * (SC / sD c) = c - e := by rw [Int.sub_mul, g, kc]
    have := sD_le dc (nn_shrink (by omega) (dc.qpos D2.sc dc.le) hm) hm
    omega
/-- the eight cells of four shares -/
def L8 (w : World) (g : Nat) (a b c d e f i j : Int) : Prop := L6 w g a b c d e f ∧ w.cell? ⟨g, 6, none⟩ = some (.int .i64 i) ∧ w.cell? ⟨g, 7, none⟩ = some (.int .i64 j)
theorem L8.below {w w' : World} {g B : Nat} {a b c d e f i j : Int} (h : L8 w g a b c d e f i j) (hb : Below B w w') (hg : g < B) : L8 w' g a b c d e f i j :=
  ⟨h.1.below hb hg, (hb.cell (p := ⟨g, 6, none⟩) hg).trans h.2.1, (hb.cell (p := ⟨g, 7, none⟩) hg).trans h.2.2⟩
theorem L8.drew {w : World} {g : Nat} {a b c d e f i j : Int} (h : L8 w g a b c d e f i j) : L8 w.drew g a b c d e f i j := h
theorem L8.flat {w : World} {g : Nat} {a b c d e f i j : Int} (h : L8 w g a b c d e f i j) : w.cell? ⟨g, 0, none⟩ = some (.int .i64 a) ∧ w.cell? ⟨g, 1, none⟩ = some (.int .i64 b) ∧ w.cell? ⟨g, 2, none⟩ = some (.int .i64 c) ∧ w.cell? ⟨g, 3, none⟩ = some (.int .i64 d) ∧ w.cell? ⟨g, 4, none⟩ = some (.int .i64 e) ∧ w.cell? ⟨g, 5, none⟩ = some (.int .i64 f) ∧ w.cell? ⟨g, 6, none⟩ = some (.int .i64 i) ∧ w.cell? ⟨g, 7, none⟩ = some (.int .i64 j) :=
  ⟨h.1.1, h.1.2.1, h.1.2.2.1, h.1.2.2.2.1, h.1.2.2.2.2.1, h.1.2.2.2.2.2, h.2.1, h.2.2⟩
set_option maxHeartbeats 3200000 in
theorem spec_MatchDoublePoint_any (M : Mm) (a b ph c : Int) (w : World) (hA : M.at w w.heap.size) (hs : M.sz) :
    Calls Try.prog 43 #[M.V, .int .i64 a, .int .i64 b, .int .i64 ph, .int .i64 c] w fun e w' => ShPost (dpV M a b ph c) w e w' := by
  have hb0 := ((Below.refl w.heap.size w).alloc (Nat.le_refl _) (.cells #[.slice M.a M.n M.c, .slice M.b M.m M.d, .slice M.e M.p M.f] 26)).alloc (by simp) (.cells #[.int .i64 0, .int .i64 0] 30)
  have HB := Lib.hid hb0
  have HA := Lib.hid (hA.keep hb0)
  have rm := (three_new w (.slice M.a M.n M.c) (.slice M.b M.m M.d) (.slice M.e M.p M.f) 26).alloc (.cells #[.int .i64 0, .int .i64 0] 30)
  have r8 := two_new (w.alloc (.cells #[.slice M.a M.n M.c, .slice M.b M.m M.d, .slice M.e M.p M.f] 26)) 0 0 30
  rw [World.size_alloc] at r8
  have RM := Lib.hid rm
  have R8 := Lib.hid r8
  have GA := Lib.hid hA
  have HSZ := Lib.hid hs
  obtain ⟨K, hK⟩ : ∃ K, cdV M a b ph c = K := ⟨_, rfl⟩
  have HK := Lib.hid hK
  clear hb0 rm r8 hA hK
  go_enter Try.func43, Try.ntmps43
  go_wp2_with fail
  refine (l19Code_any M a b ph c _ (HA.out.more HB.out.size) hs K HK.out).mono ?_
  rintro e w1 ⟨rfl, hb1⟩
  have z1 := hb1.size
  simp only [World.size_alloc] at z1
  have B1 := Lib.hid (HB.out.trans (hb1.mono HB.out.size))
  have A1 := Lib.hid (HA.out.keep (hb1.mono HB.out.size))
  have M1 := Lib.hid (rowIs_below RM.out hb1 RM.out.lt)
  have E1 := Lib.hid (rowIs_below R8.out hb1 R8.out.lt)
  obtain ⟨h0, h1, h2, h3⟩ := two_cells E1.out
  obtain ⟨m0, m1, m2⟩ := three_cells M1.out
  clear hb1
  by_cases hk : K = 0
  · subst hk
    obtain ⟨kg, ks, kc, ka, kb⟩ := cdV_out HK.out
    obtain ⟨⟨a0, a9⟩, ⟨b0, b9⟩, ab, p0, p2⟩ := stB_out ks
    obtain ⟨c1, c64⟩ := pwB_pos kc
    obtain ⟨X, rfl⟩ := Int.eq_ofNat_of_zero_le a0
    obtain ⟨Y, rfl⟩ := Int.eq_ofNat_of_zero_le b0
    have hM := Mm.good_ok kg GA.out
    have HMV : Hid (dpV M X Y ph c = dpR (M.afK X Y ph [c, -c, 2 * c, -(2 * c)] 4)) := by
      refine Lib.hid ?_
      unfold dpV; rw [if_pos HK.out]; rfl
    have hX0 : 0 < X := by omega
    have hY0 : 0 < Y := by omega
    have LC := Lib.hid (fun (W : World) (A : Option Addr) (hAt : M.at W W.heap.size) (hP : Ints W W.heap.size .i64 A 4 [c, -c, 2 * c, -(2 * c)]) => l19Chances_any M X Y ph A 4 4 [c, -c, 2 * c, -(2 * c)] W hAt HSZ.out kg ks hX0 hY0 hP (by omega) (fun i hi => by
      match i, hi with
      | 0, _ => show ¬ c = 0 ∧ -1000 ≤ c ∧ c ≤ 1000; omega
      | 1, _ => show ¬ -c = 0 ∧ -1000 ≤ -c ∧ -c ≤ 1000; omega
      | 2, _ => show ¬ 2 * c = 0 ∧ -1000 ≤ 2 * c ∧ 2 * c ≤ 1000; omega
      | 3, _ => show ¬ -(2 * c) = 0 ∧ -1000 ≤ -(2 * c) ∧ -(2 * c) ≤ 1000; omega))
    have hx2 : -2 * c = -(2 * c) := by omega
    clear kg ks kc ka kb h0 h1 h2 h3
    go_wp2_with fail
    have IN := Lib.hid (ints_new4 w1 c (-c) (2 * c) (-(2 * c)))
    have A2 := Lib.hid (A1.out.keep ((Below.refl w.heap.size w1).alloc (by omega) (.cells #[.int .i64 c, .int .i64 (-c), .int .i64 (2 * c), .int .i64 (-(2 * c))] 2)))
    have B2 := Lib.hid (B1.out.alloc B1.out.size (.cells #[.int .i64 c, .int .i64 (-c), .int .i64 (2 * c), .int .i64 (-(2 * c))] 2))
    have E2 := Lib.hid (E1.out.alloc (.cells #[.int .i64 c, .int .i64 (-c), .int .i64 (2 * c), .int .i64 (-(2 * c))] 2))
    refine (LC.out _ _ (A2.out.more (by simp; omega)) (IN.out.more (by simp))).mono ?_
    rintro e w2 ⟨v, ok, rfl, hb2, hyes, hno⟩
    have z2 := hb2.size
    simp only [World.size_alloc] at z2
    have B3 := Lib.hid (B2.out.trans (hb2.mono B2.out.size))
    have E3 := Lib.hid (rowIs_below E2.out hb2 E2.out.lt)
    have HYES := Lib.hid hyes
    have HNO := Lib.hid hno
    obtain ⟨h0, h1, h2, h3⟩ := two_cells E3.out
    clear hb2 hyes hno m0 m1 m2
    cases ok
    · have HV : Hid (dpV M X Y ph c = (0, 0, 3)) := by
        refine Lib.hid ?_
        rw [HMV.out, HNO.out rfl]; rfl
      have BF := Lib.hid ((B3.out.setCell (p := ⟨w.heap.size + 1, 0, none⟩) (by simp) (.int .i64 0)).setCell (p := ⟨w.heap.size + 1, 1, none⟩) (by simp) (.int .i64 0))
      obtain ⟨e0, e1, _, _⟩ := two_cells (two_set E3.out 0 0)
      go_wp2_with fail
      refine bodyPost_ret (v := .tuple #[shV 0 0, .int .i64 3]) (by simp [results, Try.results43, go_sem, e0, e1]) rfl (ShPost.mk rfl HV.out BF.out)
    · obtain ⟨xs, lo, hafk, hgs, hlo⟩ := HYES.out rfl
      obtain ⟨k0, k1, k2, k3, rfl, ⟨k00, k01⟩, ⟨k10, k11⟩, ⟨k20, k21⟩, k30, k31⟩ := Mm.afK4 hM hafk
      obtain ⟨al, cl, rfl, hrow⟩ := hgs.row
      have hints := hrow.ints rfl
      obtain ⟨gl, rfl, gl1, gl2, gl3, hcs⟩ := hrow.blk (by omega)
      have HV0 : Hid (dpV M X Y ph c = dpQ (k2 - k0) (k1 - k3) (fitsB [sN k0, sD k0, sN k1, sD k1, sN k2, sD k2, sN k3, sD k3] 4)) := by
        refine Lib.hid ?_
        rw [HMV.out, hafk]
        show dpQ (sN k2 * (SC / sD k2) - sN k0 * (SC / sD k0)) (sN k1 * (SC / sD k1) - sN k3 * (SC / sD k3)) _ = _
        rw [(s_facts k00 k01).2.2.2.2.2.2, (s_facts k10 k11).2.2.2.2.2.2, (s_facts k20 k21).2.2.2.2.2.2, (s_facts k30 k31).2.2.2.2.2.2]
      have FT := Lib.hid (fun (W : World) (hb : Below w2.heap.size w2 W) => l19Fits_any (some ⟨gl, 0, none⟩) 4 cl [sN k0, sD k0, sN k1, sD k1, sN k2, sD k2, sN k3, sD k3] w2.heap.size W (hints.below hb) (by omega) (by omega))
      obtain ⟨ft, hft⟩ : ∃ ft, fitsB [sN k0, sD k0, sN k1, sD k1, sN k2, sD k2, sN k3, sD k3] 4 = ft := ⟨_, rfl⟩
      rw [hft] at FT HV0
      have FO : Hid (ft = true → sD k0 ≤ 1000000 ∧ sD k1 ≤ 1000000 ∧ sD k2 ≤ 1000000 ∧ sD k3 ≤ 1000000) := by
        refine Lib.hid (fun h => ?_)
        rw [h] at hft
        simp [fitsB] at hft
        omega
      have q0 := (hcs 0 (by omega)).1
      have q1 := (hcs 1 (by omega)).1
      have q2 := (hcs 2 (by omega)).1
      have q3 := (hcs 3 (by omega)).1
      have q4 := (hcs 4 (by omega)).1
      have q5 := (hcs 5 (by omega)).1
      have q6 := (hcs 6 (by omega)).1
      have q7 := (hcs 7 (by omega)).1
      simp only [icell, List.getD_cons_zero, List.getD_cons_succ] at q0 q1 q2 q3 q4 q5 q6 q7
      have HQ := Lib.hid (show L8 w2 gl (sN k0) (sD k0) (sN k1) (sD k1) (sN k2) (sD k2) (sN k3) (sD k3) from ⟨⟨q0, q1, q2, q3, q4, q5⟩, q6, q7⟩)
      obtain ⟨u0, u1, u2, u3⟩ := s_bd k00 k01
      obtain ⟨v0, v1, v2, v3⟩ := s_bd k10 k11
      obtain ⟨x0, x1, x2, x3⟩ := s_bd k20 k21
      obtain ⟨y0, y1, y2, y3⟩ := s_bd k30 k31
      have C1 := Lib.hid (fun W => l18Compare_any (sN k0) (sD k0) (sN k2) (sD k2) W u0 u1 u2 u3 x0 x1 x2 x3)
      have C2 := Lib.hid (fun W => l18Compare_any (sN k3) (sD k3) (sN k1) (sD k1) W y0 y1 y2 y3 v0 v1 v2 v3)
      rw [cmpS_s k00 k01 k20 k21] at C1
      rw [cmpS_s k30 k31 k10 k11] at C2
      obtain ⟨s1, hs1⟩ : ∃ s, Int.sign (k0 - k2) = s := ⟨_, rfl⟩
      obtain ⟨s2, hs2⟩ : ∃ s, Int.sign (k3 - k1) = s := ⟨_, rfl⟩
      rw [hs1] at C1
      rw [hs2] at C2
      have E4 := Lib.hid E3.out.drew
      have B4 := Lib.hid B3.out.drew
      have hgl3 : gl < w2.heap.size := gl3
      have HI := Lib.hid (And.intro (s_inj k00 k01 k20 k21) (s_inj k10 k11 k30 k31))
      have HK0 := Lib.hid (And.intro (And.intro k00 k01) (And.intro k10 k11))
      have HK1 := Lib.hid (And.intro (And.intro k20 k21) (And.intro k30 k31))
      have HW2 := Lib.hid (Below.refl w2.heap.size w2).drew
      clear hcs hrow hgs hafk hft hints q0 q1 q2 q3 q4 q5 q6 q7 hx2 k00 k01 k10 k11 k20 k21 k30 k31 u0 u1 u2 u3 v0 v1 v2 v3 x0 x1 x2 x3 y0 y1 y2 y3
      by_cases tG : k2 < k0
      · have HV : Hid (dpV M X Y ph c = (0, 0, 5)) := HV0.out.trans (if_pos (.inl (by omega)))
        obtain rfl : s1 = 1 := by rw [← hs1]; exact Int.sign_eq_one_of_pos (by omega)
        clear hs1 hs2
        go_wp2_with fail
        refine wp_region_held_drew (S := fun w' => w'.cell? ⟨gl, 0, none⟩ = some (.int .i64 (sN k0)) ∧ w'.cell? ⟨gl, 1, none⟩ = some (.int .i64 (sD k0)) ∧ w'.cell? ⟨gl, 2, none⟩ = some (.int .i64 (sN k1)) ∧ w'.cell? ⟨gl, 3, none⟩ = some (.int .i64 (sD k1)) ∧ w'.cell? ⟨gl, 4, none⟩ = some (.int .i64 (sN k2)) ∧ w'.cell? ⟨gl, 5, none⟩ = some (.int .i64 (sD k2)) ∧ w'.cell? ⟨gl, 6, none⟩ = some (.int .i64 (sN k3)) ∧ w'.cell? ⟨gl, 7, none⟩ = some (.int .i64 (sD k3))) (by kernel_rfl) ?_ (fun hHeld => ?_)
        · exact HQ.out.flat
        refine wpAnyH_take (i := 0) (oi := ?oa0) (v := ?va0) ?hia0 (by kernel_rfl) (by kernel_rfl) (by kernel_rfl) ?hqa0 (Or.inl ⟨?hwa0, ?hya0⟩) (by assumption) ?_
        case hia0 => (simp only [List.getElem?_toArray, List.getElem?_cons_zero]; all_goals rfl)
        case hqa0 => exact fun _ _ _ h => h
        case hwa0 => rfl
        case hya0 => ((intro w hSw; (try dsimp only at hSw); go_simp); all_goals (first | with_reducible rfl))
        try simp only [Act.put, List.setIfInBounds_toArray, List.set_cons_zero, List.set_cons_succ]
        refine wpAnyH_take (i := 1) (oi := ?oa1) (v := ?va1) ?hia1 (by kernel_rfl) (by kernel_rfl) (by kernel_rfl) ?hqa1 (Or.inl ⟨?hwa1, ?hya1⟩) (by assumption) ?_
        case hia1 => (simp only [List.getElem?_toArray, List.getElem?_cons_succ, List.getElem?_cons_zero]; all_goals rfl)
        case hqa1 => exact fun _ _ _ h => h
        case hwa1 => rfl
        case hya1 => ((intro w hSw; (try dsimp only at hSw); go_simp); all_goals (first | with_reducible rfl))
        try simp only [Act.put, List.setIfInBounds_toArray, List.set_cons_zero, List.set_cons_succ]
        refine wpAnyH_take (i := 2) (oi := ?oa2) (v := ?va2) ?hia2 (by kernel_rfl) (by kernel_rfl) (by kernel_rfl) ?hqa2 (Or.inl ⟨?hwa2, ?hya2⟩) (by assumption) ?_
        case hia2 => (simp only [List.getElem?_toArray, List.getElem?_cons_succ, List.getElem?_cons_zero]; all_goals rfl)
        case hqa2 => exact fun _ _ _ h => h
        case hwa2 => rfl
        case hya2 => ((intro w hSw; (try dsimp only at hSw); go_simp); all_goals (first | with_reducible rfl))
        try simp only [Act.put, List.setIfInBounds_toArray, List.set_cons_zero, List.set_cons_succ]
        refine wpAnyH_take (i := 3) (oi := ?oa3) (v := ?va3) ?hia3 (by kernel_rfl) (by kernel_rfl) (by kernel_rfl) ?hqa3 (Or.inl ⟨?hwa3, ?hya3⟩) (by assumption) ?_
        case hia3 => (simp only [List.getElem?_toArray, List.getElem?_cons_succ, List.getElem?_cons_zero]; all_goals rfl)
        case hqa3 => exact fun _ _ _ h => h
        case hwa3 => rfl
        case hya3 => ((intro w hSw; (try dsimp only at hSw); go_simp); all_goals (first | with_reducible rfl))
        try simp only [Act.put, List.setIfInBounds_toArray, List.set_cons_zero, List.set_cons_succ]
        refine wpAnyH_take (i := 4) (oi := ?oa4) (v := ?va4) ?hia4 (by kernel_rfl) (by kernel_rfl) (by kernel_rfl) ?hqa4 (Or.inl ⟨?hwa4, ?hya4⟩) (by assumption) ?_
        case hia4 => (simp only [List.getElem?_toArray, List.getElem?_cons_succ, List.getElem?_cons_zero]; all_goals rfl)
        case hqa4 => exact fun _ _ _ h => h
        case hwa4 => rfl
        case hya4 => ((intro w hSw; (try dsimp only at hSw); go_simp); all_goals (first | with_reducible rfl))
        try simp only [Act.put, List.setIfInBounds_toArray, List.set_cons_zero, List.set_cons_succ]
        refine wpAnyH_take (i := 5) (oi := ?oa5) (v := ?va5) ?hia5 (by kernel_rfl) (by kernel_rfl) (by kernel_rfl) ?hqa5 (Or.inl ⟨?hwa5, ?hya5⟩) (by assumption) ?_
        case hia5 => (simp only [List.getElem?_toArray, List.getElem?_cons_succ, List.getElem?_cons_zero]; all_goals rfl)
        case hqa5 => exact fun _ _ _ h => h
        case hwa5 => rfl
        case hya5 => ((intro w hSw; (try dsimp only at hSw); go_simp); all_goals (first | with_reducible rfl))
        try simp only [Act.put, List.setIfInBounds_toArray, List.set_cons_zero, List.set_cons_succ]
        refine wpAnyH_ready (rs := [6]) (by kernel_rfl) (by simp) ?_
        refine AllReadyH.cons rfl (fun K hK => ?_) AllReadyH.nil
        go_simp
        go_at_call 56
        with_reducible refine (C1.out w2.drew).mono ?_
        rintro e p1 ⟨rfl, hb⟩
        replace HQ := Lib.hid (L8.below (w := w2.drew) HQ.out hb hgl3)
        have s1s : w2.heap.size ≤ p1.heap.size := hb.size
        have W1 := Lib.hid (HW2.out.trans (hb.mono (Nat.le_refl _)))
        have E5 := Lib.hid (rowIs_below (w := w2.drew) E4.out hb E4.out.lt)
        have B5 := Lib.hid (B4.out.trans (hb.mono B4.out.size))
        clear hb
        go_wp2_with fail
        refine hK.out _ _ ?_ (fun hHeld => ?_)
        · exact HQ.out.flat
        clear hK K
        try simp only [Act.put, List.setIfInBounds_toArray, List.set_cons_zero, List.set_cons_succ]
        refine wpAnyH_take (i := 7) (oi := ?oa7) (v := ?va7) ?hia7 (by kernel_rfl) (by kernel_rfl) (by kernel_rfl) ?hqa7 (Or.inl ⟨?hwa7, ?hya7⟩) (by assumption) ?_
        case hia7 => (simp only [List.getElem?_toArray, List.getElem?_cons_succ, List.getElem?_cons_zero]; all_goals rfl)
        case hqa7 => exact fun _ _ _ h => h
        case hwa7 => rfl
        case hya7 => ((intro w hSw; (try dsimp only at hSw); go_simp); all_goals (first | with_reducible rfl))
        try simp only [Act.put, List.setIfInBounds_toArray, List.set_cons_zero, List.set_cons_succ]
        refine wpAnyH_take (i := 8) (oi := ?oa8) (v := ?va8) ?hia8 (by kernel_rfl) (by kernel_rfl) (by kernel_rfl) ?hqa8 (Or.inl ⟨?hwa8, ?hya8⟩) (by assumption) ?_
        case hia8 => (simp only [List.getElem?_toArray, List.getElem?_cons_succ, List.getElem?_cons_zero]; all_goals rfl)
        case hqa8 => exact fun _ _ _ h => h
        case hwa8 => rfl
        case hya8 => ((intro w hSw; (try dsimp only at hSw); go_simp); all_goals (first | with_reducible rfl))
        try simp only [Act.put, List.setIfInBounds_toArray, List.set_cons_zero, List.set_cons_succ]
        refine wpAnyH_take (i := 9) (oi := ?oa9) (v := undef) ?hia9 (by kernel_rfl) (by kernel_rfl) (by kernel_rfl) ?hqa9 (Or.inr ⟨?hwa9, ?hva9⟩) (by assumption) ?_
        case hia9 => (simp only [List.getElem?_toArray, List.getElem?_cons_succ, List.getElem?_cons_zero]; all_goals rfl)
        case hqa9 => exact fun _ _ _ h => h
        case hwa9 => rfl
        case hva9 => rfl
        try simp only [Act.put, List.setIfInBounds_toArray, List.set_cons_zero, List.set_cons_succ]
        refine wpAnyH_take (i := 10) (oi := ?oa10) (v := undef) ?hia10 (by kernel_rfl) (by kernel_rfl) (by kernel_rfl) ?hqa10 (Or.inr ⟨?hwa10, ?hva10⟩) (by assumption) ?_
        case hia10 => (simp only [List.getElem?_toArray, List.getElem?_cons_succ, List.getElem?_cons_zero]; all_goals rfl)
        case hqa10 => exact fun _ _ _ h => h
        case hwa10 => rfl
        case hva10 => rfl
        try simp only [Act.put, List.setIfInBounds_toArray, List.set_cons_zero, List.set_cons_succ]
        refine wpAnyH_take (i := 11) (oi := ?oa11) (v := undef) ?hia11 (by kernel_rfl) (by kernel_rfl) (by kernel_rfl) ?hqa11 (Or.inr ⟨?hwa11, ?hva11⟩) (by assumption) ?_
        case hia11 => (simp only [List.getElem?_toArray, List.getElem?_cons_succ, List.getElem?_cons_zero]; all_goals rfl)
        case hqa11 => exact fun _ _ _ h => h
        case hwa11 => rfl
        case hva11 => rfl
        try simp only [Act.put, List.setIfInBounds_toArray, List.set_cons_zero, List.set_cons_succ]
        refine wpAnyH_take (i := 12) (oi := ?oa12) (v := undef) ?hia12 (by kernel_rfl) (by kernel_rfl) (by kernel_rfl) ?hqa12 (Or.inr ⟨?hwa12, ?hva12⟩) (by assumption) ?_
        case hia12 => (simp only [List.getElem?_toArray, List.getElem?_cons_succ, List.getElem?_cons_zero]; all_goals rfl)
        case hqa12 => exact fun _ _ _ h => h
        case hwa12 => rfl
        case hva12 => rfl
        try simp only [Act.put, List.setIfInBounds_toArray, List.set_cons_zero, List.set_cons_succ]
        refine wpAnyH_take (i := 13) (oi := ?oa13) (v := undef) ?hia13 (by kernel_rfl) (by kernel_rfl) (by kernel_rfl) ?hqa13 (Or.inr ⟨?hwa13, ?hva13⟩) (by assumption) ?_
        case hia13 => (simp only [List.getElem?_toArray, List.getElem?_cons_succ, List.getElem?_cons_zero]; all_goals rfl)
        case hqa13 => exact fun _ _ _ h => h
        case hwa13 => rfl
        case hva13 => rfl
        try simp only [Act.put, List.setIfInBounds_toArray, List.set_cons_zero, List.set_cons_succ]
        refine wpAnyH_take (i := 14) (oi := ?oa14) (v := undef) ?hia14 (by kernel_rfl) (by kernel_rfl) (by kernel_rfl) ?hqa14 (Or.inr ⟨?hwa14, ?hva14⟩) (by assumption) ?_
        case hia14 => (simp only [List.getElem?_toArray, List.getElem?_cons_succ, List.getElem?_cons_zero]; all_goals rfl)
        case hqa14 => exact fun _ _ _ h => h
        case hwa14 => rfl
        case hva14 => rfl
        try simp only [Act.put, List.setIfInBounds_toArray, List.set_cons_zero, List.set_cons_succ]
        refine wpAnyH_take (i := 15) (oi := ?oa15) (v := undef) ?hia15 (by kernel_rfl) (by kernel_rfl) (by kernel_rfl) ?hqa15 (Or.inr ⟨?hwa15, ?hva15⟩) (by assumption) ?_
        case hia15 => (simp only [List.getElem?_toArray, List.getElem?_cons_succ, List.getElem?_cons_zero]; all_goals rfl)
        case hqa15 => exact fun _ _ _ h => h
        case hwa15 => rfl
        case hva15 => rfl
        try simp only [Act.put, List.setIfInBounds_toArray, List.set_cons_zero, List.set_cons_succ]
        refine wpAnyH_take (i := 16) (oi := ?oa16) (v := undef) ?hia16 (by kernel_rfl) (by kernel_rfl) (by kernel_rfl) ?hqa16 (Or.inr ⟨?hwa16, ?hva16⟩) (by assumption) ?_
        case hia16 => (simp only [List.getElem?_toArray, List.getElem?_cons_succ, List.getElem?_cons_zero]; all_goals rfl)
        case hqa16 => exact fun _ _ _ h => h
        case hwa16 => rfl
        case hva16 => rfl
        try simp only [Act.put, List.setIfInBounds_toArray, List.set_cons_zero, List.set_cons_succ]
        refine wpAnyH_take (i := 17) (oi := ?oa17) (v := ?va17) ?hia17 (by kernel_rfl) (by kernel_rfl) (by kernel_rfl) ?hqa17 (Or.inl ⟨?hwa17, ?hya17⟩) (by assumption) ?_
        case hia17 => (simp only [List.getElem?_toArray, List.getElem?_cons_succ, List.getElem?_cons_zero]; all_goals rfl)
        case hqa17 => exact fun _ _ _ h => h
        case hwa17 => rfl
        case hya17 => ((intro w hSw; (try dsimp only at hSw); go_simp); all_goals (first | with_reducible rfl))
        try simp only [Act.put, List.setIfInBounds_toArray, List.set_cons_zero, List.set_cons_succ]
        refine wpAnyH_take (i := 18) (oi := ?oa18) (v := ?va18) ?hia18 (by kernel_rfl) (by kernel_rfl) (by kernel_rfl) ?hqa18 (Or.inl ⟨?hwa18, ?hya18⟩) (by assumption) ?_
        case hia18 => (simp only [List.getElem?_toArray, List.getElem?_cons_succ, List.getElem?_cons_zero]; all_goals rfl)
        case hqa18 => exact fun _ _ _ h => h
        case hwa18 => rfl
        case hya18 => ((intro w hSw; (try dsimp only at hSw); go_simp); all_goals (first | with_reducible rfl))
        try simp only [Act.put, List.setIfInBounds_toArray, List.set_cons_zero, List.set_cons_succ]
        refine wpAnyH_take (i := 19) (oi := ?oa19) (v := undef) ?hia19 (by kernel_rfl) (by kernel_rfl) (by kernel_rfl) ?hqa19 (Or.inr ⟨?hwa19, ?hva19⟩) (by assumption) ?_
        case hia19 => (simp only [List.getElem?_toArray, List.getElem?_cons_succ, List.getElem?_cons_zero]; all_goals rfl)
        case hqa19 => exact fun _ _ _ h => h
        case hwa19 => rfl
        case hva19 => rfl
        try simp only [Act.put, List.setIfInBounds_toArray, List.set_cons_zero, List.set_cons_succ]
        refine wpAnyH_take (i := 20) (oi := ?oa20) (v := undef) ?hia20 (by kernel_rfl) (by kernel_rfl) (by kernel_rfl) ?hqa20 (Or.inr ⟨?hwa20, ?hva20⟩) (by assumption) ?_
        case hia20 => (simp only [List.getElem?_toArray, List.getElem?_cons_succ, List.getElem?_cons_zero]; all_goals rfl)
        case hqa20 => exact fun _ _ _ h => h
        case hwa20 => rfl
        case hva20 => rfl
        try simp only [Act.put, List.setIfInBounds_toArray, List.set_cons_zero, List.set_cons_succ]
        refine wpAnyH_take (i := 21) (oi := ?oa21) (v := undef) ?hia21 (by kernel_rfl) (by kernel_rfl) (by kernel_rfl) ?hqa21 (Or.inr ⟨?hwa21, ?hva21⟩) (by assumption) ?_
        case hia21 => (simp only [List.getElem?_toArray, List.getElem?_cons_succ, List.getElem?_cons_zero]; all_goals rfl)
        case hqa21 => exact fun _ _ _ h => h
        case hwa21 => rfl
        case hva21 => rfl
        try simp only [Act.put, List.setIfInBounds_toArray, List.set_cons_zero, List.set_cons_succ]
        refine wpAnyH_take (i := 22) (oi := ?oa22) (v := undef) ?hia22 (by kernel_rfl) (by kernel_rfl) (by kernel_rfl) ?hqa22 (Or.inr ⟨?hwa22, ?hva22⟩) (by assumption) ?_
        case hia22 => (simp only [List.getElem?_toArray, List.getElem?_cons_succ, List.getElem?_cons_zero]; all_goals rfl)
        case hqa22 => exact fun _ _ _ h => h
        case hwa22 => rfl
        case hva22 => rfl
        try simp only [Act.put, List.setIfInBounds_toArray, List.set_cons_zero, List.set_cons_succ]
        refine wpAnyH_take (i := 23) (oi := ?oa23) (v := undef) ?hia23 (by kernel_rfl) (by kernel_rfl) (by kernel_rfl) ?hqa23 (Or.inr ⟨?hwa23, ?hva23⟩) (by assumption) ?_
        case hia23 => (simp only [List.getElem?_toArray, List.getElem?_cons_succ, List.getElem?_cons_zero]; all_goals rfl)
        case hqa23 => exact fun _ _ _ h => h
        case hwa23 => rfl
        case hva23 => rfl
        try simp only [Act.put, List.setIfInBounds_toArray, List.set_cons_zero, List.set_cons_succ]
        refine wpAnyH_take (i := 24) (oi := ?oa24) (v := undef) ?hia24 (by kernel_rfl) (by kernel_rfl) (by kernel_rfl) ?hqa24 (Or.inr ⟨?hwa24, ?hva24⟩) (by assumption) ?_
        case hia24 => (simp only [List.getElem?_toArray, List.getElem?_cons_succ, List.getElem?_cons_zero]; all_goals rfl)
        case hqa24 => exact fun _ _ _ h => h
        case hwa24 => rfl
        case hva24 => rfl
        try simp only [Act.put, List.setIfInBounds_toArray, List.set_cons_zero, List.set_cons_succ]
        refine wpAnyH_take (i := 25) (oi := ?oa25) (v := undef) ?hia25 (by kernel_rfl) (by kernel_rfl) (by kernel_rfl) ?hqa25 (Or.inr ⟨?hwa25, ?hva25⟩) (by assumption) ?_
        case hia25 => (simp only [List.getElem?_toArray, List.getElem?_cons_succ, List.getElem?_cons_zero]; all_goals rfl)
        case hqa25 => exact fun _ _ _ h => h
        case hwa25 => rfl
        case hva25 => rfl
        try simp only [Act.put, List.setIfInBounds_toArray, List.set_cons_zero, List.set_cons_succ]
        refine wpAnyH_take (i := 26) (oi := ?oa26) (v := undef) ?hia26 (by kernel_rfl) (by kernel_rfl) (by kernel_rfl) ?hqa26 (Or.inr ⟨?hwa26, ?hva26⟩) (by assumption) ?_
        case hia26 => (simp only [List.getElem?_toArray, List.getElem?_cons_succ, List.getElem?_cons_zero]; all_goals rfl)
        case hqa26 => exact fun _ _ _ h => h
        case hwa26 => rfl
        case hva26 => rfl
        try simp only [Act.put, List.setIfInBounds_toArray, List.set_cons_zero, List.set_cons_succ]
        refine wpAnyH_take (i := 27) (oi := ?oa27) (v := undef) ?hia27 (by kernel_rfl) (by kernel_rfl) (by kernel_rfl) ?hqa27 (Or.inr ⟨?hwa27, ?hva27⟩) (by assumption) ?_
        case hia27 => (simp only [List.getElem?_toArray, List.getElem?_cons_succ, List.getElem?_cons_zero]; all_goals rfl)
        case hqa27 => exact fun _ _ _ h => h
        case hwa27 => rfl
        case hva27 => rfl
        try simp only [Act.put, List.setIfInBounds_toArray, List.set_cons_zero, List.set_cons_succ]
        refine wpAnyH_take (i := 28) (oi := ?oa28) (v := undef) ?hia28 (by kernel_rfl) (by kernel_rfl) (by kernel_rfl) ?hqa28 (Or.inr ⟨?hwa28, ?hva28⟩) (by assumption) ?_
        case hia28 => (simp only [List.getElem?_toArray, List.getElem?_cons_succ, List.getElem?_cons_zero]; all_goals rfl)
        case hqa28 => exact fun _ _ _ h => h
        case hwa28 => rfl
        case hva28 => rfl
        try simp only [Act.put, List.setIfInBounds_toArray, List.set_cons_zero, List.set_cons_succ]
        refine wpAnyH_take (i := 29) (oi := ?oa29) (v := undef) ?hia29 (by kernel_rfl) (by kernel_rfl) (by kernel_rfl) ?hqa29 (Or.inr ⟨?hwa29, ?hva29⟩) (by assumption) ?_
        case hia29 => (simp only [List.getElem?_toArray, List.getElem?_cons_succ, List.getElem?_cons_zero]; all_goals rfl)
        case hqa29 => exact fun _ _ _ h => h
        case hwa29 => rfl
        case hva29 => rfl
        try simp only [Act.put, List.setIfInBounds_toArray, List.set_cons_zero, List.set_cons_succ]
        refine wpAnyH_take (i := 30) (oi := ?oa30) (v := undef) ?hia30 (by kernel_rfl) (by kernel_rfl) (by kernel_rfl) ?hqa30 (Or.inr ⟨?hwa30, ?hva30⟩) (by assumption) ?_
        case hia30 => (simp only [List.getElem?_toArray, List.getElem?_cons_succ, List.getElem?_cons_zero]; all_goals rfl)
        case hqa30 => exact fun _ _ _ h => h
        case hwa30 => rfl
        case hva30 => rfl
        try simp only [Act.put, List.setIfInBounds_toArray, List.set_cons_zero, List.set_cons_succ]
        refine wpAnyH_take (i := 31) (oi := ?oa31) (v := undef) ?hia31 (by kernel_rfl) (by kernel_rfl) (by kernel_rfl) ?hqa31 (Or.inr ⟨?hwa31, ?hva31⟩) (by assumption) ?_
        case hia31 => (simp only [List.getElem?_toArray, List.getElem?_cons_succ, List.getElem?_cons_zero]; all_goals rfl)
        case hqa31 => exact fun _ _ _ h => h
        case hwa31 => rfl
        case hva31 => rfl
        try simp only [Act.put, List.setIfInBounds_toArray, List.set_cons_zero, List.set_cons_succ]
        refine wpAnyH_take (i := 32) (oi := ?oa32) (v := undef) ?hia32 (by kernel_rfl) (by kernel_rfl) (by kernel_rfl) ?hqa32 (Or.inr ⟨?hwa32, ?hva32⟩) (by assumption) ?_
        case hia32 => (simp only [List.getElem?_toArray, List.getElem?_cons_succ, List.getElem?_cons_zero]; all_goals rfl)
        case hqa32 => exact fun _ _ _ h => h
        case hwa32 => rfl
        case hva32 => rfl
        try simp only [Act.put, List.setIfInBounds_toArray, List.set_cons_zero, List.set_cons_succ]
        refine wpAnyH_take (i := 33) (oi := ?oa33) (v := undef) ?hia33 (by kernel_rfl) (by kernel_rfl) (by kernel_rfl) ?hqa33 (Or.inr ⟨?hwa33, ?hva33⟩) (by assumption) ?_
        case hia33 => (simp only [List.getElem?_toArray, List.getElem?_cons_succ, List.getElem?_cons_zero]; all_goals rfl)
        case hqa33 => exact fun _ _ _ h => h
        case hwa33 => rfl
        case hva33 => rfl
        try simp only [Act.put, List.setIfInBounds_toArray, List.set_cons_zero, List.set_cons_succ]
        refine wpAnyH_take (i := 34) (oi := ?oa34) (v := undef) ?hia34 (by kernel_rfl) (by kernel_rfl) (by kernel_rfl) ?hqa34 (Or.inr ⟨?hwa34, ?hva34⟩) (by assumption) ?_
        case hia34 => (simp only [List.getElem?_toArray, List.getElem?_cons_succ, List.getElem?_cons_zero]; all_goals rfl)
        case hqa34 => exact fun _ _ _ h => h
        case hwa34 => rfl
        case hva34 => rfl
        try simp only [Act.put, List.setIfInBounds_toArray, List.set_cons_zero, List.set_cons_succ]
        refine wpAnyH_take (i := 35) (oi := ?oa35) (v := ?va35) ?hia35 (by kernel_rfl) (by kernel_rfl) (by kernel_rfl) ?hqa35 (Or.inl ⟨?hwa35, ?hya35⟩) (by assumption) ?_
        case hia35 => (simp only [List.getElem?_toArray, List.getElem?_cons_succ, List.getElem?_cons_zero]; all_goals rfl)
        case hqa35 => exact fun _ _ _ h => h
        case hwa35 => rfl
        case hya35 => ((intro w hSw; (try dsimp only at hSw); go_simp); all_goals (first | with_reducible rfl))
        try simp only [Act.put, List.setIfInBounds_toArray, List.set_cons_zero, List.set_cons_succ]
        refine wpAnyH_done (by kernel_rfl) ?_ _
        have BF := Lib.hid ((B5.out.setCell (p := ⟨w.heap.size + 1, 0, none⟩) (by simp) (.int .i64 0)).setCell (p := ⟨w.heap.size + 1, 1, none⟩) (by simp) (.int .i64 0))
        clear h0 h1 h2 h3
        obtain ⟨h0, h1, h2, h3⟩ := two_cells E5.out
        obtain ⟨e0, e1, _, _⟩ := two_cells (two_set E5.out 0 0)
        go_wp2_with fail
        refine bodyPost_ret (v := .tuple #[shV 0 0, .int .i64 5]) (by simp [results, Try.results43, go_sem, e0, e1]) rfl (ShPost.mk rfl HV.out BF.out)
      have hd1 : decide (0 < s1) = false := by
        refine decide_eq_false ?_
        rw [← hs1]
        rcases Int.lt_or_eq_of_le (show k0 ≤ k2 by omega) with h | h
        · rw [Int.sign_eq_neg_one_of_neg (by omega)]; decide
        · rw [h, Int.sub_self]; decide
      by_cases tR : k1 < k3
      · have HV : Hid (dpV M X Y ph c = (0, 0, 5)) := HV0.out.trans (if_pos (.inr (.inl (by omega))))
        obtain rfl : s2 = 1 := by rw [← hs2]; exact Int.sign_eq_one_of_pos (by omega)
        clear hs1 hs2
        go_wp2_with fail
        refine wp_region_held_drew (S := fun w' => w'.cell? ⟨gl, 0, none⟩ = some (.int .i64 (sN k0)) ∧ w'.cell? ⟨gl, 1, none⟩ = some (.int .i64 (sD k0)) ∧ w'.cell? ⟨gl, 2, none⟩ = some (.int .i64 (sN k1)) ∧ w'.cell? ⟨gl, 3, none⟩ = some (.int .i64 (sD k1)) ∧ w'.cell? ⟨gl, 4, none⟩ = some (.int .i64 (sN k2)) ∧ w'.cell? ⟨gl, 5, none⟩ = some (.int .i64 (sD k2)) ∧ w'.cell? ⟨gl, 6, none⟩ = some (.int .i64 (sN k3)) ∧ w'.cell? ⟨gl, 7, none⟩ = some (.int .i64 (sD k3))) (by kernel_rfl) ?_ (fun hHeld => ?_)
        · exact HQ.out.flat
        refine wpAnyH_take (i := 0) (oi := ?ob0) (v := ?vb0) ?hib0 (by kernel_rfl) (by kernel_rfl) (by kernel_rfl) ?hqb0 (Or.inl ⟨?hwb0, ?hyb0⟩) (by assumption) ?_
        case hib0 => (simp only [List.getElem?_toArray, List.getElem?_cons_zero]; all_goals rfl)
        case hqb0 => exact fun _ _ _ h => h
        case hwb0 => rfl
        case hyb0 => ((intro w hSw; (try dsimp only at hSw); go_simp); all_goals (first | with_reducible rfl))
        try simp only [Act.put, List.setIfInBounds_toArray, List.set_cons_zero, List.set_cons_succ]
        refine wpAnyH_take (i := 1) (oi := ?ob1) (v := ?vb1) ?hib1 (by kernel_rfl) (by kernel_rfl) (by kernel_rfl) ?hqb1 (Or.inl ⟨?hwb1, ?hyb1⟩) (by assumption) ?_
        case hib1 => (simp only [List.getElem?_toArray, List.getElem?_cons_succ, List.getElem?_cons_zero]; all_goals rfl)
        case hqb1 => exact fun _ _ _ h => h
        case hwb1 => rfl
        case hyb1 => ((intro w hSw; (try dsimp only at hSw); go_simp); all_goals (first | with_reducible rfl))
        try simp only [Act.put, List.setIfInBounds_toArray, List.set_cons_zero, List.set_cons_succ]
        refine wpAnyH_take (i := 2) (oi := ?ob2) (v := ?vb2) ?hib2 (by kernel_rfl) (by kernel_rfl) (by kernel_rfl) ?hqb2 (Or.inl ⟨?hwb2, ?hyb2⟩) (by assumption) ?_
        case hib2 => (simp only [List.getElem?_toArray, List.getElem?_cons_succ, List.getElem?_cons_zero]; all_goals rfl)
        case hqb2 => exact fun _ _ _ h => h
        case hwb2 => rfl
        case hyb2 => ((intro w hSw; (try dsimp only at hSw); go_simp); all_goals (first | with_reducible rfl))
        try simp only [Act.put, List.setIfInBounds_toArray, List.set_cons_zero, List.set_cons_succ]
        refine wpAnyH_take (i := 3) (oi := ?ob3) (v := ?vb3) ?hib3 (by kernel_rfl) (by kernel_rfl) (by kernel_rfl) ?hqb3 (Or.inl ⟨?hwb3, ?hyb3⟩) (by assumption) ?_
        case hib3 => (simp only [List.getElem?_toArray, List.getElem?_cons_succ, List.getElem?_cons_zero]; all_goals rfl)
        case hqb3 => exact fun _ _ _ h => h
        case hwb3 => rfl
        case hyb3 => ((intro w hSw; (try dsimp only at hSw); go_simp); all_goals (first | with_reducible rfl))
        try simp only [Act.put, List.setIfInBounds_toArray, List.set_cons_zero, List.set_cons_succ]
        refine wpAnyH_take (i := 4) (oi := ?ob4) (v := ?vb4) ?hib4 (by kernel_rfl) (by kernel_rfl) (by kernel_rfl) ?hqb4 (Or.inl ⟨?hwb4, ?hyb4⟩) (by assumption) ?_
        case hib4 => (simp only [List.getElem?_toArray, List.getElem?_cons_succ, List.getElem?_cons_zero]; all_goals rfl)
        case hqb4 => exact fun _ _ _ h => h
        case hwb4 => rfl
        case hyb4 => ((intro w hSw; (try dsimp only at hSw); go_simp); all_goals (first | with_reducible rfl))
        try simp only [Act.put, List.setIfInBounds_toArray, List.set_cons_zero, List.set_cons_succ]
        refine wpAnyH_take (i := 5) (oi := ?ob5) (v := ?vb5) ?hib5 (by kernel_rfl) (by kernel_rfl) (by kernel_rfl) ?hqb5 (Or.inl ⟨?hwb5, ?hyb5⟩) (by assumption) ?_
        case hib5 => (simp only [List.getElem?_toArray, List.getElem?_cons_succ, List.getElem?_cons_zero]; all_goals rfl)
        case hqb5 => exact fun _ _ _ h => h
        case hwb5 => rfl
        case hyb5 => ((intro w hSw; (try dsimp only at hSw); go_simp); all_goals (first | with_reducible rfl))
        try simp only [Act.put, List.setIfInBounds_toArray, List.set_cons_zero, List.set_cons_succ]
        refine wpAnyH_ready (rs := [6]) (by kernel_rfl) (by simp) ?_
        refine AllReadyH.cons rfl (fun K hK => ?_) AllReadyH.nil
        go_simp
        go_at_call 56
        with_reducible refine (C1.out w2.drew).mono ?_
        rintro e p1 ⟨rfl, hb⟩
        replace HQ := Lib.hid (L8.below (w := w2.drew) HQ.out hb hgl3)
        have s1s : w2.heap.size ≤ p1.heap.size := hb.size
        have W1 := Lib.hid (HW2.out.trans (hb.mono (Nat.le_refl _)))
        have E5 := Lib.hid (rowIs_below (w := w2.drew) E4.out hb E4.out.lt)
        have B5 := Lib.hid (B4.out.trans (hb.mono B4.out.size))
        clear hb
        go_wp2_with fail
        refine hK.out _ _ ?_ (fun hHeld => ?_)
        · exact HQ.out.flat
        clear hK K
        try simp only [Act.put, List.setIfInBounds_toArray, List.set_cons_zero, List.set_cons_succ]
        refine wpAnyH_take (i := 7) (oi := ?ob7) (v := ?vb7) ?hib7 (by kernel_rfl) (by kernel_rfl) (by kernel_rfl) ?hqb7 (Or.inl ⟨?hwb7, ?hyb7⟩) (by assumption) ?_
        case hib7 => (simp only [List.getElem?_toArray, List.getElem?_cons_succ, List.getElem?_cons_zero]; all_goals rfl)
        case hqb7 => exact fun _ _ _ h => h
        case hwb7 => rfl
        case hyb7 => ((intro w hSw; (try dsimp only at hSw); go_simp); all_goals (first | with_reducible rfl))
        try simp only [Act.put, List.setIfInBounds_toArray, List.set_cons_zero, List.set_cons_succ]
        refine wpAnyH_take (i := 8) (oi := ?ob8) (v := ?vb8) ?hib8 (by kernel_rfl) (by kernel_rfl) (by kernel_rfl) ?hqb8 (Or.inl ⟨?hwb8, ?hyb8⟩) (by assumption) ?_
        case hib8 => (simp only [List.getElem?_toArray, List.getElem?_cons_succ, List.getElem?_cons_zero]; all_goals rfl)
        case hqb8 => exact fun _ _ _ h => h
        case hwb8 => rfl
        case hyb8 => ((intro w hSw; (try dsimp only at hSw); go_simp); all_goals (first | with_reducible rfl))
        try simp only [Act.put, List.setIfInBounds_toArray, List.set_cons_zero, List.set_cons_succ]
        refine wpAnyH_take (i := 9) (oi := ?ob9) (v := ?vb9) ?hib9 (by kernel_rfl) (by kernel_rfl) (by kernel_rfl) ?hqb9 (Or.inl ⟨?hwb9, ?hyb9⟩) (by assumption) ?_
        case hib9 => (simp only [List.getElem?_toArray, List.getElem?_cons_succ, List.getElem?_cons_zero]; all_goals rfl)
        case hqb9 => exact fun _ _ _ h => h
        case hwb9 => rfl
        case hyb9 => ((intro w hSw; (try dsimp only at hSw); go_simp); all_goals (first | with_reducible rfl))
        try simp only [Act.put, List.setIfInBounds_toArray, List.set_cons_zero, List.set_cons_succ]
        refine wpAnyH_take (i := 10) (oi := ?ob10) (v := ?vb10) ?hib10 (by kernel_rfl) (by kernel_rfl) (by kernel_rfl) ?hqb10 (Or.inl ⟨?hwb10, ?hyb10⟩) (by assumption) ?_
        case hib10 => (simp only [List.getElem?_toArray, List.getElem?_cons_succ, List.getElem?_cons_zero]; all_goals rfl)
        case hqb10 => exact fun _ _ _ h => h
        case hwb10 => rfl
        case hyb10 => ((intro w hSw; (try dsimp only at hSw); go_simp); all_goals (first | with_reducible rfl))
        try simp only [Act.put, List.setIfInBounds_toArray, List.set_cons_zero, List.set_cons_succ]
        refine wpAnyH_take (i := 11) (oi := ?ob11) (v := ?vb11) ?hib11 (by kernel_rfl) (by kernel_rfl) (by kernel_rfl) ?hqb11 (Or.inl ⟨?hwb11, ?hyb11⟩) (by assumption) ?_
        case hib11 => (simp only [List.getElem?_toArray, List.getElem?_cons_succ, List.getElem?_cons_zero]; all_goals rfl)
        case hqb11 => exact fun _ _ _ h => h
        case hwb11 => rfl
        case hyb11 => ((intro w hSw; (try dsimp only at hSw); go_simp); all_goals (first | with_reducible rfl))
        try simp only [Act.put, List.setIfInBounds_toArray, List.set_cons_zero, List.set_cons_succ]
        refine wpAnyH_take (i := 12) (oi := ?ob12) (v := ?vb12) ?hib12 (by kernel_rfl) (by kernel_rfl) (by kernel_rfl) ?hqb12 (Or.inl ⟨?hwb12, ?hyb12⟩) (by assumption) ?_
        case hib12 => (simp only [List.getElem?_toArray, List.getElem?_cons_succ, List.getElem?_cons_zero]; all_goals rfl)
        case hqb12 => exact fun _ _ _ h => h
        case hwb12 => rfl
        case hyb12 => ((intro w hSw; (try dsimp only at hSw); go_simp); all_goals (first | with_reducible rfl))
        try simp only [Act.put, List.setIfInBounds_toArray, List.set_cons_zero, List.set_cons_succ]
        refine wpAnyH_take (i := 13) (oi := ?ob13) (v := ?vb13) ?hib13 (by kernel_rfl) (by kernel_rfl) (by kernel_rfl) ?hqb13 (Or.inl ⟨?hwb13, ?hyb13⟩) (by assumption) ?_
        case hib13 => (simp only [List.getElem?_toArray, List.getElem?_cons_succ, List.getElem?_cons_zero]; all_goals rfl)
        case hqb13 => exact fun _ _ _ h => h
        case hwb13 => rfl
        case hyb13 => ((intro w hSw; (try dsimp only at hSw); go_simp); all_goals (first | with_reducible rfl))
        try simp only [Act.put, List.setIfInBounds_toArray, List.set_cons_zero, List.set_cons_succ]
        refine wpAnyH_take (i := 14) (oi := ?ob14) (v := ?vb14) ?hib14 (by kernel_rfl) (by kernel_rfl) (by kernel_rfl) ?hqb14 (Or.inl ⟨?hwb14, ?hyb14⟩) (by assumption) ?_
        case hib14 => (simp only [List.getElem?_toArray, List.getElem?_cons_succ, List.getElem?_cons_zero]; all_goals rfl)
        case hqb14 => exact fun _ _ _ h => h
        case hwb14 => rfl
        case hyb14 => ((intro w hSw; (try dsimp only at hSw); go_simp); all_goals (first | with_reducible rfl))
        try simp only [Act.put, List.setIfInBounds_toArray, List.set_cons_zero, List.set_cons_succ]
        refine wpAnyH_ready (rs := [15]) (by kernel_rfl) (by simp) ?_
        refine AllReadyH.cons rfl (fun K hK => ?_) AllReadyH.nil
        go_simp
        go_at_call 56
        with_reducible refine (C2.out p1).mono ?_
        rintro e p2 ⟨rfl, hb⟩
        replace HQ := Lib.hid (L8.below (w := p1) HQ.out hb (by omega))
        have s2s : p1.heap.size ≤ p2.heap.size := hb.size
        have W2 := Lib.hid (W1.out.trans (hb.mono s1s))
        have E6 := Lib.hid (rowIs_below (w := p1) E5.out hb E5.out.lt)
        have B6 := Lib.hid (B5.out.trans (hb.mono B5.out.size))
        clear hb
        go_wp2_with fail
        refine hK.out _ _ ?_ (fun hHeld => ?_)
        · exact HQ.out.flat
        clear hK K
        try simp only [Act.put, List.setIfInBounds_toArray, List.set_cons_zero, List.set_cons_succ]
        refine wpAnyH_take (i := 16) (oi := ?ob16) (v := ?vb16) ?hib16 (by kernel_rfl) (by kernel_rfl) (by kernel_rfl) ?hqb16 (Or.inl ⟨?hwb16, ?hyb16⟩) (by assumption) ?_
        case hib16 => (simp only [List.getElem?_toArray, List.getElem?_cons_succ, List.getElem?_cons_zero]; all_goals rfl)
        case hqb16 => exact fun _ _ _ h => h
        case hwb16 => rfl
        case hyb16 => ((intro w hSw; (try dsimp only at hSw); go_simp); all_goals (first | with_reducible rfl))
        try simp only [Act.put, List.setIfInBounds_toArray, List.set_cons_zero, List.set_cons_succ]
        refine wpAnyH_take (i := 17) (oi := ?ob17) (v := ?vb17) ?hib17 (by kernel_rfl) (by kernel_rfl) (by kernel_rfl) ?hqb17 (Or.inl ⟨?hwb17, ?hyb17⟩) (by assumption) ?_
        case hib17 => (simp only [List.getElem?_toArray, List.getElem?_cons_succ, List.getElem?_cons_zero]; all_goals rfl)
        case hqb17 => exact fun _ _ _ h => h
        case hwb17 => rfl
        case hyb17 => ((intro w hSw; (try dsimp only at hSw); go_simp); all_goals (first | with_reducible rfl))
        try simp only [Act.put, List.setIfInBounds_toArray, List.set_cons_zero, List.set_cons_succ]
        refine wpAnyH_take (i := 18) (oi := ?ob18) (v := ?vb18) ?hib18 (by kernel_rfl) (by kernel_rfl) (by kernel_rfl) ?hqb18 (Or.inl ⟨?hwb18, ?hyb18⟩) (by assumption) ?_
        case hib18 => (simp only [List.getElem?_toArray, List.getElem?_cons_succ, List.getElem?_cons_zero]; all_goals rfl)
        case hqb18 => exact fun _ _ _ h => h
        case hwb18 => rfl
        case hyb18 => ((intro w hSw; (try dsimp only at hSw); go_simp); all_goals (first | with_reducible rfl))
        try simp only [Act.put, List.setIfInBounds_toArray, List.set_cons_zero, List.set_cons_succ]
        refine wpAnyH_take (i := 19) (oi := ?ob19) (v := undef) ?hib19 (by kernel_rfl) (by kernel_rfl) (by kernel_rfl) ?hqb19 (Or.inr ⟨?hwb19, ?hvb19⟩) (by assumption) ?_
        case hib19 => (simp only [List.getElem?_toArray, List.getElem?_cons_succ, List.getElem?_cons_zero]; all_goals rfl)
        case hqb19 => exact fun _ _ _ h => h
        case hwb19 => rfl
        case hvb19 => rfl
        try simp only [Act.put, List.setIfInBounds_toArray, List.set_cons_zero, List.set_cons_succ]
        refine wpAnyH_take (i := 20) (oi := ?ob20) (v := undef) ?hib20 (by kernel_rfl) (by kernel_rfl) (by kernel_rfl) ?hqb20 (Or.inr ⟨?hwb20, ?hvb20⟩) (by assumption) ?_
        case hib20 => (simp only [List.getElem?_toArray, List.getElem?_cons_succ, List.getElem?_cons_zero]; all_goals rfl)
        case hqb20 => exact fun _ _ _ h => h
        case hwb20 => rfl
        case hvb20 => rfl
        try simp only [Act.put, List.setIfInBounds_toArray, List.set_cons_zero, List.set_cons_succ]
        refine wpAnyH_take (i := 21) (oi := ?ob21) (v := undef) ?hib21 (by kernel_rfl) (by kernel_rfl) (by kernel_rfl) ?hqb21 (Or.inr ⟨?hwb21, ?hvb21⟩) (by assumption) ?_
        case hib21 => (simp only [List.getElem?_toArray, List.getElem?_cons_succ, List.getElem?_cons_zero]; all_goals rfl)
        case hqb21 => exact fun _ _ _ h => h
        case hwb21 => rfl
        case hvb21 => rfl
        try simp only [Act.put, List.setIfInBounds_toArray, List.set_cons_zero, List.set_cons_succ]
        refine wpAnyH_take (i := 22) (oi := ?ob22) (v := undef) ?hib22 (by kernel_rfl) (by kernel_rfl) (by kernel_rfl) ?hqb22 (Or.inr ⟨?hwb22, ?hvb22⟩) (by assumption) ?_
        case hib22 => (simp only [List.getElem?_toArray, List.getElem?_cons_succ, List.getElem?_cons_zero]; all_goals rfl)
        case hqb22 => exact fun _ _ _ h => h
        case hwb22 => rfl
        case hvb22 => rfl
        try simp only [Act.put, List.setIfInBounds_toArray, List.set_cons_zero, List.set_cons_succ]
        refine wpAnyH_take (i := 23) (oi := ?ob23) (v := undef) ?hib23 (by kernel_rfl) (by kernel_rfl) (by kernel_rfl) ?hqb23 (Or.inr ⟨?hwb23, ?hvb23⟩) (by assumption) ?_
        case hib23 => (simp only [List.getElem?_toArray, List.getElem?_cons_succ, List.getElem?_cons_zero]; all_goals rfl)
        case hqb23 => exact fun _ _ _ h => h
        case hwb23 => rfl
        case hvb23 => rfl
        try simp only [Act.put, List.setIfInBounds_toArray, List.set_cons_zero, List.set_cons_succ]
        refine wpAnyH_take (i := 24) (oi := ?ob24) (v := undef) ?hib24 (by kernel_rfl) (by kernel_rfl) (by kernel_rfl) ?hqb24 (Or.inr ⟨?hwb24, ?hvb24⟩) (by assumption) ?_
        case hib24 => (simp only [List.getElem?_toArray, List.getElem?_cons_succ, List.getElem?_cons_zero]; all_goals rfl)
        case hqb24 => exact fun _ _ _ h => h
        case hwb24 => rfl
        case hvb24 => rfl
        try simp only [Act.put, List.setIfInBounds_toArray, List.set_cons_zero, List.set_cons_succ]
        refine wpAnyH_take (i := 25) (oi := ?ob25) (v := undef) ?hib25 (by kernel_rfl) (by kernel_rfl) (by kernel_rfl) ?hqb25 (Or.inr ⟨?hwb25, ?hvb25⟩) (by assumption) ?_
        case hib25 => (simp only [List.getElem?_toArray, List.getElem?_cons_succ, List.getElem?_cons_zero]; all_goals rfl)
        case hqb25 => exact fun _ _ _ h => h
        case hwb25 => rfl
        case hvb25 => rfl
        try simp only [Act.put, List.setIfInBounds_toArray, List.set_cons_zero, List.set_cons_succ]
        refine wpAnyH_take (i := 26) (oi := ?ob26) (v := undef) ?hib26 (by kernel_rfl) (by kernel_rfl) (by kernel_rfl) ?hqb26 (Or.inr ⟨?hwb26, ?hvb26⟩) (by assumption) ?_
        case hib26 => (simp only [List.getElem?_toArray, List.getElem?_cons_succ, List.getElem?_cons_zero]; all_goals rfl)
        case hqb26 => exact fun _ _ _ h => h
        case hwb26 => rfl
        case hvb26 => rfl
        try simp only [Act.put, List.setIfInBounds_toArray, List.set_cons_zero, List.set_cons_succ]
        refine wpAnyH_take (i := 27) (oi := ?ob27) (v := undef) ?hib27 (by kernel_rfl) (by kernel_rfl) (by kernel_rfl) ?hqb27 (Or.inr ⟨?hwb27, ?hvb27⟩) (by assumption) ?_
        case hib27 => (simp only [List.getElem?_toArray, List.getElem?_cons_succ, List.getElem?_cons_zero]; all_goals rfl)
        case hqb27 => exact fun _ _ _ h => h
        case hwb27 => rfl
        case hvb27 => rfl
        try simp only [Act.put, List.setIfInBounds_toArray, List.set_cons_zero, List.set_cons_succ]
        refine wpAnyH_take (i := 28) (oi := ?ob28) (v := undef) ?hib28 (by kernel_rfl) (by kernel_rfl) (by kernel_rfl) ?hqb28 (Or.inr ⟨?hwb28, ?hvb28⟩) (by assumption) ?_
        case hib28 => (simp only [List.getElem?_toArray, List.getElem?_cons_succ, List.getElem?_cons_zero]; all_goals rfl)
        case hqb28 => exact fun _ _ _ h => h
        case hwb28 => rfl
        case hvb28 => rfl
        try simp only [Act.put, List.setIfInBounds_toArray, List.set_cons_zero, List.set_cons_succ]
        refine wpAnyH_take (i := 29) (oi := ?ob29) (v := undef) ?hib29 (by kernel_rfl) (by kernel_rfl) (by kernel_rfl) ?hqb29 (Or.inr ⟨?hwb29, ?hvb29⟩) (by assumption) ?_
        case hib29 => (simp only [List.getElem?_toArray, List.getElem?_cons_succ, List.getElem?_cons_zero]; all_goals rfl)
        case hqb29 => exact fun _ _ _ h => h
        case hwb29 => rfl
        case hvb29 => rfl
        try simp only [Act.put, List.setIfInBounds_toArray, List.set_cons_zero, List.set_cons_succ]
        refine wpAnyH_take (i := 30) (oi := ?ob30) (v := undef) ?hib30 (by kernel_rfl) (by kernel_rfl) (by kernel_rfl) ?hqb30 (Or.inr ⟨?hwb30, ?hvb30⟩) (by assumption) ?_
        case hib30 => (simp only [List.getElem?_toArray, List.getElem?_cons_succ, List.getElem?_cons_zero]; all_goals rfl)
        case hqb30 => exact fun _ _ _ h => h
        case hwb30 => rfl
        case hvb30 => rfl
        try simp only [Act.put, List.setIfInBounds_toArray, List.set_cons_zero, List.set_cons_succ]
        refine wpAnyH_take (i := 31) (oi := ?ob31) (v := undef) ?hib31 (by kernel_rfl) (by kernel_rfl) (by kernel_rfl) ?hqb31 (Or.inr ⟨?hwb31, ?hvb31⟩) (by assumption) ?_
        case hib31 => (simp only [List.getElem?_toArray, List.getElem?_cons_succ, List.getElem?_cons_zero]; all_goals rfl)
        case hqb31 => exact fun _ _ _ h => h
        case hwb31 => rfl
        case hvb31 => rfl
        try simp only [Act.put, List.setIfInBounds_toArray, List.set_cons_zero, List.set_cons_succ]
        refine wpAnyH_take (i := 32) (oi := ?ob32) (v := undef) ?hib32 (by kernel_rfl) (by kernel_rfl) (by kernel_rfl) ?hqb32 (Or.inr ⟨?hwb32, ?hvb32⟩) (by assumption) ?_
        case hib32 => (simp only [List.getElem?_toArray, List.getElem?_cons_succ, List.getElem?_cons_zero]; all_goals rfl)
        case hqb32 => exact fun _ _ _ h => h
        case hwb32 => rfl
        case hvb32 => rfl
        try simp only [Act.put, List.setIfInBounds_toArray, List.set_cons_zero, List.set_cons_succ]
        refine wpAnyH_take (i := 33) (oi := ?ob33) (v := undef) ?hib33 (by kernel_rfl) (by kernel_rfl) (by kernel_rfl) ?hqb33 (Or.inr ⟨?hwb33, ?hvb33⟩) (by assumption) ?_
        case hib33 => (simp only [List.getElem?_toArray, List.getElem?_cons_succ, List.getElem?_cons_zero]; all_goals rfl)
        case hqb33 => exact fun _ _ _ h => h
        case hwb33 => rfl
        case hvb33 => rfl
        try simp only [Act.put, List.setIfInBounds_toArray, List.set_cons_zero, List.set_cons_succ]
        refine wpAnyH_take (i := 34) (oi := ?ob34) (v := undef) ?hib34 (by kernel_rfl) (by kernel_rfl) (by kernel_rfl) ?hqb34 (Or.inr ⟨?hwb34, ?hvb34⟩) (by assumption) ?_
        case hib34 => (simp only [List.getElem?_toArray, List.getElem?_cons_succ, List.getElem?_cons_zero]; all_goals rfl)
        case hqb34 => exact fun _ _ _ h => h
        case hwb34 => rfl
        case hvb34 => rfl
        try simp only [Act.put, List.setIfInBounds_toArray, List.set_cons_zero, List.set_cons_succ]
        refine wpAnyH_take (i := 35) (oi := ?ob35) (v := ?vb35) ?hib35 (by kernel_rfl) (by kernel_rfl) (by kernel_rfl) ?hqb35 (Or.inl ⟨?hwb35, ?hyb35⟩) (by assumption) ?_
        case hib35 => (simp only [List.getElem?_toArray, List.getElem?_cons_succ, List.getElem?_cons_zero]; all_goals rfl)
        case hqb35 => exact fun _ _ _ h => h
        case hwb35 => rfl
        case hyb35 => ((intro w hSw; (try dsimp only at hSw); go_simp); all_goals (first | with_reducible rfl))
        try simp only [Act.put, List.setIfInBounds_toArray, List.set_cons_zero, List.set_cons_succ]
        refine wpAnyH_done (by kernel_rfl) ?_ _
        have BF := Lib.hid ((B6.out.setCell (p := ⟨w.heap.size + 1, 0, none⟩) (by simp) (.int .i64 0)).setCell (p := ⟨w.heap.size + 1, 1, none⟩) (by simp) (.int .i64 0))
        clear h0 h1 h2 h3
        obtain ⟨h0, h1, h2, h3⟩ := two_cells E6.out
        obtain ⟨e0, e1, _, _⟩ := two_cells (two_set E6.out 0 0)
        go_wp2_with fail
        refine bodyPost_ret (v := .tuple #[shV 0 0, .int .i64 5]) (by simp [results, Try.results43, go_sem, e0, e1]) rfl (ShPost.mk rfl HV.out BF.out)
      have hd2 : decide (0 < s2) = false := by
        refine decide_eq_false ?_
        rw [← hs2]
        rcases Int.lt_or_eq_of_le (show k3 ≤ k1 by omega) with h | h
        · rw [Int.sign_eq_neg_one_of_neg (by omega)]; decide
        · rw [h, Int.sub_self]; decide
      clear hs1 hs2
      by_cases hE : k0 = k2 ∧ k1 = k3
      · obtain ⟨rfl, rfl⟩ := hE
        have HV : Hid (dpV M X Y ph c = (0, 0, 5)) := HV0.out.trans (if_pos (.inr (.inr (by omega))))
        clear tG tR
        go_wp2_with fail
        refine wp_region_held_drew (S := fun w' => w'.cell? ⟨gl, 0, none⟩ = some (.int .i64 (sN k0)) ∧ w'.cell? ⟨gl, 1, none⟩ = some (.int .i64 (sD k0)) ∧ w'.cell? ⟨gl, 2, none⟩ = some (.int .i64 (sN k1)) ∧ w'.cell? ⟨gl, 3, none⟩ = some (.int .i64 (sD k1)) ∧ w'.cell? ⟨gl, 4, none⟩ = some (.int .i64 (sN k0)) ∧ w'.cell? ⟨gl, 5, none⟩ = some (.int .i64 (sD k0)) ∧ w'.cell? ⟨gl, 6, none⟩ = some (.int .i64 (sN k1)) ∧ w'.cell? ⟨gl, 7, none⟩ = some (.int .i64 (sD k1))) (by kernel_rfl) ?_ (fun hHeld => ?_)
        · exact HQ.out.flat
        refine wpAnyH_take (i := 0) (oi := ?oc0) (v := ?vc0) ?hic0 (by kernel_rfl) (by kernel_rfl) (by kernel_rfl) ?hqc0 (Or.inl ⟨?hwc0, ?hyc0⟩) (by assumption) ?_
        case hic0 => (simp only [List.getElem?_toArray, List.getElem?_cons_zero]; all_goals rfl)
        case hqc0 => exact fun _ _ _ h => h
        case hwc0 => rfl
        case hyc0 => ((intro w hSw; (try dsimp only at hSw); go_simp); all_goals (first | with_reducible rfl))
        try simp only [Act.put, List.setIfInBounds_toArray, List.set_cons_zero, List.set_cons_succ]
        refine wpAnyH_take (i := 1) (oi := ?oc1) (v := ?vc1) ?hic1 (by kernel_rfl) (by kernel_rfl) (by kernel_rfl) ?hqc1 (Or.inl ⟨?hwc1, ?hyc1⟩) (by assumption) ?_
        case hic1 => (simp only [List.getElem?_toArray, List.getElem?_cons_succ, List.getElem?_cons_zero]; all_goals rfl)
        case hqc1 => exact fun _ _ _ h => h
        case hwc1 => rfl
        case hyc1 => ((intro w hSw; (try dsimp only at hSw); go_simp); all_goals (first | with_reducible rfl))
        try simp only [Act.put, List.setIfInBounds_toArray, List.set_cons_zero, List.set_cons_succ]
        refine wpAnyH_take (i := 2) (oi := ?oc2) (v := ?vc2) ?hic2 (by kernel_rfl) (by kernel_rfl) (by kernel_rfl) ?hqc2 (Or.inl ⟨?hwc2, ?hyc2⟩) (by assumption) ?_
        case hic2 => (simp only [List.getElem?_toArray, List.getElem?_cons_succ, List.getElem?_cons_zero]; all_goals rfl)
        case hqc2 => exact fun _ _ _ h => h
        case hwc2 => rfl
        case hyc2 => ((intro w hSw; (try dsimp only at hSw); go_simp); all_goals (first | with_reducible rfl))
        try simp only [Act.put, List.setIfInBounds_toArray, List.set_cons_zero, List.set_cons_succ]
        refine wpAnyH_take (i := 3) (oi := ?oc3) (v := ?vc3) ?hic3 (by kernel_rfl) (by kernel_rfl) (by kernel_rfl) ?hqc3 (Or.inl ⟨?hwc3, ?hyc3⟩) (by assumption) ?_
        case hic3 => (simp only [List.getElem?_toArray, List.getElem?_cons_succ, List.getElem?_cons_zero]; all_goals rfl)
        case hqc3 => exact fun _ _ _ h => h
        case hwc3 => rfl
        case hyc3 => ((intro w hSw; (try dsimp only at hSw); go_simp); all_goals (first | with_reducible rfl))
        try simp only [Act.put, List.setIfInBounds_toArray, List.set_cons_zero, List.set_cons_succ]
        refine wpAnyH_take (i := 4) (oi := ?oc4) (v := ?vc4) ?hic4 (by kernel_rfl) (by kernel_rfl) (by kernel_rfl) ?hqc4 (Or.inl ⟨?hwc4, ?hyc4⟩) (by assumption) ?_
        case hic4 => (simp only [List.getElem?_toArray, List.getElem?_cons_succ, List.getElem?_cons_zero]; all_goals rfl)
        case hqc4 => exact fun _ _ _ h => h
        case hwc4 => rfl
        case hyc4 => ((intro w hSw; (try dsimp only at hSw); go_simp); all_goals (first | with_reducible rfl))
        try simp only [Act.put, List.setIfInBounds_toArray, List.set_cons_zero, List.set_cons_succ]
        refine wpAnyH_take (i := 5) (oi := ?oc5) (v := ?vc5) ?hic5 (by kernel_rfl) (by kernel_rfl) (by kernel_rfl) ?hqc5 (Or.inl ⟨?hwc5, ?hyc5⟩) (by assumption) ?_
        case hic5 => (simp only [List.getElem?_toArray, List.getElem?_cons_succ, List.getElem?_cons_zero]; all_goals rfl)
        case hqc5 => exact fun _ _ _ h => h
        case hwc5 => rfl
        case hyc5 => ((intro w hSw; (try dsimp only at hSw); go_simp); all_goals (first | with_reducible rfl))
        try simp only [Act.put, List.setIfInBounds_toArray, List.set_cons_zero, List.set_cons_succ]
        refine wpAnyH_ready (rs := [6]) (by kernel_rfl) (by simp) ?_
        refine AllReadyH.cons rfl (fun K hK => ?_) AllReadyH.nil
        go_simp
        go_at_call 56
        with_reducible refine (C1.out w2.drew).mono ?_
        rintro e p1 ⟨rfl, hb⟩
        replace HQ := Lib.hid (L8.below (w := w2.drew) HQ.out hb hgl3)
        have s1s : w2.heap.size ≤ p1.heap.size := hb.size
        have W1 := Lib.hid (HW2.out.trans (hb.mono (Nat.le_refl _)))
        have E5 := Lib.hid (rowIs_below (w := w2.drew) E4.out hb E4.out.lt)
        have B5 := Lib.hid (B4.out.trans (hb.mono B4.out.size))
        clear hb
        go_wp2_with fail
        refine hK.out _ _ ?_ (fun hHeld => ?_)
        · exact HQ.out.flat
        clear hK K
        try simp only [Act.put, List.setIfInBounds_toArray, List.set_cons_zero, List.set_cons_succ]
        refine wpAnyH_take (i := 7) (oi := ?oc7) (v := ?vc7) ?hic7 (by kernel_rfl) (by kernel_rfl) (by kernel_rfl) ?hqc7 (Or.inl ⟨?hwc7, ?hyc7⟩) (by assumption) ?_
        case hic7 => (simp only [List.getElem?_toArray, List.getElem?_cons_succ, List.getElem?_cons_zero]; all_goals rfl)
        case hqc7 => exact fun _ _ _ h => h
        case hwc7 => rfl
        case hyc7 => ((intro w hSw; (try dsimp only at hSw); go_simp); all_goals (first | with_reducible rfl))
        try simp only [Act.put, List.setIfInBounds_toArray, List.set_cons_zero, List.set_cons_succ]
        refine wpAnyH_take (i := 8) (oi := ?oc8) (v := ?vc8) ?hic8 (by kernel_rfl) (by kernel_rfl) (by kernel_rfl) ?hqc8 (Or.inl ⟨?hwc8, ?hyc8⟩) (by assumption) ?_
        case hic8 => (simp only [List.getElem?_toArray, List.getElem?_cons_succ, List.getElem?_cons_zero]; all_goals rfl)
        case hqc8 => exact fun _ _ _ h => h
        case hwc8 => rfl
        case hyc8 => ((intro w hSw; (try dsimp only at hSw); go_simp); all_goals (first | with_reducible rfl))
        try simp only [Act.put, List.setIfInBounds_toArray, List.set_cons_zero, List.set_cons_succ]
        refine wpAnyH_take (i := 9) (oi := ?oc9) (v := ?vc9) ?hic9 (by kernel_rfl) (by kernel_rfl) (by kernel_rfl) ?hqc9 (Or.inl ⟨?hwc9, ?hyc9⟩) (by assumption) ?_
        case hic9 => (simp only [List.getElem?_toArray, List.getElem?_cons_succ, List.getElem?_cons_zero]; all_goals rfl)
        case hqc9 => exact fun _ _ _ h => h
        case hwc9 => rfl
        case hyc9 => ((intro w hSw; (try dsimp only at hSw); go_simp); all_goals (first | with_reducible rfl))
        try simp only [Act.put, List.setIfInBounds_toArray, List.set_cons_zero, List.set_cons_succ]
        refine wpAnyH_take (i := 10) (oi := ?oc10) (v := ?vc10) ?hic10 (by kernel_rfl) (by kernel_rfl) (by kernel_rfl) ?hqc10 (Or.inl ⟨?hwc10, ?hyc10⟩) (by assumption) ?_
        case hic10 => (simp only [List.getElem?_toArray, List.getElem?_cons_succ, List.getElem?_cons_zero]; all_goals rfl)
        case hqc10 => exact fun _ _ _ h => h
        case hwc10 => rfl
        case hyc10 => ((intro w hSw; (try dsimp only at hSw); go_simp); all_goals (first | with_reducible rfl))
        try simp only [Act.put, List.setIfInBounds_toArray, List.set_cons_zero, List.set_cons_succ]
        refine wpAnyH_take (i := 11) (oi := ?oc11) (v := ?vc11) ?hic11 (by kernel_rfl) (by kernel_rfl) (by kernel_rfl) ?hqc11 (Or.inl ⟨?hwc11, ?hyc11⟩) (by assumption) ?_
        case hic11 => (simp only [List.getElem?_toArray, List.getElem?_cons_succ, List.getElem?_cons_zero]; all_goals rfl)
        case hqc11 => exact fun _ _ _ h => h
        case hwc11 => rfl
        case hyc11 => ((intro w hSw; (try dsimp only at hSw); go_simp); all_goals (first | with_reducible rfl))
        try simp only [Act.put, List.setIfInBounds_toArray, List.set_cons_zero, List.set_cons_succ]
        refine wpAnyH_take (i := 12) (oi := ?oc12) (v := ?vc12) ?hic12 (by kernel_rfl) (by kernel_rfl) (by kernel_rfl) ?hqc12 (Or.inl ⟨?hwc12, ?hyc12⟩) (by assumption) ?_
        case hic12 => (simp only [List.getElem?_toArray, List.getElem?_cons_succ, List.getElem?_cons_zero]; all_goals rfl)
        case hqc12 => exact fun _ _ _ h => h
        case hwc12 => rfl
        case hyc12 => ((intro w hSw; (try dsimp only at hSw); go_simp); all_goals (first | with_reducible rfl))
        try simp only [Act.put, List.setIfInBounds_toArray, List.set_cons_zero, List.set_cons_succ]
        refine wpAnyH_take (i := 13) (oi := ?oc13) (v := ?vc13) ?hic13 (by kernel_rfl) (by kernel_rfl) (by kernel_rfl) ?hqc13 (Or.inl ⟨?hwc13, ?hyc13⟩) (by assumption) ?_
        case hic13 => (simp only [List.getElem?_toArray, List.getElem?_cons_succ, List.getElem?_cons_zero]; all_goals rfl)
        case hqc13 => exact fun _ _ _ h => h
        case hwc13 => rfl
        case hyc13 => ((intro w hSw; (try dsimp only at hSw); go_simp); all_goals (first | with_reducible rfl))
        try simp only [Act.put, List.setIfInBounds_toArray, List.set_cons_zero, List.set_cons_succ]
        refine wpAnyH_take (i := 14) (oi := ?oc14) (v := ?vc14) ?hic14 (by kernel_rfl) (by kernel_rfl) (by kernel_rfl) ?hqc14 (Or.inl ⟨?hwc14, ?hyc14⟩) (by assumption) ?_
        case hic14 => (simp only [List.getElem?_toArray, List.getElem?_cons_succ, List.getElem?_cons_zero]; all_goals rfl)
        case hqc14 => exact fun _ _ _ h => h
        case hwc14 => rfl
        case hyc14 => ((intro w hSw; (try dsimp only at hSw); go_simp); all_goals (first | with_reducible rfl))
        try simp only [Act.put, List.setIfInBounds_toArray, List.set_cons_zero, List.set_cons_succ]
        refine wpAnyH_ready (rs := [15]) (by kernel_rfl) (by simp) ?_
        refine AllReadyH.cons rfl (fun K hK => ?_) AllReadyH.nil
        go_simp
        go_at_call 56
        with_reducible refine (C2.out p1).mono ?_
        rintro e p2 ⟨rfl, hb⟩
        replace HQ := Lib.hid (L8.below (w := p1) HQ.out hb (by omega))
        have s2s : p1.heap.size ≤ p2.heap.size := hb.size
        have W2 := Lib.hid (W1.out.trans (hb.mono s1s))
        have E6 := Lib.hid (rowIs_below (w := p1) E5.out hb E5.out.lt)
        have B6 := Lib.hid (B5.out.trans (hb.mono B5.out.size))
        clear hb
        go_wp2_with fail
        refine hK.out _ _ ?_ (fun hHeld => ?_)
        · exact HQ.out.flat
        clear hK K
        try simp only [Act.put, List.setIfInBounds_toArray, List.set_cons_zero, List.set_cons_succ]
        refine wpAnyH_take (i := 16) (oi := ?oc16) (v := ?vc16) ?hic16 (by kernel_rfl) (by kernel_rfl) (by kernel_rfl) ?hqc16 (Or.inl ⟨?hwc16, ?hyc16⟩) (by assumption) ?_
        case hic16 => (simp only [List.getElem?_toArray, List.getElem?_cons_succ, List.getElem?_cons_zero]; all_goals rfl)
        case hqc16 => exact fun _ _ _ h => h
        case hwc16 => rfl
        case hyc16 => ((intro w hSw; (try dsimp only at hSw); go_simp); all_goals (first | with_reducible rfl))
        try simp only [Act.put, List.setIfInBounds_toArray, List.set_cons_zero, List.set_cons_succ]
        refine wpAnyH_take (i := 17) (oi := ?oc17) (v := ?vc17) ?hic17 (by kernel_rfl) (by kernel_rfl) (by kernel_rfl) ?hqc17 (Or.inl ⟨?hwc17, ?hyc17⟩) (by assumption) ?_
        case hic17 => (simp only [List.getElem?_toArray, List.getElem?_cons_succ, List.getElem?_cons_zero]; all_goals rfl)
        case hqc17 => exact fun _ _ _ h => h
        case hwc17 => rfl
        case hyc17 => ((intro w hSw; (try dsimp only at hSw); go_simp); all_goals (first | with_reducible rfl))
        try simp only [Act.put, List.setIfInBounds_toArray, List.set_cons_zero, List.set_cons_succ]
        refine wpAnyH_take (i := 18) (oi := ?oc18) (v := ?vc18) ?hic18 (by kernel_rfl) (by kernel_rfl) (by kernel_rfl) ?hqc18 (Or.inl ⟨?hwc18, ?hyc18⟩) (by assumption) ?_
        case hic18 => (simp only [List.getElem?_toArray, List.getElem?_cons_succ, List.getElem?_cons_zero]; all_goals rfl)
        case hqc18 => exact fun _ _ _ h => h
        case hwc18 => rfl
        case hyc18 => ((intro w hSw; (try dsimp only at hSw); go_simp); all_goals (first | with_reducible rfl))
        try simp only [Act.put, List.setIfInBounds_toArray, List.set_cons_zero, List.set_cons_succ]
        refine wpAnyH_take (i := 19) (oi := ?oc19) (v := ?vc19) ?hic19 (by kernel_rfl) (by kernel_rfl) (by kernel_rfl) ?hqc19 (Or.inl ⟨?hwc19, ?hyc19⟩) (by assumption) ?_
        case hic19 => (simp only [List.getElem?_toArray, List.getElem?_cons_succ, List.getElem?_cons_zero]; all_goals rfl)
        case hqc19 => exact fun _ _ _ h => h
        case hwc19 => rfl
        case hyc19 => ((intro w hSw; (try dsimp only at hSw); go_simp); all_goals (first | with_reducible rfl))
        try simp only [Act.put, List.setIfInBounds_toArray, List.set_cons_zero, List.set_cons_succ]
        refine wpAnyH_take (i := 20) (oi := ?oc20) (v := ?vc20) ?hic20 (by kernel_rfl) (by kernel_rfl) (by kernel_rfl) ?hqc20 (Or.inl ⟨?hwc20, ?hyc20⟩) (by assumption) ?_
        case hic20 => (simp only [List.getElem?_toArray, List.getElem?_cons_succ, List.getElem?_cons_zero]; all_goals rfl)
        case hqc20 => exact fun _ _ _ h => h
        case hwc20 => rfl
        case hyc20 => ((intro w hSw; (try dsimp only at hSw); go_simp); all_goals (first | with_reducible rfl))
        try simp only [Act.put, List.setIfInBounds_toArray, List.set_cons_zero, List.set_cons_succ]
        refine wpAnyH_take (i := 21) (oi := ?oc21) (v := ?vc21) ?hic21 (by kernel_rfl) (by kernel_rfl) (by kernel_rfl) ?hqc21 (Or.inl ⟨?hwc21, ?hyc21⟩) (by assumption) ?_
        case hic21 => (simp only [List.getElem?_toArray, List.getElem?_cons_succ, List.getElem?_cons_zero]; all_goals rfl)
        case hqc21 => exact fun _ _ _ h => h
        case hwc21 => rfl
        case hyc21 => ((intro w hSw; (try dsimp only at hSw); go_simp); all_goals (first | with_reducible rfl))
        try simp only [Act.put, List.setIfInBounds_toArray, List.set_cons_zero, List.set_cons_succ]
        refine wpAnyH_take (i := 22) (oi := ?oc22) (v := ?vc22) ?hic22 (by kernel_rfl) (by kernel_rfl) (by kernel_rfl) ?hqc22 (Or.inl ⟨?hwc22, ?hyc22⟩) (by assumption) ?_
        case hic22 => (simp only [List.getElem?_toArray, List.getElem?_cons_succ, List.getElem?_cons_zero]; all_goals rfl)
        case hqc22 => exact fun _ _ _ h => h
        case hwc22 => rfl
        case hyc22 => ((intro w hSw; (try dsimp only at hSw); go_simp); all_goals (first | with_reducible rfl))
        try simp only [Act.put, List.setIfInBounds_toArray, List.set_cons_zero, List.set_cons_succ]
        refine wpAnyH_take (i := 23) (oi := ?oc23) (v := ?vc23) ?hic23 (by kernel_rfl) (by kernel_rfl) (by kernel_rfl) ?hqc23 (Or.inl ⟨?hwc23, ?hyc23⟩) (by assumption) ?_
        case hic23 => (simp only [List.getElem?_toArray, List.getElem?_cons_succ, List.getElem?_cons_zero]; all_goals rfl)
        case hqc23 => exact fun _ _ _ h => h
        case hwc23 => rfl
        case hyc23 => ((intro w hSw; (try dsimp only at hSw); go_simp); all_goals (first | with_reducible rfl))
        try simp only [Act.put, List.setIfInBounds_toArray, List.set_cons_zero, List.set_cons_succ]
        refine wpAnyH_take (i := 24) (oi := ?oc24) (v := ?vc24) ?hic24 (by kernel_rfl) (by kernel_rfl) (by kernel_rfl) ?hqc24 (Or.inl ⟨?hwc24, ?hyc24⟩) (by assumption) ?_
        case hic24 => (simp only [List.getElem?_toArray, List.getElem?_cons_succ, List.getElem?_cons_zero]; all_goals rfl)
        case hqc24 => exact fun _ _ _ h => h
        case hwc24 => rfl
        case hyc24 => ((intro w hSw; (try dsimp only at hSw); go_simp); all_goals (first | with_reducible rfl))
        try simp only [Act.put, List.setIfInBounds_toArray, List.set_cons_zero, List.set_cons_succ]
        refine wpAnyH_take (i := 25) (oi := ?oc25) (v := ?vc25) ?hic25 (by kernel_rfl) (by kernel_rfl) (by kernel_rfl) ?hqc25 (Or.inl ⟨?hwc25, ?hyc25⟩) (by assumption) ?_
        case hic25 => (simp only [List.getElem?_toArray, List.getElem?_cons_succ, List.getElem?_cons_zero]; all_goals rfl)
        case hqc25 => exact fun _ _ _ h => h
        case hwc25 => rfl
        case hyc25 => ((intro w hSw; (try dsimp only at hSw); go_simp); all_goals (first | with_reducible rfl))
        try simp only [Act.put, List.setIfInBounds_toArray, List.set_cons_zero, List.set_cons_succ]
        refine wpAnyH_take (i := 26) (oi := ?oc26) (v := ?vc26) ?hic26 (by kernel_rfl) (by kernel_rfl) (by kernel_rfl) ?hqc26 (Or.inl ⟨?hwc26, ?hyc26⟩) (by assumption) ?_
        case hic26 => (simp only [List.getElem?_toArray, List.getElem?_cons_succ, List.getElem?_cons_zero]; all_goals rfl)
        case hqc26 => exact fun _ _ _ h => h
        case hwc26 => rfl
        case hyc26 => ((intro w hSw; (try dsimp only at hSw); go_simp); all_goals (first | with_reducible rfl))
        try simp only [Act.put, List.setIfInBounds_toArray, List.set_cons_zero, List.set_cons_succ]
        refine wpAnyH_take (i := 27) (oi := ?oc27) (v := ?vc27) ?hic27 (by kernel_rfl) (by kernel_rfl) (by kernel_rfl) ?hqc27 (Or.inl ⟨?hwc27, ?hyc27⟩) (by assumption) ?_
        case hic27 => (simp only [List.getElem?_toArray, List.getElem?_cons_succ, List.getElem?_cons_zero]; all_goals rfl)
        case hqc27 => exact fun _ _ _ h => h
        case hwc27 => rfl
        case hyc27 => ((intro w hSw; (try dsimp only at hSw); go_simp); all_goals (first | with_reducible rfl))
        try simp only [Act.put, List.setIfInBounds_toArray, List.set_cons_zero, List.set_cons_succ]
        refine wpAnyH_take (i := 28) (oi := ?oc28) (v := ?vc28) ?hic28 (by kernel_rfl) (by kernel_rfl) (by kernel_rfl) ?hqc28 (Or.inl ⟨?hwc28, ?hyc28⟩) (by assumption) ?_
        case hic28 => (simp only [List.getElem?_toArray, List.getElem?_cons_succ, List.getElem?_cons_zero]; all_goals rfl)
        case hqc28 => exact fun _ _ _ h => h
        case hwc28 => rfl
        case hyc28 => ((intro w hSw; (try dsimp only at hSw); go_simp); all_goals (first | with_reducible rfl))
        try simp only [Act.put, List.setIfInBounds_toArray, List.set_cons_zero, List.set_cons_succ]
        refine wpAnyH_take (i := 29) (oi := ?oc29) (v := ?vc29) ?hic29 (by kernel_rfl) (by kernel_rfl) (by kernel_rfl) ?hqc29 (Or.inl ⟨?hwc29, ?hyc29⟩) (by assumption) ?_
        case hic29 => (simp only [List.getElem?_toArray, List.getElem?_cons_succ, List.getElem?_cons_zero]; all_goals rfl)
        case hqc29 => exact fun _ _ _ h => h
        case hwc29 => rfl
        case hyc29 => ((intro w hSw; (try dsimp only at hSw); go_simp); all_goals (first | with_reducible rfl))
        try simp only [Act.put, List.setIfInBounds_toArray, List.set_cons_zero, List.set_cons_succ]
        refine wpAnyH_take (i := 30) (oi := ?oc30) (v := ?vc30) ?hic30 (by kernel_rfl) (by kernel_rfl) (by kernel_rfl) ?hqc30 (Or.inl ⟨?hwc30, ?hyc30⟩) (by assumption) ?_
        case hic30 => (simp only [List.getElem?_toArray, List.getElem?_cons_succ, List.getElem?_cons_zero]; all_goals rfl)
        case hqc30 => exact fun _ _ _ h => h
        case hwc30 => rfl
        case hyc30 => ((intro w hSw; (try dsimp only at hSw); go_simp); all_goals (first | with_reducible rfl))
        try simp only [Act.put, List.setIfInBounds_toArray, List.set_cons_zero, List.set_cons_succ]
        refine wpAnyH_take (i := 31) (oi := ?oc31) (v := ?vc31) ?hic31 (by kernel_rfl) (by kernel_rfl) (by kernel_rfl) ?hqc31 (Or.inl ⟨?hwc31, ?hyc31⟩) (by assumption) ?_
        case hic31 => (simp only [List.getElem?_toArray, List.getElem?_cons_succ, List.getElem?_cons_zero]; all_goals rfl)
        case hqc31 => exact fun _ _ _ h => h
        case hwc31 => rfl
        case hyc31 => ((intro w hSw; (try dsimp only at hSw); go_simp); all_goals (first | with_reducible rfl))
        try simp only [Act.put, List.setIfInBounds_toArray, List.set_cons_zero, List.set_cons_succ]
        refine wpAnyH_take (i := 32) (oi := ?oc32) (v := ?vc32) ?hic32 (by kernel_rfl) (by kernel_rfl) (by kernel_rfl) ?hqc32 (Or.inl ⟨?hwc32, ?hyc32⟩) (by assumption) ?_
        case hic32 => (simp only [List.getElem?_toArray, List.getElem?_cons_succ, List.getElem?_cons_zero]; all_goals rfl)
        case hqc32 => exact fun _ _ _ h => h
        case hwc32 => rfl
        case hyc32 => ((intro w hSw; (try dsimp only at hSw); go_simp); all_goals (first | with_reducible rfl))
        try simp only [Act.put, List.setIfInBounds_toArray, List.set_cons_zero, List.set_cons_succ]
        refine wpAnyH_take (i := 33) (oi := ?oc33) (v := ?vc33) ?hic33 (by kernel_rfl) (by kernel_rfl) (by kernel_rfl) ?hqc33 (Or.inl ⟨?hwc33, ?hyc33⟩) (by assumption) ?_
        case hic33 => (simp only [List.getElem?_toArray, List.getElem?_cons_succ, List.getElem?_cons_zero]; all_goals rfl)
        case hqc33 => exact fun _ _ _ h => h
        case hwc33 => rfl
        case hyc33 => ((intro w hSw; (try dsimp only at hSw); go_simp); all_goals (first | with_reducible rfl))
        try simp only [Act.put, List.setIfInBounds_toArray, List.set_cons_zero, List.set_cons_succ]
        refine wpAnyH_take (i := 34) (oi := ?oc34) (v := ?vc34) ?hic34 (by kernel_rfl) (by kernel_rfl) (by kernel_rfl) ?hqc34 (Or.inl ⟨?hwc34, ?hyc34⟩) (by assumption) ?_
        case hic34 => (simp only [List.getElem?_toArray, List.getElem?_cons_succ, List.getElem?_cons_zero]; all_goals rfl)
        case hqc34 => exact fun _ _ _ h => h
        case hwc34 => rfl
        case hyc34 => ((intro w hSw; (try dsimp only at hSw); go_simp); all_goals (first | with_reducible rfl))
        try simp only [Act.put, List.setIfInBounds_toArray, List.set_cons_zero, List.set_cons_succ]
        refine wpAnyH_take (i := 35) (oi := ?oc35) (v := ?vc35) ?hic35 (by kernel_rfl) (by kernel_rfl) (by kernel_rfl) ?hqc35 (Or.inl ⟨?hwc35, ?hyc35⟩) (by assumption) ?_
        case hic35 => (simp only [List.getElem?_toArray, List.getElem?_cons_succ, List.getElem?_cons_zero]; all_goals rfl)
        case hqc35 => exact fun _ _ _ h => h
        case hwc35 => rfl
        case hyc35 => ((intro w hSw; (try dsimp only at hSw); go_simp); all_goals (first | with_reducible rfl))
        try simp only [Act.put, List.setIfInBounds_toArray, List.set_cons_zero, List.set_cons_succ]
        refine wpAnyH_done (by kernel_rfl) ?_ _
        have BF := Lib.hid ((B6.out.setCell (p := ⟨w.heap.size + 1, 0, none⟩) (by simp) (.int .i64 0)).setCell (p := ⟨w.heap.size + 1, 1, none⟩) (by simp) (.int .i64 0))
        clear h0 h1 h2 h3
        obtain ⟨h0, h1, h2, h3⟩ := two_cells E6.out
        obtain ⟨e0, e1, _, _⟩ := two_cells (two_set E6.out 0 0)
        go_wp2_with fail
        refine bodyPost_ret (v := .tuple #[shV 0 0, .int .i64 5]) (by simp [results, Try.results43, go_sem, e0, e1]) rfl (ShPost.mk rfl HV.out BF.out)
      have NO : Hid (¬ (k2 - k0 < 0 ∨ k1 - k3 < 0 ∨ k2 - k0 + (k1 - k3) = 0)) := by
        refine Lib.hid ?_
        rintro (h | h | h)
        · omega
        · omega
        · exact hE ⟨by omega, by omega⟩
      have IT := Lib.hid (fun (a b c d : Int) (t : Bool) (h : (t = true ↔ a = b ∧ c = d)) (w : World) => (show (if a = b then if c = d then Result.ok (Next.value (Value.bool true)) w else Result.ok (Next.value (Value.bool false)) w else Result.ok (Next.value (Value.bool false)) w) = Result.ok (Next.value (Value.bool t)) w by
        by_cases h1 : a = b
        · by_cases h2 : c = d
          · rw [if_pos h1, if_pos h2, h.2 ⟨h1, h2⟩]
          · rw [if_pos h1, if_neg h2, show t = false by cases t; rfl; exact absurd (h.1 rfl).2 h2]
        · rw [if_neg h1, show t = false by cases t; rfl; exact absurd (h.1 rfl).1 h1]))
      by_cases hE1 : k0 = k2
      · have HX := Lib.hid (IT.out (sN k0) (sN k2) (sD k0) (sD k2) true ⟨fun _ => ⟨by rw [hE1], by rw [hE1]⟩, fun _ => rfl⟩)
        have HY := Lib.hid (IT.out (sN k1) (sN k3) (sD k1) (sD k3) false ⟨fun h => absurd h (by decide), fun h => absurd ⟨hE1, HI.out.2 h.1 h.2⟩ hE⟩)
        clear hE hE1
        go_wp2_with fail
        refine wp_region_held_drew (S := fun w' => w'.cell? ⟨gl, 0, none⟩ = some (.int .i64 (sN k0)) ∧ w'.cell? ⟨gl, 1, none⟩ = some (.int .i64 (sD k0)) ∧ w'.cell? ⟨gl, 2, none⟩ = some (.int .i64 (sN k1)) ∧ w'.cell? ⟨gl, 3, none⟩ = some (.int .i64 (sD k1)) ∧ w'.cell? ⟨gl, 4, none⟩ = some (.int .i64 (sN k2)) ∧ w'.cell? ⟨gl, 5, none⟩ = some (.int .i64 (sD k2)) ∧ w'.cell? ⟨gl, 6, none⟩ = some (.int .i64 (sN k3)) ∧ w'.cell? ⟨gl, 7, none⟩ = some (.int .i64 (sD k3))) (by kernel_rfl) ?_ (fun hHeld => ?_)
        · exact HQ.out.flat
        refine wpAnyH_take (i := 0) (oi := ?od0) (v := ?vd0) ?hid0 (by kernel_rfl) (by kernel_rfl) (by kernel_rfl) ?hqd0 (Or.inl ⟨?hwd0, ?hyd0⟩) (by assumption) ?_
        case hid0 => (simp only [List.getElem?_toArray, List.getElem?_cons_zero]; all_goals rfl)
        case hqd0 => exact fun _ _ _ h => h
        case hwd0 => rfl
        case hyd0 => ((intro w hSw; (try dsimp only at hSw); go_simp); all_goals (first | with_reducible rfl | exact HX.out _ | exact HY.out _))
        try simp only [Act.put, List.setIfInBounds_toArray, List.set_cons_zero, List.set_cons_succ]
        refine wpAnyH_take (i := 1) (oi := ?od1) (v := ?vd1) ?hid1 (by kernel_rfl) (by kernel_rfl) (by kernel_rfl) ?hqd1 (Or.inl ⟨?hwd1, ?hyd1⟩) (by assumption) ?_
        case hid1 => (simp only [List.getElem?_toArray, List.getElem?_cons_succ, List.getElem?_cons_zero]; all_goals rfl)
        case hqd1 => exact fun _ _ _ h => h
        case hwd1 => rfl
        case hyd1 => ((intro w hSw; (try dsimp only at hSw); go_simp); all_goals (first | with_reducible rfl | exact HX.out _ | exact HY.out _))
        try simp only [Act.put, List.setIfInBounds_toArray, List.set_cons_zero, List.set_cons_succ]
        refine wpAnyH_take (i := 2) (oi := ?od2) (v := ?vd2) ?hid2 (by kernel_rfl) (by kernel_rfl) (by kernel_rfl) ?hqd2 (Or.inl ⟨?hwd2, ?hyd2⟩) (by assumption) ?_
        case hid2 => (simp only [List.getElem?_toArray, List.getElem?_cons_succ, List.getElem?_cons_zero]; all_goals rfl)
        case hqd2 => exact fun _ _ _ h => h
        case hwd2 => rfl
        case hyd2 => ((intro w hSw; (try dsimp only at hSw); go_simp); all_goals (first | with_reducible rfl | exact HX.out _ | exact HY.out _))
        try simp only [Act.put, List.setIfInBounds_toArray, List.set_cons_zero, List.set_cons_succ]
        refine wpAnyH_take (i := 3) (oi := ?od3) (v := ?vd3) ?hid3 (by kernel_rfl) (by kernel_rfl) (by kernel_rfl) ?hqd3 (Or.inl ⟨?hwd3, ?hyd3⟩) (by assumption) ?_
        case hid3 => (simp only [List.getElem?_toArray, List.getElem?_cons_succ, List.getElem?_cons_zero]; all_goals rfl)
        case hqd3 => exact fun _ _ _ h => h
        case hwd3 => rfl
        case hyd3 => ((intro w hSw; (try dsimp only at hSw); go_simp); all_goals (first | with_reducible rfl | exact HX.out _ | exact HY.out _))
        try simp only [Act.put, List.setIfInBounds_toArray, List.set_cons_zero, List.set_cons_succ]
        refine wpAnyH_take (i := 4) (oi := ?od4) (v := ?vd4) ?hid4 (by kernel_rfl) (by kernel_rfl) (by kernel_rfl) ?hqd4 (Or.inl ⟨?hwd4, ?hyd4⟩) (by assumption) ?_
        case hid4 => (simp only [List.getElem?_toArray, List.getElem?_cons_succ, List.getElem?_cons_zero]; all_goals rfl)
        case hqd4 => exact fun _ _ _ h => h
        case hwd4 => rfl
        case hyd4 => ((intro w hSw; (try dsimp only at hSw); go_simp); all_goals (first | with_reducible rfl | exact HX.out _ | exact HY.out _))
        try simp only [Act.put, List.setIfInBounds_toArray, List.set_cons_zero, List.set_cons_succ]
        refine wpAnyH_take (i := 5) (oi := ?od5) (v := ?vd5) ?hid5 (by kernel_rfl) (by kernel_rfl) (by kernel_rfl) ?hqd5 (Or.inl ⟨?hwd5, ?hyd5⟩) (by assumption) ?_
        case hid5 => (simp only [List.getElem?_toArray, List.getElem?_cons_succ, List.getElem?_cons_zero]; all_goals rfl)
        case hqd5 => exact fun _ _ _ h => h
        case hwd5 => rfl
        case hyd5 => ((intro w hSw; (try dsimp only at hSw); go_simp); all_goals (first | with_reducible rfl | exact HX.out _ | exact HY.out _))
        try simp only [Act.put, List.setIfInBounds_toArray, List.set_cons_zero, List.set_cons_succ]
        refine wpAnyH_ready (rs := [6]) (by kernel_rfl) (by simp) ?_
        refine AllReadyH.cons rfl (fun K hK => ?_) AllReadyH.nil
        go_simp
        go_at_call 56
        with_reducible refine (C1.out w2.drew).mono ?_
        rintro e p1 ⟨rfl, hb⟩
        replace HQ := Lib.hid (L8.below (w := w2.drew) HQ.out hb hgl3)
        have s1s : w2.heap.size ≤ p1.heap.size := hb.size
        have W1 := Lib.hid (HW2.out.trans (hb.mono (Nat.le_refl _)))
        have E5 := Lib.hid (rowIs_below (w := w2.drew) E4.out hb E4.out.lt)
        have B5 := Lib.hid (B4.out.trans (hb.mono B4.out.size))
        clear hb
        go_wp2_with fail
        refine hK.out _ _ ?_ (fun hHeld => ?_)
        · exact HQ.out.flat
        clear hK K
        try simp only [Act.put, List.setIfInBounds_toArray, List.set_cons_zero, List.set_cons_succ]
        refine wpAnyH_take (i := 7) (oi := ?od7) (v := ?vd7) ?hid7 (by kernel_rfl) (by kernel_rfl) (by kernel_rfl) ?hqd7 (Or.inl ⟨?hwd7, ?hyd7⟩) (by assumption) ?_
        case hid7 => (simp only [List.getElem?_toArray, List.getElem?_cons_succ, List.getElem?_cons_zero]; all_goals rfl)
        case hqd7 => exact fun _ _ _ h => h
        case hwd7 => rfl
        case hyd7 => ((intro w hSw; (try dsimp only at hSw); go_simp); all_goals (first | with_reducible rfl | exact HX.out _ | exact HY.out _))
        try simp only [Act.put, List.setIfInBounds_toArray, List.set_cons_zero, List.set_cons_succ]
        refine wpAnyH_take (i := 8) (oi := ?od8) (v := ?vd8) ?hid8 (by kernel_rfl) (by kernel_rfl) (by kernel_rfl) ?hqd8 (Or.inl ⟨?hwd8, ?hyd8⟩) (by assumption) ?_
        case hid8 => (simp only [List.getElem?_toArray, List.getElem?_cons_succ, List.getElem?_cons_zero]; all_goals rfl)
        case hqd8 => exact fun _ _ _ h => h
        case hwd8 => rfl
        case hyd8 => ((intro w hSw; (try dsimp only at hSw); go_simp); all_goals (first | with_reducible rfl | exact HX.out _ | exact HY.out _))
        try simp only [Act.put, List.setIfInBounds_toArray, List.set_cons_zero, List.set_cons_succ]
        refine wpAnyH_take (i := 9) (oi := ?od9) (v := ?vd9) ?hid9 (by kernel_rfl) (by kernel_rfl) (by kernel_rfl) ?hqd9 (Or.inl ⟨?hwd9, ?hyd9⟩) (by assumption) ?_
        case hid9 => (simp only [List.getElem?_toArray, List.getElem?_cons_succ, List.getElem?_cons_zero]; all_goals rfl)
        case hqd9 => exact fun _ _ _ h => h
        case hwd9 => rfl
        case hyd9 => ((intro w hSw; (try dsimp only at hSw); go_simp); all_goals (first | with_reducible rfl | exact HX.out _ | exact HY.out _))
        try simp only [Act.put, List.setIfInBounds_toArray, List.set_cons_zero, List.set_cons_succ]
        refine wpAnyH_take (i := 10) (oi := ?od10) (v := ?vd10) ?hid10 (by kernel_rfl) (by kernel_rfl) (by kernel_rfl) ?hqd10 (Or.inl ⟨?hwd10, ?hyd10⟩) (by assumption) ?_
        case hid10 => (simp only [List.getElem?_toArray, List.getElem?_cons_succ, List.getElem?_cons_zero]; all_goals rfl)
        case hqd10 => exact fun _ _ _ h => h
        case hwd10 => rfl
        case hyd10 => ((intro w hSw; (try dsimp only at hSw); go_simp); all_goals (first | with_reducible rfl | exact HX.out _ | exact HY.out _))
        try simp only [Act.put, List.setIfInBounds_toArray, List.set_cons_zero, List.set_cons_succ]
        refine wpAnyH_take (i := 11) (oi := ?od11) (v := ?vd11) ?hid11 (by kernel_rfl) (by kernel_rfl) (by kernel_rfl) ?hqd11 (Or.inl ⟨?hwd11, ?hyd11⟩) (by assumption) ?_
        case hid11 => (simp only [List.getElem?_toArray, List.getElem?_cons_succ, List.getElem?_cons_zero]; all_goals rfl)
        case hqd11 => exact fun _ _ _ h => h
        case hwd11 => rfl
        case hyd11 => ((intro w hSw; (try dsimp only at hSw); go_simp); all_goals (first | with_reducible rfl | exact HX.out _ | exact HY.out _))
        try simp only [Act.put, List.setIfInBounds_toArray, List.set_cons_zero, List.set_cons_succ]
        refine wpAnyH_take (i := 12) (oi := ?od12) (v := ?vd12) ?hid12 (by kernel_rfl) (by kernel_rfl) (by kernel_rfl) ?hqd12 (Or.inl ⟨?hwd12, ?hyd12⟩) (by assumption) ?_
        case hid12 => (simp only [List.getElem?_toArray, List.getElem?_cons_succ, List.getElem?_cons_zero]; all_goals rfl)
        case hqd12 => exact fun _ _ _ h => h
        case hwd12 => rfl
        case hyd12 => ((intro w hSw; (try dsimp only at hSw); go_simp); all_goals (first | with_reducible rfl | exact HX.out _ | exact HY.out _))
        try simp only [Act.put, List.setIfInBounds_toArray, List.set_cons_zero, List.set_cons_succ]
        refine wpAnyH_take (i := 13) (oi := ?od13) (v := ?vd13) ?hid13 (by kernel_rfl) (by kernel_rfl) (by kernel_rfl) ?hqd13 (Or.inl ⟨?hwd13, ?hyd13⟩) (by assumption) ?_
        case hid13 => (simp only [List.getElem?_toArray, List.getElem?_cons_succ, List.getElem?_cons_zero]; all_goals rfl)
        case hqd13 => exact fun _ _ _ h => h
        case hwd13 => rfl
        case hyd13 => ((intro w hSw; (try dsimp only at hSw); go_simp); all_goals (first | with_reducible rfl | exact HX.out _ | exact HY.out _))
        try simp only [Act.put, List.setIfInBounds_toArray, List.set_cons_zero, List.set_cons_succ]
        refine wpAnyH_take (i := 14) (oi := ?od14) (v := ?vd14) ?hid14 (by kernel_rfl) (by kernel_rfl) (by kernel_rfl) ?hqd14 (Or.inl ⟨?hwd14, ?hyd14⟩) (by assumption) ?_
        case hid14 => (simp only [List.getElem?_toArray, List.getElem?_cons_succ, List.getElem?_cons_zero]; all_goals rfl)
        case hqd14 => exact fun _ _ _ h => h
        case hwd14 => rfl
        case hyd14 => ((intro w hSw; (try dsimp only at hSw); go_simp); all_goals (first | with_reducible rfl | exact HX.out _ | exact HY.out _))
        try simp only [Act.put, List.setIfInBounds_toArray, List.set_cons_zero, List.set_cons_succ]
        refine wpAnyH_ready (rs := [15]) (by kernel_rfl) (by simp) ?_
        refine AllReadyH.cons rfl (fun K hK => ?_) AllReadyH.nil
        go_simp
        go_at_call 56
        with_reducible refine (C2.out p1).mono ?_
        rintro e p2 ⟨rfl, hb⟩
        replace HQ := Lib.hid (L8.below (w := p1) HQ.out hb (by omega))
        have s2s : p1.heap.size ≤ p2.heap.size := hb.size
        have W2 := Lib.hid (W1.out.trans (hb.mono s1s))
        have E6 := Lib.hid (rowIs_below (w := p1) E5.out hb E5.out.lt)
        have B6 := Lib.hid (B5.out.trans (hb.mono B5.out.size))
        clear hb
        go_wp2_with fail
        refine hK.out _ _ ?_ (fun hHeld => ?_)
        · exact HQ.out.flat
        clear hK K
        try simp only [Act.put, List.setIfInBounds_toArray, List.set_cons_zero, List.set_cons_succ]
        refine wpAnyH_take (i := 16) (oi := ?od16) (v := ?vd16) ?hid16 (by kernel_rfl) (by kernel_rfl) (by kernel_rfl) ?hqd16 (Or.inl ⟨?hwd16, ?hyd16⟩) (by assumption) ?_
        case hid16 => (simp only [List.getElem?_toArray, List.getElem?_cons_succ, List.getElem?_cons_zero]; all_goals rfl)
        case hqd16 => exact fun _ _ _ h => h
        case hwd16 => rfl
        case hyd16 => ((intro w hSw; (try dsimp only at hSw); go_simp); all_goals (first | with_reducible rfl | exact HX.out _ | exact HY.out _))
        try simp only [Act.put, List.setIfInBounds_toArray, List.set_cons_zero, List.set_cons_succ]
        refine wpAnyH_take (i := 17) (oi := ?od17) (v := ?vd17) ?hid17 (by kernel_rfl) (by kernel_rfl) (by kernel_rfl) ?hqd17 (Or.inl ⟨?hwd17, ?hyd17⟩) (by assumption) ?_
        case hid17 => (simp only [List.getElem?_toArray, List.getElem?_cons_succ, List.getElem?_cons_zero]; all_goals rfl)
        case hqd17 => exact fun _ _ _ h => h
        case hwd17 => rfl
        case hyd17 => ((intro w hSw; (try dsimp only at hSw); go_simp); all_goals (first | with_reducible rfl | exact HX.out _ | exact HY.out _))
        try simp only [Act.put, List.setIfInBounds_toArray, List.set_cons_zero, List.set_cons_succ]
        refine wpAnyH_take (i := 18) (oi := ?od18) (v := ?vd18) ?hid18 (by kernel_rfl) (by kernel_rfl) (by kernel_rfl) ?hqd18 (Or.inl ⟨?hwd18, ?hyd18⟩) (by assumption) ?_
        case hid18 => (simp only [List.getElem?_toArray, List.getElem?_cons_succ, List.getElem?_cons_zero]; all_goals rfl)
        case hqd18 => exact fun _ _ _ h => h
        case hwd18 => rfl
        case hyd18 => ((intro w hSw; (try dsimp only at hSw); go_simp); all_goals (first | with_reducible rfl | exact HX.out _ | exact HY.out _))
        try simp only [Act.put, List.setIfInBounds_toArray, List.set_cons_zero, List.set_cons_succ]
        refine wpAnyH_take (i := 19) (oi := ?od19) (v := ?vd19) ?hid19 (by kernel_rfl) (by kernel_rfl) (by kernel_rfl) ?hqd19 (Or.inl ⟨?hwd19, ?hyd19⟩) (by assumption) ?_
        case hid19 => (simp only [List.getElem?_toArray, List.getElem?_cons_succ, List.getElem?_cons_zero]; all_goals rfl)
        case hqd19 => exact fun _ _ _ h => h
        case hwd19 => rfl
        case hyd19 => ((intro w hSw; (try dsimp only at hSw); go_simp); all_goals (first | with_reducible rfl | exact HX.out _ | exact HY.out _))
        try simp only [Act.put, List.setIfInBounds_toArray, List.set_cons_zero, List.set_cons_succ]
        refine wpAnyH_take (i := 20) (oi := ?od20) (v := ?vd20) ?hid20 (by kernel_rfl) (by kernel_rfl) (by kernel_rfl) ?hqd20 (Or.inl ⟨?hwd20, ?hyd20⟩) (by assumption) ?_
        case hid20 => (simp only [List.getElem?_toArray, List.getElem?_cons_succ, List.getElem?_cons_zero]; all_goals rfl)
        case hqd20 => exact fun _ _ _ h => h
        case hwd20 => rfl
        case hyd20 => ((intro w hSw; (try dsimp only at hSw); go_simp); all_goals (first | with_reducible rfl | exact HX.out _ | exact HY.out _))
        try simp only [Act.put, List.setIfInBounds_toArray, List.set_cons_zero, List.set_cons_succ]
        refine wpAnyH_take (i := 21) (oi := ?od21) (v := ?vd21) ?hid21 (by kernel_rfl) (by kernel_rfl) (by kernel_rfl) ?hqd21 (Or.inl ⟨?hwd21, ?hyd21⟩) (by assumption) ?_
        case hid21 => (simp only [List.getElem?_toArray, List.getElem?_cons_succ, List.getElem?_cons_zero]; all_goals rfl)
        case hqd21 => exact fun _ _ _ h => h
        case hwd21 => rfl
        case hyd21 => ((intro w hSw; (try dsimp only at hSw); go_simp); all_goals (first | with_reducible rfl | exact HX.out _ | exact HY.out _))
        try simp only [Act.put, List.setIfInBounds_toArray, List.set_cons_zero, List.set_cons_succ]
        refine wpAnyH_take (i := 22) (oi := ?od22) (v := ?vd22) ?hid22 (by kernel_rfl) (by kernel_rfl) (by kernel_rfl) ?hqd22 (Or.inl ⟨?hwd22, ?hyd22⟩) (by assumption) ?_
        case hid22 => (simp only [List.getElem?_toArray, List.getElem?_cons_succ, List.getElem?_cons_zero]; all_goals rfl)
        case hqd22 => exact fun _ _ _ h => h
        case hwd22 => rfl
        case hyd22 => ((intro w hSw; (try dsimp only at hSw); go_simp); all_goals (first | with_reducible rfl | exact HX.out _ | exact HY.out _))
        try simp only [Act.put, List.setIfInBounds_toArray, List.set_cons_zero, List.set_cons_succ]
        refine wpAnyH_take (i := 23) (oi := ?od23) (v := ?vd23) ?hid23 (by kernel_rfl) (by kernel_rfl) (by kernel_rfl) ?hqd23 (Or.inl ⟨?hwd23, ?hyd23⟩) (by assumption) ?_
        case hid23 => (simp only [List.getElem?_toArray, List.getElem?_cons_succ, List.getElem?_cons_zero]; all_goals rfl)
        case hqd23 => exact fun _ _ _ h => h
        case hwd23 => rfl
        case hyd23 => ((intro w hSw; (try dsimp only at hSw); go_simp); all_goals (first | with_reducible rfl | exact HX.out _ | exact HY.out _))
        try simp only [Act.put, List.setIfInBounds_toArray, List.set_cons_zero, List.set_cons_succ]
        refine wpAnyH_take (i := 24) (oi := ?od24) (v := ?vd24) ?hid24 (by kernel_rfl) (by kernel_rfl) (by kernel_rfl) ?hqd24 (Or.inl ⟨?hwd24, ?hyd24⟩) (by assumption) ?_
        case hid24 => (simp only [List.getElem?_toArray, List.getElem?_cons_succ, List.getElem?_cons_zero]; all_goals rfl)
        case hqd24 => exact fun _ _ _ h => h
        case hwd24 => rfl
        case hyd24 => ((intro w hSw; (try dsimp only at hSw); go_simp); all_goals (first | with_reducible rfl | exact HX.out _ | exact HY.out _))
        try simp only [Act.put, List.setIfInBounds_toArray, List.set_cons_zero, List.set_cons_succ]
        refine wpAnyH_take (i := 25) (oi := ?od25) (v := ?vd25) ?hid25 (by kernel_rfl) (by kernel_rfl) (by kernel_rfl) ?hqd25 (Or.inl ⟨?hwd25, ?hyd25⟩) (by assumption) ?_
        case hid25 => (simp only [List.getElem?_toArray, List.getElem?_cons_succ, List.getElem?_cons_zero]; all_goals rfl)
        case hqd25 => exact fun _ _ _ h => h
        case hwd25 => rfl
        case hyd25 => ((intro w hSw; (try dsimp only at hSw); go_simp); all_goals (first | with_reducible rfl | exact HX.out _ | exact HY.out _))
        try simp only [Act.put, List.setIfInBounds_toArray, List.set_cons_zero, List.set_cons_succ]
        refine wpAnyH_take (i := 26) (oi := ?od26) (v := ?vd26) ?hid26 (by kernel_rfl) (by kernel_rfl) (by kernel_rfl) ?hqd26 (Or.inl ⟨?hwd26, ?hyd26⟩) (by assumption) ?_
        case hid26 => (simp only [List.getElem?_toArray, List.getElem?_cons_succ, List.getElem?_cons_zero]; all_goals rfl)
        case hqd26 => exact fun _ _ _ h => h
        case hwd26 => rfl
        case hyd26 => ((intro w hSw; (try dsimp only at hSw); go_simp); all_goals (first | with_reducible rfl | exact HX.out _ | exact HY.out _))
        try simp only [Act.put, List.setIfInBounds_toArray, List.set_cons_zero, List.set_cons_succ]
        refine wpAnyH_take (i := 27) (oi := ?od27) (v := ?vd27) ?hid27 (by kernel_rfl) (by kernel_rfl) (by kernel_rfl) ?hqd27 (Or.inl ⟨?hwd27, ?hyd27⟩) (by assumption) ?_
        case hid27 => (simp only [List.getElem?_toArray, List.getElem?_cons_succ, List.getElem?_cons_zero]; all_goals rfl)
        case hqd27 => exact fun _ _ _ h => h
        case hwd27 => rfl
        case hyd27 => ((intro w hSw; (try dsimp only at hSw); go_simp); all_goals (first | with_reducible rfl | exact HX.out _ | exact HY.out _))
        try simp only [Act.put, List.setIfInBounds_toArray, List.set_cons_zero, List.set_cons_succ]
        refine wpAnyH_take (i := 28) (oi := ?od28) (v := ?vd28) ?hid28 (by kernel_rfl) (by kernel_rfl) (by kernel_rfl) ?hqd28 (Or.inl ⟨?hwd28, ?hyd28⟩) (by assumption) ?_
        case hid28 => (simp only [List.getElem?_toArray, List.getElem?_cons_succ, List.getElem?_cons_zero]; all_goals rfl)
        case hqd28 => exact fun _ _ _ h => h
        case hwd28 => rfl
        case hyd28 => ((intro w hSw; (try dsimp only at hSw); go_simp); all_goals (first | with_reducible rfl | exact HX.out _ | exact HY.out _))
        try simp only [Act.put, List.setIfInBounds_toArray, List.set_cons_zero, List.set_cons_succ]
        refine wpAnyH_take (i := 29) (oi := ?od29) (v := ?vd29) ?hid29 (by kernel_rfl) (by kernel_rfl) (by kernel_rfl) ?hqd29 (Or.inl ⟨?hwd29, ?hyd29⟩) (by assumption) ?_
        case hid29 => (simp only [List.getElem?_toArray, List.getElem?_cons_succ, List.getElem?_cons_zero]; all_goals rfl)
        case hqd29 => exact fun _ _ _ h => h
        case hwd29 => rfl
        case hyd29 => ((intro w hSw; (try dsimp only at hSw); go_simp); all_goals (first | with_reducible rfl | exact HX.out _ | exact HY.out _))
        try simp only [Act.put, List.setIfInBounds_toArray, List.set_cons_zero, List.set_cons_succ]
        refine wpAnyH_take (i := 30) (oi := ?od30) (v := ?vd30) ?hid30 (by kernel_rfl) (by kernel_rfl) (by kernel_rfl) ?hqd30 (Or.inl ⟨?hwd30, ?hyd30⟩) (by assumption) ?_
        case hid30 => (simp only [List.getElem?_toArray, List.getElem?_cons_succ, List.getElem?_cons_zero]; all_goals rfl)
        case hqd30 => exact fun _ _ _ h => h
        case hwd30 => rfl
        case hyd30 => ((intro w hSw; (try dsimp only at hSw); go_simp); all_goals (first | with_reducible rfl | exact HX.out _ | exact HY.out _))
        try simp only [Act.put, List.setIfInBounds_toArray, List.set_cons_zero, List.set_cons_succ]
        refine wpAnyH_take (i := 31) (oi := ?od31) (v := ?vd31) ?hid31 (by kernel_rfl) (by kernel_rfl) (by kernel_rfl) ?hqd31 (Or.inl ⟨?hwd31, ?hyd31⟩) (by assumption) ?_
        case hid31 => (simp only [List.getElem?_toArray, List.getElem?_cons_succ, List.getElem?_cons_zero]; all_goals rfl)
        case hqd31 => exact fun _ _ _ h => h
        case hwd31 => rfl
        case hyd31 => ((intro w hSw; (try dsimp only at hSw); go_simp); all_goals (first | with_reducible rfl | exact HX.out _ | exact HY.out _))
        try simp only [Act.put, List.setIfInBounds_toArray, List.set_cons_zero, List.set_cons_succ]
        refine wpAnyH_take (i := 32) (oi := ?od32) (v := ?vd32) ?hid32 (by kernel_rfl) (by kernel_rfl) (by kernel_rfl) ?hqd32 (Or.inl ⟨?hwd32, ?hyd32⟩) (by assumption) ?_
        case hid32 => (simp only [List.getElem?_toArray, List.getElem?_cons_succ, List.getElem?_cons_zero]; all_goals rfl)
        case hqd32 => exact fun _ _ _ h => h
        case hwd32 => rfl
        case hyd32 => ((intro w hSw; (try dsimp only at hSw); go_simp); all_goals (first | with_reducible rfl | exact HX.out _ | exact HY.out _))
        try simp only [Act.put, List.setIfInBounds_toArray, List.set_cons_zero, List.set_cons_succ]
        refine wpAnyH_take (i := 33) (oi := ?od33) (v := ?vd33) ?hid33 (by kernel_rfl) (by kernel_rfl) (by kernel_rfl) ?hqd33 (Or.inl ⟨?hwd33, ?hyd33⟩) (by assumption) ?_
        case hid33 => (simp only [List.getElem?_toArray, List.getElem?_cons_succ, List.getElem?_cons_zero]; all_goals rfl)
        case hqd33 => exact fun _ _ _ h => h
        case hwd33 => rfl
        case hyd33 => ((intro w hSw; (try dsimp only at hSw); go_simp); all_goals (first | with_reducible rfl | exact HX.out _ | exact HY.out _))
        try simp only [Act.put, List.setIfInBounds_toArray, List.set_cons_zero, List.set_cons_succ]
        refine wpAnyH_take (i := 34) (oi := ?od34) (v := ?vd34) ?hid34 (by kernel_rfl) (by kernel_rfl) (by kernel_rfl) ?hqd34 (Or.inl ⟨?hwd34, ?hyd34⟩) (by assumption) ?_
        case hid34 => (simp only [List.getElem?_toArray, List.getElem?_cons_succ, List.getElem?_cons_zero]; all_goals rfl)
        case hqd34 => exact fun _ _ _ h => h
        case hwd34 => rfl
        case hyd34 => ((intro w hSw; (try dsimp only at hSw); go_simp); all_goals (first | with_reducible rfl | exact HX.out _ | exact HY.out _))
        try simp only [Act.put, List.setIfInBounds_toArray, List.set_cons_zero, List.set_cons_succ]
        refine wpAnyH_take (i := 35) (oi := ?od35) (v := ?vd35) ?hid35 (by kernel_rfl) (by kernel_rfl) (by kernel_rfl) ?hqd35 (Or.inl ⟨?hwd35, ?hyd35⟩) (by assumption) ?_
        case hid35 => (simp only [List.getElem?_toArray, List.getElem?_cons_succ, List.getElem?_cons_zero]; all_goals rfl)
        case hqd35 => exact fun _ _ _ h => h
        case hwd35 => rfl
        case hyd35 => ((intro w hSw; (try dsimp only at hSw); go_simp); all_goals (first | with_reducible rfl | exact HX.out _ | exact HY.out _))
        try simp only [Act.put, List.setIfInBounds_toArray, List.set_cons_zero, List.set_cons_succ]
        refine wpAnyH_done (by kernel_rfl) ?_ _
        go_wp2_with fail
        refine (FT.out _ W2.out).mono ?_
        rintro e w4 ⟨rfl, rfl⟩
        cases ft
        · have HV : Hid (dpV M X Y ph c = (0, 0, 3)) := HV0.out.trans (by unfold dpQ; rw [if_neg NO.out, if_pos rfl])
          have BF := Lib.hid ((B6.out.setCell (p := ⟨w.heap.size + 1, 0, none⟩) (by simp) (.int .i64 0)).setCell (p := ⟨w.heap.size + 1, 1, none⟩) (by simp) (.int .i64 0))
          clear h0 h1 h2 h3
          obtain ⟨h0, h1, h2, h3⟩ := two_cells E6.out
          obtain ⟨e0, e1, _, _⟩ := two_cells (two_set E6.out 0 0)
          go_wp2_with fail
          refine bodyPost_ret (v := .tuple #[shV 0 0, .int .i64 3]) (by simp [results, Try.results43, go_sem, e0, e1]) rfl (ShPost.mk rfl HV.out BF.out)
        · have HV1 : Hid (dpV M X Y ph c = prV (k1 - k3) (k2 - k0)) := HV0.out.trans (by unfold dpQ; rw [if_neg NO.out, if_neg (by decide)])
          obtain ⟨f0, f1, f2, f3⟩ := FO.out rfl
          obtain ⟨⟨k00, k01⟩, k10, k11⟩ := HK0.out
          obtain ⟨⟨k20, k21⟩, k30, k31⟩ := HK1.out
          have DF1 := Lib.hid (fun W => l19Diff_s k10 k11 k30 k31 (by omega) f1 f3 W)
          have DF2 := Lib.hid (fun W => l19Diff_s k20 k21 k00 k01 (by omega) f2 f0 W)
          have PA := Lib.hid (fun W => l19Parts_any (k1 - k3) (k2 - k0) W (by omega) (by omega) (by omega) (by omega) (by have := NO.out; omega) (sD_sub k10 k11 k30 k31 (by omega) f1 f3) (sD_sub k20 k21 k00 k01 (by omega) f2 f0))
          obtain ⟨N, hN⟩ : ∃ N, (prV (k1 - k3) (k2 - k0)).1 = N := ⟨_, rfl⟩
          obtain ⟨D, hD⟩ : ∃ D, (prV (k1 - k3) (k2 - k0)).2.1 = D := ⟨_, rfl⟩
          obtain ⟨Z, hZ⟩ : ∃ Z, (prV (k1 - k3) (k2 - k0)).2.2 = Z := ⟨_, rfl⟩
          unfold ShPost at PA
          rw [hN, hD, hZ] at PA
          have HV : Hid (dpV M X Y ph c = (N, D, Z)) := by
            refine Lib.hid (HV1.out.trans ?_)
            rw [← hN, ← hD, ← hZ]
          clear k00 k01 k10 k11 k20 k21 k30 k31 f0 f1 f2 f3 hN hD hZ h0 h1 h2 h3
          have W6 := Lib.hid E6.out.drew
          have W7 := Lib.hid B6.out.drew
          go_wp2_with fail
          refine wp_region_held_drew (S := fun w' => w'.cell? ⟨gl, 0, none⟩ = some (.int .i64 (sN k0)) ∧ w'.cell? ⟨gl, 1, none⟩ = some (.int .i64 (sD k0)) ∧ w'.cell? ⟨gl, 2, none⟩ = some (.int .i64 (sN k1)) ∧ w'.cell? ⟨gl, 3, none⟩ = some (.int .i64 (sD k1)) ∧ w'.cell? ⟨gl, 4, none⟩ = some (.int .i64 (sN k2)) ∧ w'.cell? ⟨gl, 5, none⟩ = some (.int .i64 (sD k2)) ∧ w'.cell? ⟨gl, 6, none⟩ = some (.int .i64 (sN k3)) ∧ w'.cell? ⟨gl, 7, none⟩ = some (.int .i64 (sD k3))) (by kernel_rfl) ?_ (fun hHeld => ?_)
          · exact HQ.out.flat
          refine wpAnyH_take (i := 0) (oi := ?odx0) (v := ?vdx0) ?hidx0 (by kernel_rfl) (by kernel_rfl) (by kernel_rfl) ?hqdx0 (Or.inl ⟨?hwdx0, ?hydx0⟩) (by assumption) ?_
          case hidx0 => (simp only [List.getElem?_toArray, List.getElem?_cons_zero]; all_goals rfl)
          case hqdx0 => exact fun _ _ _ h => h
          case hwdx0 => rfl
          case hydx0 => ((intro w hSw; (try dsimp only at hSw); go_simp); all_goals (first | with_reducible rfl))
          try simp only [Act.put, List.setIfInBounds_toArray, List.set_cons_zero, List.set_cons_succ]
          refine wpAnyH_take (i := 1) (oi := ?odx1) (v := ?vdx1) ?hidx1 (by kernel_rfl) (by kernel_rfl) (by kernel_rfl) ?hqdx1 (Or.inl ⟨?hwdx1, ?hydx1⟩) (by assumption) ?_
          case hidx1 => (simp only [List.getElem?_toArray, List.getElem?_cons_succ, List.getElem?_cons_zero]; all_goals rfl)
          case hqdx1 => exact fun _ _ _ h => h
          case hwdx1 => rfl
          case hydx1 => ((intro w hSw; (try dsimp only at hSw); go_simp); all_goals (first | with_reducible rfl))
          try simp only [Act.put, List.setIfInBounds_toArray, List.set_cons_zero, List.set_cons_succ]
          refine wpAnyH_take (i := 2) (oi := ?odx2) (v := ?vdx2) ?hidx2 (by kernel_rfl) (by kernel_rfl) (by kernel_rfl) ?hqdx2 (Or.inl ⟨?hwdx2, ?hydx2⟩) (by assumption) ?_
          case hidx2 => (simp only [List.getElem?_toArray, List.getElem?_cons_succ, List.getElem?_cons_zero]; all_goals rfl)
          case hqdx2 => exact fun _ _ _ h => h
          case hwdx2 => rfl
          case hydx2 => ((intro w hSw; (try dsimp only at hSw); go_simp); all_goals (first | with_reducible rfl))
          try simp only [Act.put, List.setIfInBounds_toArray, List.set_cons_zero, List.set_cons_succ]
          refine wpAnyH_take (i := 3) (oi := ?odx3) (v := ?vdx3) ?hidx3 (by kernel_rfl) (by kernel_rfl) (by kernel_rfl) ?hqdx3 (Or.inl ⟨?hwdx3, ?hydx3⟩) (by assumption) ?_
          case hidx3 => (simp only [List.getElem?_toArray, List.getElem?_cons_succ, List.getElem?_cons_zero]; all_goals rfl)
          case hqdx3 => exact fun _ _ _ h => h
          case hwdx3 => rfl
          case hydx3 => ((intro w hSw; (try dsimp only at hSw); go_simp); all_goals (first | with_reducible rfl))
          try simp only [Act.put, List.setIfInBounds_toArray, List.set_cons_zero, List.set_cons_succ]
          refine wpAnyH_take (i := 4) (oi := ?odx4) (v := ?vdx4) ?hidx4 (by kernel_rfl) (by kernel_rfl) (by kernel_rfl) ?hqdx4 (Or.inl ⟨?hwdx4, ?hydx4⟩) (by assumption) ?_
          case hidx4 => (simp only [List.getElem?_toArray, List.getElem?_cons_succ, List.getElem?_cons_zero]; all_goals rfl)
          case hqdx4 => exact fun _ _ _ h => h
          case hwdx4 => rfl
          case hydx4 => ((intro w hSw; (try dsimp only at hSw); go_simp); all_goals (first | with_reducible rfl))
          try simp only [Act.put, List.setIfInBounds_toArray, List.set_cons_zero, List.set_cons_succ]
          refine wpAnyH_take (i := 5) (oi := ?odx5) (v := ?vdx5) ?hidx5 (by kernel_rfl) (by kernel_rfl) (by kernel_rfl) ?hqdx5 (Or.inl ⟨?hwdx5, ?hydx5⟩) (by assumption) ?_
          case hidx5 => (simp only [List.getElem?_toArray, List.getElem?_cons_succ, List.getElem?_cons_zero]; all_goals rfl)
          case hqdx5 => exact fun _ _ _ h => h
          case hwdx5 => rfl
          case hydx5 => ((intro w hSw; (try dsimp only at hSw); go_simp); all_goals (first | with_reducible rfl))
          try simp only [Act.put, List.setIfInBounds_toArray, List.set_cons_zero, List.set_cons_succ]
          refine wpAnyH_ready (rs := [6]) (by kernel_rfl) (by simp) ?_
          refine AllReadyH.cons rfl (fun K hK => ?_) AllReadyH.nil
          go_simp
          go_at_call 58
          with_reducible refine (DF1.out p2.drew).mono ?_
          rintro e p3 ⟨rfl, hb⟩
          replace HQ := Lib.hid (L8.below (w := p2.drew) HQ.out hb (by show gl < p2.heap.size; omega))
          have s3s : p2.heap.size ≤ p3.heap.size := hb.size
          have E7 := Lib.hid (rowIs_below (w := p2.drew) E6.out.drew hb E6.out.lt)
          have B7 := Lib.hid (B6.out.drew.trans (hb.mono B6.out.size))
          clear hb
          go_wp2_with fail
          refine hK.out _ _ ?_ (fun hHeld => ?_)
          · exact HQ.out.flat
          clear hK K
          try simp only [Act.put, List.setIfInBounds_toArray, List.set_cons_zero, List.set_cons_succ]
          refine wpAnyH_take (i := 7) (oi := ?odx7) (v := ?vdx7) ?hidx7 (by kernel_rfl) (by kernel_rfl) (by kernel_rfl) ?hqdx7 (Or.inl ⟨?hwdx7, ?hydx7⟩) (by assumption) ?_
          case hidx7 => (simp only [List.getElem?_toArray, List.getElem?_cons_succ, List.getElem?_cons_zero]; all_goals rfl)
          case hqdx7 => exact fun _ _ _ h => h
          case hwdx7 => rfl
          case hydx7 => ((intro w hSw; (try dsimp only at hSw); go_simp); all_goals (first | with_reducible rfl))
          try simp only [Act.put, List.setIfInBounds_toArray, List.set_cons_zero, List.set_cons_succ]
          refine wpAnyH_take (i := 8) (oi := ?odx8) (v := ?vdx8) ?hidx8 (by kernel_rfl) (by kernel_rfl) (by kernel_rfl) ?hqdx8 (Or.inl ⟨?hwdx8, ?hydx8⟩) (by assumption) ?_
          case hidx8 => (simp only [List.getElem?_toArray, List.getElem?_cons_succ, List.getElem?_cons_zero]; all_goals rfl)
          case hqdx8 => exact fun _ _ _ h => h
          case hwdx8 => rfl
          case hydx8 => ((intro w hSw; (try dsimp only at hSw); go_simp); all_goals (first | with_reducible rfl))
          try simp only [Act.put, List.setIfInBounds_toArray, List.set_cons_zero, List.set_cons_succ]
          refine wpAnyH_take (i := 9) (oi := ?odx9) (v := ?vdx9) ?hidx9 (by kernel_rfl) (by kernel_rfl) (by kernel_rfl) ?hqdx9 (Or.inl ⟨?hwdx9, ?hydx9⟩) (by assumption) ?_
          case hidx9 => (simp only [List.getElem?_toArray, List.getElem?_cons_succ, List.getElem?_cons_zero]; all_goals rfl)
          case hqdx9 => exact fun _ _ _ h => h
          case hwdx9 => rfl
          case hydx9 => ((intro w hSw; (try dsimp only at hSw); go_simp); all_goals (first | with_reducible rfl))
          try simp only [Act.put, List.setIfInBounds_toArray, List.set_cons_zero, List.set_cons_succ]
          refine wpAnyH_take (i := 10) (oi := ?odx10) (v := ?vdx10) ?hidx10 (by kernel_rfl) (by kernel_rfl) (by kernel_rfl) ?hqdx10 (Or.inl ⟨?hwdx10, ?hydx10⟩) (by assumption) ?_
          case hidx10 => (simp only [List.getElem?_toArray, List.getElem?_cons_succ, List.getElem?_cons_zero]; all_goals rfl)
          case hqdx10 => exact fun _ _ _ h => h
          case hwdx10 => rfl
          case hydx10 => ((intro w hSw; (try dsimp only at hSw); go_simp); all_goals (first | with_reducible rfl))
          try simp only [Act.put, List.setIfInBounds_toArray, List.set_cons_zero, List.set_cons_succ]
          refine wpAnyH_take (i := 11) (oi := ?odx11) (v := ?vdx11) ?hidx11 (by kernel_rfl) (by kernel_rfl) (by kernel_rfl) ?hqdx11 (Or.inl ⟨?hwdx11, ?hydx11⟩) (by assumption) ?_
          case hidx11 => (simp only [List.getElem?_toArray, List.getElem?_cons_succ, List.getElem?_cons_zero]; all_goals rfl)
          case hqdx11 => exact fun _ _ _ h => h
          case hwdx11 => rfl
          case hydx11 => ((intro w hSw; (try dsimp only at hSw); go_simp); all_goals (first | with_reducible rfl))
          try simp only [Act.put, List.setIfInBounds_toArray, List.set_cons_zero, List.set_cons_succ]
          refine wpAnyH_done (by kernel_rfl) ?_ _
          go_wp2_with fail
          refine wp_region_held_drew (S := fun w' => w'.cell? ⟨gl, 0, none⟩ = some (.int .i64 (sN k0)) ∧ w'.cell? ⟨gl, 1, none⟩ = some (.int .i64 (sD k0)) ∧ w'.cell? ⟨gl, 2, none⟩ = some (.int .i64 (sN k1)) ∧ w'.cell? ⟨gl, 3, none⟩ = some (.int .i64 (sD k1)) ∧ w'.cell? ⟨gl, 4, none⟩ = some (.int .i64 (sN k2)) ∧ w'.cell? ⟨gl, 5, none⟩ = some (.int .i64 (sD k2)) ∧ w'.cell? ⟨gl, 6, none⟩ = some (.int .i64 (sN k3)) ∧ w'.cell? ⟨gl, 7, none⟩ = some (.int .i64 (sD k3))) (by kernel_rfl) ?_ (fun hHeld => ?_)
          · exact HQ.out.flat
          refine wpAnyH_take (i := 0) (oi := ?ody0) (v := ?vdy0) ?hidy0 (by kernel_rfl) (by kernel_rfl) (by kernel_rfl) ?hqdy0 (Or.inl ⟨?hwdy0, ?hydy0⟩) (by assumption) ?_
          case hidy0 => (simp only [List.getElem?_toArray, List.getElem?_cons_zero]; all_goals rfl)
          case hqdy0 => exact fun _ _ _ h => h
          case hwdy0 => rfl
          case hydy0 => ((intro w hSw; (try dsimp only at hSw); go_simp); all_goals (first | with_reducible rfl))
          try simp only [Act.put, List.setIfInBounds_toArray, List.set_cons_zero, List.set_cons_succ]
          refine wpAnyH_take (i := 1) (oi := ?ody1) (v := ?vdy1) ?hidy1 (by kernel_rfl) (by kernel_rfl) (by kernel_rfl) ?hqdy1 (Or.inl ⟨?hwdy1, ?hydy1⟩) (by assumption) ?_
          case hidy1 => (simp only [List.getElem?_toArray, List.getElem?_cons_succ, List.getElem?_cons_zero]; all_goals rfl)
          case hqdy1 => exact fun _ _ _ h => h
          case hwdy1 => rfl
          case hydy1 => ((intro w hSw; (try dsimp only at hSw); go_simp); all_goals (first | with_reducible rfl))
          try simp only [Act.put, List.setIfInBounds_toArray, List.set_cons_zero, List.set_cons_succ]
          refine wpAnyH_take (i := 2) (oi := ?ody2) (v := ?vdy2) ?hidy2 (by kernel_rfl) (by kernel_rfl) (by kernel_rfl) ?hqdy2 (Or.inl ⟨?hwdy2, ?hydy2⟩) (by assumption) ?_
          case hidy2 => (simp only [List.getElem?_toArray, List.getElem?_cons_succ, List.getElem?_cons_zero]; all_goals rfl)
          case hqdy2 => exact fun _ _ _ h => h
          case hwdy2 => rfl
          case hydy2 => ((intro w hSw; (try dsimp only at hSw); go_simp); all_goals (first | with_reducible rfl))
          try simp only [Act.put, List.setIfInBounds_toArray, List.set_cons_zero, List.set_cons_succ]
          refine wpAnyH_take (i := 3) (oi := ?ody3) (v := ?vdy3) ?hidy3 (by kernel_rfl) (by kernel_rfl) (by kernel_rfl) ?hqdy3 (Or.inl ⟨?hwdy3, ?hydy3⟩) (by assumption) ?_
          case hidy3 => (simp only [List.getElem?_toArray, List.getElem?_cons_succ, List.getElem?_cons_zero]; all_goals rfl)
          case hqdy3 => exact fun _ _ _ h => h
          case hwdy3 => rfl
          case hydy3 => ((intro w hSw; (try dsimp only at hSw); go_simp); all_goals (first | with_reducible rfl))
          try simp only [Act.put, List.setIfInBounds_toArray, List.set_cons_zero, List.set_cons_succ]
          refine wpAnyH_take (i := 4) (oi := ?ody4) (v := ?vdy4) ?hidy4 (by kernel_rfl) (by kernel_rfl) (by kernel_rfl) ?hqdy4 (Or.inl ⟨?hwdy4, ?hydy4⟩) (by assumption) ?_
          case hidy4 => (simp only [List.getElem?_toArray, List.getElem?_cons_succ, List.getElem?_cons_zero]; all_goals rfl)
          case hqdy4 => exact fun _ _ _ h => h
          case hwdy4 => rfl
          case hydy4 => ((intro w hSw; (try dsimp only at hSw); go_simp); all_goals (first | with_reducible rfl))
          try simp only [Act.put, List.setIfInBounds_toArray, List.set_cons_zero, List.set_cons_succ]
          refine wpAnyH_take (i := 5) (oi := ?ody5) (v := ?vdy5) ?hidy5 (by kernel_rfl) (by kernel_rfl) (by kernel_rfl) ?hqdy5 (Or.inl ⟨?hwdy5, ?hydy5⟩) (by assumption) ?_
          case hidy5 => (simp only [List.getElem?_toArray, List.getElem?_cons_succ, List.getElem?_cons_zero]; all_goals rfl)
          case hqdy5 => exact fun _ _ _ h => h
          case hwdy5 => rfl
          case hydy5 => ((intro w hSw; (try dsimp only at hSw); go_simp); all_goals (first | with_reducible rfl))
          try simp only [Act.put, List.setIfInBounds_toArray, List.set_cons_zero, List.set_cons_succ]
          refine wpAnyH_ready (rs := [6]) (by kernel_rfl) (by simp) ?_
          refine AllReadyH.cons rfl (fun K hK => ?_) AllReadyH.nil
          go_simp
          go_at_call 58
          with_reducible refine (DF2.out p3.drew).mono ?_
          rintro e p4 ⟨rfl, hb⟩
          replace HQ := Lib.hid (L8.below (w := p3.drew) HQ.out hb (by show gl < p3.heap.size; omega))
          have s4s : p3.heap.size ≤ p4.heap.size := hb.size
          have E8 := Lib.hid (rowIs_below (w := p3.drew) E7.out.drew hb E7.out.lt)
          have B8 := Lib.hid (B7.out.drew.trans (hb.mono B7.out.size))
          clear hb
          go_wp2_with fail
          refine hK.out _ _ ?_ (fun hHeld => ?_)
          · exact HQ.out.flat
          clear hK K
          try simp only [Act.put, List.setIfInBounds_toArray, List.set_cons_zero, List.set_cons_succ]
          refine wpAnyH_take (i := 7) (oi := ?ody7) (v := ?vdy7) ?hidy7 (by kernel_rfl) (by kernel_rfl) (by kernel_rfl) ?hqdy7 (Or.inl ⟨?hwdy7, ?hydy7⟩) (by assumption) ?_
          case hidy7 => (simp only [List.getElem?_toArray, List.getElem?_cons_succ, List.getElem?_cons_zero]; all_goals rfl)
          case hqdy7 => exact fun _ _ _ h => h
          case hwdy7 => rfl
          case hydy7 => ((intro w hSw; (try dsimp only at hSw); go_simp); all_goals (first | with_reducible rfl))
          try simp only [Act.put, List.setIfInBounds_toArray, List.set_cons_zero, List.set_cons_succ]
          refine wpAnyH_take (i := 8) (oi := ?ody8) (v := ?vdy8) ?hidy8 (by kernel_rfl) (by kernel_rfl) (by kernel_rfl) ?hqdy8 (Or.inl ⟨?hwdy8, ?hydy8⟩) (by assumption) ?_
          case hidy8 => (simp only [List.getElem?_toArray, List.getElem?_cons_succ, List.getElem?_cons_zero]; all_goals rfl)
          case hqdy8 => exact fun _ _ _ h => h
          case hwdy8 => rfl
          case hydy8 => ((intro w hSw; (try dsimp only at hSw); go_simp); all_goals (first | with_reducible rfl))
          try simp only [Act.put, List.setIfInBounds_toArray, List.set_cons_zero, List.set_cons_succ]
          refine wpAnyH_take (i := 9) (oi := ?ody9) (v := ?vdy9) ?hidy9 (by kernel_rfl) (by kernel_rfl) (by kernel_rfl) ?hqdy9 (Or.inl ⟨?hwdy9, ?hydy9⟩) (by assumption) ?_
          case hidy9 => (simp only [List.getElem?_toArray, List.getElem?_cons_succ, List.getElem?_cons_zero]; all_goals rfl)
          case hqdy9 => exact fun _ _ _ h => h
          case hwdy9 => rfl
          case hydy9 => ((intro w hSw; (try dsimp only at hSw); go_simp); all_goals (first | with_reducible rfl))
          try simp only [Act.put, List.setIfInBounds_toArray, List.set_cons_zero, List.set_cons_succ]
          refine wpAnyH_take (i := 10) (oi := ?ody10) (v := ?vdy10) ?hidy10 (by kernel_rfl) (by kernel_rfl) (by kernel_rfl) ?hqdy10 (Or.inl ⟨?hwdy10, ?hydy10⟩) (by assumption) ?_
          case hidy10 => (simp only [List.getElem?_toArray, List.getElem?_cons_succ, List.getElem?_cons_zero]; all_goals rfl)
          case hqdy10 => exact fun _ _ _ h => h
          case hwdy10 => rfl
          case hydy10 => ((intro w hSw; (try dsimp only at hSw); go_simp); all_goals (first | with_reducible rfl))
          try simp only [Act.put, List.setIfInBounds_toArray, List.set_cons_zero, List.set_cons_succ]
          refine wpAnyH_take (i := 11) (oi := ?ody11) (v := ?vdy11) ?hidy11 (by kernel_rfl) (by kernel_rfl) (by kernel_rfl) ?hqdy11 (Or.inl ⟨?hwdy11, ?hydy11⟩) (by assumption) ?_
          case hidy11 => (simp only [List.getElem?_toArray, List.getElem?_cons_succ, List.getElem?_cons_zero]; all_goals rfl)
          case hqdy11 => exact fun _ _ _ h => h
          case hwdy11 => rfl
          case hydy11 => ((intro w hSw; (try dsimp only at hSw); go_simp); all_goals (first | with_reducible rfl))
          try simp only [Act.put, List.setIfInBounds_toArray, List.set_cons_zero, List.set_cons_succ]
          refine wpAnyH_done (by kernel_rfl) ?_ _
          go_wp2_with fail
          refine (PA.out _).mono ?_
          rintro e p5 ⟨rfl, hb⟩
          have E9 := Lib.hid (rowIs_below E8.out hb E8.out.lt)
          have B9 := Lib.hid (B8.out.trans (hb.mono B8.out.size))
          obtain ⟨h0, h1, h2, h3⟩ := two_cells E9.out
          clear hb
          have BF := Lib.hid ((B9.out.setCell (p := ⟨w.heap.size + 1, 0, none⟩) (by simp) (.int .i64 N)).setCell (p := ⟨w.heap.size + 1, 1, none⟩) (by simp) (.int .i64 D))
          obtain ⟨e0, e1, _, _⟩ := two_cells (two_set E9.out N D)
          go_wp2_with fail
          refine bodyPost_ret (v := .tuple #[shV N D, .int .i64 Z]) (by simp [results, Try.results43, go_sem, e0, e1]) rfl (ShPost.mk rfl HV.out BF.out)
      · have HX := Lib.hid (IT.out (sN k0) (sN k2) (sD k0) (sD k2) false ⟨fun h => absurd h (by decide), fun h => absurd (HI.out.1 h.1 h.2) hE1⟩)
        clear hE hE1
        go_wp2_with fail
        refine wp_region_held_drew (S := fun w' => w'.cell? ⟨gl, 0, none⟩ = some (.int .i64 (sN k0)) ∧ w'.cell? ⟨gl, 1, none⟩ = some (.int .i64 (sD k0)) ∧ w'.cell? ⟨gl, 2, none⟩ = some (.int .i64 (sN k1)) ∧ w'.cell? ⟨gl, 3, none⟩ = some (.int .i64 (sD k1)) ∧ w'.cell? ⟨gl, 4, none⟩ = some (.int .i64 (sN k2)) ∧ w'.cell? ⟨gl, 5, none⟩ = some (.int .i64 (sD k2)) ∧ w'.cell? ⟨gl, 6, none⟩ = some (.int .i64 (sN k3)) ∧ w'.cell? ⟨gl, 7, none⟩ = some (.int .i64 (sD k3))) (by kernel_rfl) ?_ (fun hHeld => ?_)
        · exact HQ.out.flat
        refine wpAnyH_take (i := 0) (oi := ?oe0) (v := ?ve0) ?hie0 (by kernel_rfl) (by kernel_rfl) (by kernel_rfl) ?hqe0 (Or.inl ⟨?hwe0, ?hye0⟩) (by assumption) ?_
        case hie0 => (simp only [List.getElem?_toArray, List.getElem?_cons_zero]; all_goals rfl)
        case hqe0 => exact fun _ _ _ h => h
        case hwe0 => rfl
        case hye0 => ((intro w hSw; (try dsimp only at hSw); go_simp); all_goals (first | with_reducible rfl | exact HX.out _))
        try simp only [Act.put, List.setIfInBounds_toArray, List.set_cons_zero, List.set_cons_succ]
        refine wpAnyH_take (i := 1) (oi := ?oe1) (v := ?ve1) ?hie1 (by kernel_rfl) (by kernel_rfl) (by kernel_rfl) ?hqe1 (Or.inl ⟨?hwe1, ?hye1⟩) (by assumption) ?_
        case hie1 => (simp only [List.getElem?_toArray, List.getElem?_cons_succ, List.getElem?_cons_zero]; all_goals rfl)
        case hqe1 => exact fun _ _ _ h => h
        case hwe1 => rfl
        case hye1 => ((intro w hSw; (try dsimp only at hSw); go_simp); all_goals (first | with_reducible rfl | exact HX.out _))
        try simp only [Act.put, List.setIfInBounds_toArray, List.set_cons_zero, List.set_cons_succ]
        refine wpAnyH_take (i := 2) (oi := ?oe2) (v := ?ve2) ?hie2 (by kernel_rfl) (by kernel_rfl) (by kernel_rfl) ?hqe2 (Or.inl ⟨?hwe2, ?hye2⟩) (by assumption) ?_
        case hie2 => (simp only [List.getElem?_toArray, List.getElem?_cons_succ, List.getElem?_cons_zero]; all_goals rfl)
        case hqe2 => exact fun _ _ _ h => h
        case hwe2 => rfl
        case hye2 => ((intro w hSw; (try dsimp only at hSw); go_simp); all_goals (first | with_reducible rfl | exact HX.out _))
        try simp only [Act.put, List.setIfInBounds_toArray, List.set_cons_zero, List.set_cons_succ]
        refine wpAnyH_take (i := 3) (oi := ?oe3) (v := ?ve3) ?hie3 (by kernel_rfl) (by kernel_rfl) (by kernel_rfl) ?hqe3 (Or.inl ⟨?hwe3, ?hye3⟩) (by assumption) ?_
        case hie3 => (simp only [List.getElem?_toArray, List.getElem?_cons_succ, List.getElem?_cons_zero]; all_goals rfl)
        case hqe3 => exact fun _ _ _ h => h
        case hwe3 => rfl
        case hye3 => ((intro w hSw; (try dsimp only at hSw); go_simp); all_goals (first | with_reducible rfl | exact HX.out _))
        try simp only [Act.put, List.setIfInBounds_toArray, List.set_cons_zero, List.set_cons_succ]
        refine wpAnyH_take (i := 4) (oi := ?oe4) (v := ?ve4) ?hie4 (by kernel_rfl) (by kernel_rfl) (by kernel_rfl) ?hqe4 (Or.inl ⟨?hwe4, ?hye4⟩) (by assumption) ?_
        case hie4 => (simp only [List.getElem?_toArray, List.getElem?_cons_succ, List.getElem?_cons_zero]; all_goals rfl)
        case hqe4 => exact fun _ _ _ h => h
        case hwe4 => rfl
        case hye4 => ((intro w hSw; (try dsimp only at hSw); go_simp); all_goals (first | with_reducible rfl | exact HX.out _))
        try simp only [Act.put, List.setIfInBounds_toArray, List.set_cons_zero, List.set_cons_succ]
        refine wpAnyH_take (i := 5) (oi := ?oe5) (v := ?ve5) ?hie5 (by kernel_rfl) (by kernel_rfl) (by kernel_rfl) ?hqe5 (Or.inl ⟨?hwe5, ?hye5⟩) (by assumption) ?_
        case hie5 => (simp only [List.getElem?_toArray, List.getElem?_cons_succ, List.getElem?_cons_zero]; all_goals rfl)
        case hqe5 => exact fun _ _ _ h => h
        case hwe5 => rfl
        case hye5 => ((intro w hSw; (try dsimp only at hSw); go_simp); all_goals (first | with_reducible rfl | exact HX.out _))
        try simp only [Act.put, List.setIfInBounds_toArray, List.set_cons_zero, List.set_cons_succ]
        refine wpAnyH_ready (rs := [6]) (by kernel_rfl) (by simp) ?_
        refine AllReadyH.cons rfl (fun K hK => ?_) AllReadyH.nil
        go_simp
        go_at_call 56
        with_reducible refine (C1.out w2.drew).mono ?_
        rintro e p1 ⟨rfl, hb⟩
        replace HQ := Lib.hid (L8.below (w := w2.drew) HQ.out hb hgl3)
        have s1s : w2.heap.size ≤ p1.heap.size := hb.size
        have W1 := Lib.hid (HW2.out.trans (hb.mono (Nat.le_refl _)))
        have E5 := Lib.hid (rowIs_below (w := w2.drew) E4.out hb E4.out.lt)
        have B5 := Lib.hid (B4.out.trans (hb.mono B4.out.size))
        clear hb
        go_wp2_with fail
        refine hK.out _ _ ?_ (fun hHeld => ?_)
        · exact HQ.out.flat
        clear hK K
        try simp only [Act.put, List.setIfInBounds_toArray, List.set_cons_zero, List.set_cons_succ]
        refine wpAnyH_take (i := 7) (oi := ?oe7) (v := ?ve7) ?hie7 (by kernel_rfl) (by kernel_rfl) (by kernel_rfl) ?hqe7 (Or.inl ⟨?hwe7, ?hye7⟩) (by assumption) ?_
        case hie7 => (simp only [List.getElem?_toArray, List.getElem?_cons_succ, List.getElem?_cons_zero]; all_goals rfl)
        case hqe7 => exact fun _ _ _ h => h
        case hwe7 => rfl
        case hye7 => ((intro w hSw; (try dsimp only at hSw); go_simp); all_goals (first | with_reducible rfl | exact HX.out _))
        try simp only [Act.put, List.setIfInBounds_toArray, List.set_cons_zero, List.set_cons_succ]
        refine wpAnyH_take (i := 8) (oi := ?oe8) (v := ?ve8) ?hie8 (by kernel_rfl) (by kernel_rfl) (by kernel_rfl) ?hqe8 (Or.inl ⟨?hwe8, ?hye8⟩) (by assumption) ?_
        case hie8 => (simp only [List.getElem?_toArray, List.getElem?_cons_succ, List.getElem?_cons_zero]; all_goals rfl)
        case hqe8 => exact fun _ _ _ h => h
        case hwe8 => rfl
        case hye8 => ((intro w hSw; (try dsimp only at hSw); go_simp); all_goals (first | with_reducible rfl | exact HX.out _))
        try simp only [Act.put, List.setIfInBounds_toArray, List.set_cons_zero, List.set_cons_succ]
        refine wpAnyH_take (i := 9) (oi := ?oe9) (v := ?ve9) ?hie9 (by kernel_rfl) (by kernel_rfl) (by kernel_rfl) ?hqe9 (Or.inl ⟨?hwe9, ?hye9⟩) (by assumption) ?_
        case hie9 => (simp only [List.getElem?_toArray, List.getElem?_cons_succ, List.getElem?_cons_zero]; all_goals rfl)
        case hqe9 => exact fun _ _ _ h => h
        case hwe9 => rfl
        case hye9 => ((intro w hSw; (try dsimp only at hSw); go_simp); all_goals (first | with_reducible rfl | exact HX.out _))
        try simp only [Act.put, List.setIfInBounds_toArray, List.set_cons_zero, List.set_cons_succ]
        refine wpAnyH_take (i := 10) (oi := ?oe10) (v := ?ve10) ?hie10 (by kernel_rfl) (by kernel_rfl) (by kernel_rfl) ?hqe10 (Or.inl ⟨?hwe10, ?hye10⟩) (by assumption) ?_
        case hie10 => (simp only [List.getElem?_toArray, List.getElem?_cons_succ, List.getElem?_cons_zero]; all_goals rfl)
        case hqe10 => exact fun _ _ _ h => h
        case hwe10 => rfl
        case hye10 => ((intro w hSw; (try dsimp only at hSw); go_simp); all_goals (first | with_reducible rfl | exact HX.out _))
        try simp only [Act.put, List.setIfInBounds_toArray, List.set_cons_zero, List.set_cons_succ]
        refine wpAnyH_take (i := 11) (oi := ?oe11) (v := ?ve11) ?hie11 (by kernel_rfl) (by kernel_rfl) (by kernel_rfl) ?hqe11 (Or.inl ⟨?hwe11, ?hye11⟩) (by assumption) ?_
        case hie11 => (simp only [List.getElem?_toArray, List.getElem?_cons_succ, List.getElem?_cons_zero]; all_goals rfl)
        case hqe11 => exact fun _ _ _ h => h
        case hwe11 => rfl
        case hye11 => ((intro w hSw; (try dsimp only at hSw); go_simp); all_goals (first | with_reducible rfl | exact HX.out _))
        try simp only [Act.put, List.setIfInBounds_toArray, List.set_cons_zero, List.set_cons_succ]
        refine wpAnyH_take (i := 12) (oi := ?oe12) (v := ?ve12) ?hie12 (by kernel_rfl) (by kernel_rfl) (by kernel_rfl) ?hqe12 (Or.inl ⟨?hwe12, ?hye12⟩) (by assumption) ?_
        case hie12 => (simp only [List.getElem?_toArray, List.getElem?_cons_succ, List.getElem?_cons_zero]; all_goals rfl)
        case hqe12 => exact fun _ _ _ h => h
        case hwe12 => rfl
        case hye12 => ((intro w hSw; (try dsimp only at hSw); go_simp); all_goals (first | with_reducible rfl | exact HX.out _))
        try simp only [Act.put, List.setIfInBounds_toArray, List.set_cons_zero, List.set_cons_succ]
        refine wpAnyH_take (i := 13) (oi := ?oe13) (v := ?ve13) ?hie13 (by kernel_rfl) (by kernel_rfl) (by kernel_rfl) ?hqe13 (Or.inl ⟨?hwe13, ?hye13⟩) (by assumption) ?_
        case hie13 => (simp only [List.getElem?_toArray, List.getElem?_cons_succ, List.getElem?_cons_zero]; all_goals rfl)
        case hqe13 => exact fun _ _ _ h => h
        case hwe13 => rfl
        case hye13 => ((intro w hSw; (try dsimp only at hSw); go_simp); all_goals (first | with_reducible rfl | exact HX.out _))
        try simp only [Act.put, List.setIfInBounds_toArray, List.set_cons_zero, List.set_cons_succ]
        refine wpAnyH_take (i := 14) (oi := ?oe14) (v := ?ve14) ?hie14 (by kernel_rfl) (by kernel_rfl) (by kernel_rfl) ?hqe14 (Or.inl ⟨?hwe14, ?hye14⟩) (by assumption) ?_
        case hie14 => (simp only [List.getElem?_toArray, List.getElem?_cons_succ, List.getElem?_cons_zero]; all_goals rfl)
        case hqe14 => exact fun _ _ _ h => h
        case hwe14 => rfl
        case hye14 => ((intro w hSw; (try dsimp only at hSw); go_simp); all_goals (first | with_reducible rfl | exact HX.out _))
        try simp only [Act.put, List.setIfInBounds_toArray, List.set_cons_zero, List.set_cons_succ]
        refine wpAnyH_ready (rs := [15]) (by kernel_rfl) (by simp) ?_
        refine AllReadyH.cons rfl (fun K hK => ?_) AllReadyH.nil
        go_simp
        go_at_call 56
        with_reducible refine (C2.out p1).mono ?_
        rintro e p2 ⟨rfl, hb⟩
        replace HQ := Lib.hid (L8.below (w := p1) HQ.out hb (by omega))
        have s2s : p1.heap.size ≤ p2.heap.size := hb.size
        have W2 := Lib.hid (W1.out.trans (hb.mono s1s))
        have E6 := Lib.hid (rowIs_below (w := p1) E5.out hb E5.out.lt)
        have B6 := Lib.hid (B5.out.trans (hb.mono B5.out.size))
        clear hb
        go_wp2_with fail
        refine hK.out _ _ ?_ (fun hHeld => ?_)
        · exact HQ.out.flat
        clear hK K
        try simp only [Act.put, List.setIfInBounds_toArray, List.set_cons_zero, List.set_cons_succ]
        refine wpAnyH_take (i := 16) (oi := ?oe16) (v := ?ve16) ?hie16 (by kernel_rfl) (by kernel_rfl) (by kernel_rfl) ?hqe16 (Or.inl ⟨?hwe16, ?hye16⟩) (by assumption) ?_
        case hie16 => (simp only [List.getElem?_toArray, List.getElem?_cons_succ, List.getElem?_cons_zero]; all_goals rfl)
        case hqe16 => exact fun _ _ _ h => h
        case hwe16 => rfl
        case hye16 => ((intro w hSw; (try dsimp only at hSw); go_simp); all_goals (first | with_reducible rfl | exact HX.out _))
        try simp only [Act.put, List.setIfInBounds_toArray, List.set_cons_zero, List.set_cons_succ]
        refine wpAnyH_take (i := 17) (oi := ?oe17) (v := ?ve17) ?hie17 (by kernel_rfl) (by kernel_rfl) (by kernel_rfl) ?hqe17 (Or.inl ⟨?hwe17, ?hye17⟩) (by assumption) ?_
        case hie17 => (simp only [List.getElem?_toArray, List.getElem?_cons_succ, List.getElem?_cons_zero]; all_goals rfl)
        case hqe17 => exact fun _ _ _ h => h
        case hwe17 => rfl
        case hye17 => ((intro w hSw; (try dsimp only at hSw); go_simp); all_goals (first | with_reducible rfl | exact HX.out _))
        try simp only [Act.put, List.setIfInBounds_toArray, List.set_cons_zero, List.set_cons_succ]
        refine wpAnyH_take (i := 18) (oi := ?oe18) (v := ?ve18) ?hie18 (by kernel_rfl) (by kernel_rfl) (by kernel_rfl) ?hqe18 (Or.inl ⟨?hwe18, ?hye18⟩) (by assumption) ?_
        case hie18 => (simp only [List.getElem?_toArray, List.getElem?_cons_succ, List.getElem?_cons_zero]; all_goals rfl)
        case hqe18 => exact fun _ _ _ h => h
        case hwe18 => rfl
        case hye18 => ((intro w hSw; (try dsimp only at hSw); go_simp); all_goals (first | with_reducible rfl | exact HX.out _))
        try simp only [Act.put, List.setIfInBounds_toArray, List.set_cons_zero, List.set_cons_succ]
        refine wpAnyH_take (i := 19) (oi := ?oe19) (v := ?ve19) ?hie19 (by kernel_rfl) (by kernel_rfl) (by kernel_rfl) ?hqe19 (Or.inl ⟨?hwe19, ?hye19⟩) (by assumption) ?_
        case hie19 => (simp only [List.getElem?_toArray, List.getElem?_cons_succ, List.getElem?_cons_zero]; all_goals rfl)
        case hqe19 => exact fun _ _ _ h => h
        case hwe19 => rfl
        case hye19 => ((intro w hSw; (try dsimp only at hSw); go_simp); all_goals (first | with_reducible rfl | exact HX.out _))
        try simp only [Act.put, List.setIfInBounds_toArray, List.set_cons_zero, List.set_cons_succ]
        refine wpAnyH_take (i := 20) (oi := ?oe20) (v := ?ve20) ?hie20 (by kernel_rfl) (by kernel_rfl) (by kernel_rfl) ?hqe20 (Or.inl ⟨?hwe20, ?hye20⟩) (by assumption) ?_
        case hie20 => (simp only [List.getElem?_toArray, List.getElem?_cons_succ, List.getElem?_cons_zero]; all_goals rfl)
        case hqe20 => exact fun _ _ _ h => h
        case hwe20 => rfl
        case hye20 => ((intro w hSw; (try dsimp only at hSw); go_simp); all_goals (first | with_reducible rfl | exact HX.out _))
        try simp only [Act.put, List.setIfInBounds_toArray, List.set_cons_zero, List.set_cons_succ]
        refine wpAnyH_take (i := 21) (oi := ?oe21) (v := ?ve21) ?hie21 (by kernel_rfl) (by kernel_rfl) (by kernel_rfl) ?hqe21 (Or.inl ⟨?hwe21, ?hye21⟩) (by assumption) ?_
        case hie21 => (simp only [List.getElem?_toArray, List.getElem?_cons_succ, List.getElem?_cons_zero]; all_goals rfl)
        case hqe21 => exact fun _ _ _ h => h
        case hwe21 => rfl
        case hye21 => ((intro w hSw; (try dsimp only at hSw); go_simp); all_goals (first | with_reducible rfl | exact HX.out _))
        try simp only [Act.put, List.setIfInBounds_toArray, List.set_cons_zero, List.set_cons_succ]
        refine wpAnyH_take (i := 22) (oi := ?oe22) (v := ?ve22) ?hie22 (by kernel_rfl) (by kernel_rfl) (by kernel_rfl) ?hqe22 (Or.inl ⟨?hwe22, ?hye22⟩) (by assumption) ?_
        case hie22 => (simp only [List.getElem?_toArray, List.getElem?_cons_succ, List.getElem?_cons_zero]; all_goals rfl)
        case hqe22 => exact fun _ _ _ h => h
        case hwe22 => rfl
        case hye22 => ((intro w hSw; (try dsimp only at hSw); go_simp); all_goals (first | with_reducible rfl | exact HX.out _))
        try simp only [Act.put, List.setIfInBounds_toArray, List.set_cons_zero, List.set_cons_succ]
        refine wpAnyH_take (i := 23) (oi := ?oe23) (v := ?ve23) ?hie23 (by kernel_rfl) (by kernel_rfl) (by kernel_rfl) ?hqe23 (Or.inl ⟨?hwe23, ?hye23⟩) (by assumption) ?_
        case hie23 => (simp only [List.getElem?_toArray, List.getElem?_cons_succ, List.getElem?_cons_zero]; all_goals rfl)
        case hqe23 => exact fun _ _ _ h => h
        case hwe23 => rfl
        case hye23 => ((intro w hSw; (try dsimp only at hSw); go_simp); all_goals (first | with_reducible rfl | exact HX.out _))
        try simp only [Act.put, List.setIfInBounds_toArray, List.set_cons_zero, List.set_cons_succ]
        refine wpAnyH_take (i := 24) (oi := ?oe24) (v := ?ve24) ?hie24 (by kernel_rfl) (by kernel_rfl) (by kernel_rfl) ?hqe24 (Or.inl ⟨?hwe24, ?hye24⟩) (by assumption) ?_
        case hie24 => (simp only [List.getElem?_toArray, List.getElem?_cons_succ, List.getElem?_cons_zero]; all_goals rfl)
        case hqe24 => exact fun _ _ _ h => h
        case hwe24 => rfl
        case hye24 => ((intro w hSw; (try dsimp only at hSw); go_simp); all_goals (first | with_reducible rfl | exact HX.out _))
        try simp only [Act.put, List.setIfInBounds_toArray, List.set_cons_zero, List.set_cons_succ]
        refine wpAnyH_take (i := 25) (oi := ?oe25) (v := ?ve25) ?hie25 (by kernel_rfl) (by kernel_rfl) (by kernel_rfl) ?hqe25 (Or.inl ⟨?hwe25, ?hye25⟩) (by assumption) ?_
        case hie25 => (simp only [List.getElem?_toArray, List.getElem?_cons_succ, List.getElem?_cons_zero]; all_goals rfl)
        case hqe25 => exact fun _ _ _ h => h
        case hwe25 => rfl
        case hye25 => ((intro w hSw; (try dsimp only at hSw); go_simp); all_goals (first | with_reducible rfl | exact HX.out _))
        try simp only [Act.put, List.setIfInBounds_toArray, List.set_cons_zero, List.set_cons_succ]
        refine wpAnyH_take (i := 26) (oi := ?oe26) (v := ?ve26) ?hie26 (by kernel_rfl) (by kernel_rfl) (by kernel_rfl) ?hqe26 (Or.inl ⟨?hwe26, ?hye26⟩) (by assumption) ?_
        case hie26 => (simp only [List.getElem?_toArray, List.getElem?_cons_succ, List.getElem?_cons_zero]; all_goals rfl)
        case hqe26 => exact fun _ _ _ h => h
        case hwe26 => rfl
        case hye26 => ((intro w hSw; (try dsimp only at hSw); go_simp); all_goals (first | with_reducible rfl | exact HX.out _))
        try simp only [Act.put, List.setIfInBounds_toArray, List.set_cons_zero, List.set_cons_succ]
        refine wpAnyH_take (i := 27) (oi := ?oe27) (v := undef) ?hie27 (by kernel_rfl) (by kernel_rfl) (by kernel_rfl) ?hqe27 (Or.inr ⟨?hwe27, ?hve27⟩) (by assumption) ?_
        case hie27 => (simp only [List.getElem?_toArray, List.getElem?_cons_succ, List.getElem?_cons_zero]; all_goals rfl)
        case hqe27 => exact fun _ _ _ h => h
        case hwe27 => rfl
        case hve27 => rfl
        try simp only [Act.put, List.setIfInBounds_toArray, List.set_cons_zero, List.set_cons_succ]
        refine wpAnyH_take (i := 28) (oi := ?oe28) (v := undef) ?hie28 (by kernel_rfl) (by kernel_rfl) (by kernel_rfl) ?hqe28 (Or.inr ⟨?hwe28, ?hve28⟩) (by assumption) ?_
        case hie28 => (simp only [List.getElem?_toArray, List.getElem?_cons_succ, List.getElem?_cons_zero]; all_goals rfl)
        case hqe28 => exact fun _ _ _ h => h
        case hwe28 => rfl
        case hve28 => rfl
        try simp only [Act.put, List.setIfInBounds_toArray, List.set_cons_zero, List.set_cons_succ]
        refine wpAnyH_take (i := 29) (oi := ?oe29) (v := undef) ?hie29 (by kernel_rfl) (by kernel_rfl) (by kernel_rfl) ?hqe29 (Or.inr ⟨?hwe29, ?hve29⟩) (by assumption) ?_
        case hie29 => (simp only [List.getElem?_toArray, List.getElem?_cons_succ, List.getElem?_cons_zero]; all_goals rfl)
        case hqe29 => exact fun _ _ _ h => h
        case hwe29 => rfl
        case hve29 => rfl
        try simp only [Act.put, List.setIfInBounds_toArray, List.set_cons_zero, List.set_cons_succ]
        refine wpAnyH_take (i := 30) (oi := ?oe30) (v := undef) ?hie30 (by kernel_rfl) (by kernel_rfl) (by kernel_rfl) ?hqe30 (Or.inr ⟨?hwe30, ?hve30⟩) (by assumption) ?_
        case hie30 => (simp only [List.getElem?_toArray, List.getElem?_cons_succ, List.getElem?_cons_zero]; all_goals rfl)
        case hqe30 => exact fun _ _ _ h => h
        case hwe30 => rfl
        case hve30 => rfl
        try simp only [Act.put, List.setIfInBounds_toArray, List.set_cons_zero, List.set_cons_succ]
        refine wpAnyH_take (i := 31) (oi := ?oe31) (v := undef) ?hie31 (by kernel_rfl) (by kernel_rfl) (by kernel_rfl) ?hqe31 (Or.inr ⟨?hwe31, ?hve31⟩) (by assumption) ?_
        case hie31 => (simp only [List.getElem?_toArray, List.getElem?_cons_succ, List.getElem?_cons_zero]; all_goals rfl)
        case hqe31 => exact fun _ _ _ h => h
        case hwe31 => rfl
        case hve31 => rfl
        try simp only [Act.put, List.setIfInBounds_toArray, List.set_cons_zero, List.set_cons_succ]
        refine wpAnyH_take (i := 32) (oi := ?oe32) (v := undef) ?hie32 (by kernel_rfl) (by kernel_rfl) (by kernel_rfl) ?hqe32 (Or.inr ⟨?hwe32, ?hve32⟩) (by assumption) ?_
        case hie32 => (simp only [List.getElem?_toArray, List.getElem?_cons_succ, List.getElem?_cons_zero]; all_goals rfl)
        case hqe32 => exact fun _ _ _ h => h
        case hwe32 => rfl
        case hve32 => rfl
        try simp only [Act.put, List.setIfInBounds_toArray, List.set_cons_zero, List.set_cons_succ]
        refine wpAnyH_take (i := 33) (oi := ?oe33) (v := undef) ?hie33 (by kernel_rfl) (by kernel_rfl) (by kernel_rfl) ?hqe33 (Or.inr ⟨?hwe33, ?hve33⟩) (by assumption) ?_
        case hie33 => (simp only [List.getElem?_toArray, List.getElem?_cons_succ, List.getElem?_cons_zero]; all_goals rfl)
        case hqe33 => exact fun _ _ _ h => h
        case hwe33 => rfl
        case hve33 => rfl
        try simp only [Act.put, List.setIfInBounds_toArray, List.set_cons_zero, List.set_cons_succ]
        refine wpAnyH_take (i := 34) (oi := ?oe34) (v := ?ve34) ?hie34 (by kernel_rfl) (by kernel_rfl) (by kernel_rfl) ?hqe34 (Or.inl ⟨?hwe34, ?hye34⟩) (by assumption) ?_
        case hie34 => (simp only [List.getElem?_toArray, List.getElem?_cons_succ, List.getElem?_cons_zero]; all_goals rfl)
        case hqe34 => exact fun _ _ _ h => h
        case hwe34 => rfl
        case hye34 => ((intro w hSw; (try dsimp only at hSw); go_simp); all_goals (first | with_reducible rfl | exact HX.out _))
        try simp only [Act.put, List.setIfInBounds_toArray, List.set_cons_zero, List.set_cons_succ]
        refine wpAnyH_take (i := 35) (oi := ?oe35) (v := ?ve35) ?hie35 (by kernel_rfl) (by kernel_rfl) (by kernel_rfl) ?hqe35 (Or.inl ⟨?hwe35, ?hye35⟩) (by assumption) ?_
        case hie35 => (simp only [List.getElem?_toArray, List.getElem?_cons_succ, List.getElem?_cons_zero]; all_goals rfl)
        case hqe35 => exact fun _ _ _ h => h
        case hwe35 => rfl
        case hye35 => ((intro w hSw; (try dsimp only at hSw); go_simp); all_goals (first | with_reducible rfl | exact HX.out _))
        try simp only [Act.put, List.setIfInBounds_toArray, List.set_cons_zero, List.set_cons_succ]
        refine wpAnyH_done (by kernel_rfl) ?_ _
        go_wp2_with fail
        refine (FT.out _ W2.out).mono ?_
        rintro e w4 ⟨rfl, rfl⟩
        cases ft
        · have HV : Hid (dpV M X Y ph c = (0, 0, 3)) := HV0.out.trans (by unfold dpQ; rw [if_neg NO.out, if_pos rfl])
          have BF := Lib.hid ((B6.out.setCell (p := ⟨w.heap.size + 1, 0, none⟩) (by simp) (.int .i64 0)).setCell (p := ⟨w.heap.size + 1, 1, none⟩) (by simp) (.int .i64 0))
          clear h0 h1 h2 h3
          obtain ⟨h0, h1, h2, h3⟩ := two_cells E6.out
          obtain ⟨e0, e1, _, _⟩ := two_cells (two_set E6.out 0 0)
          go_wp2_with fail
          refine bodyPost_ret (v := .tuple #[shV 0 0, .int .i64 3]) (by simp [results, Try.results43, go_sem, e0, e1]) rfl (ShPost.mk rfl HV.out BF.out)
        · have HV1 : Hid (dpV M X Y ph c = prV (k1 - k3) (k2 - k0)) := HV0.out.trans (by unfold dpQ; rw [if_neg NO.out, if_neg (by decide)])
          obtain ⟨f0, f1, f2, f3⟩ := FO.out rfl
          obtain ⟨⟨k00, k01⟩, k10, k11⟩ := HK0.out
          obtain ⟨⟨k20, k21⟩, k30, k31⟩ := HK1.out
          have DF1 := Lib.hid (fun W => l19Diff_s k10 k11 k30 k31 (by omega) f1 f3 W)
          have DF2 := Lib.hid (fun W => l19Diff_s k20 k21 k00 k01 (by omega) f2 f0 W)
          have PA := Lib.hid (fun W => l19Parts_any (k1 - k3) (k2 - k0) W (by omega) (by omega) (by omega) (by omega) (by have := NO.out; omega) (sD_sub k10 k11 k30 k31 (by omega) f1 f3) (sD_sub k20 k21 k00 k01 (by omega) f2 f0))
          obtain ⟨N, hN⟩ : ∃ N, (prV (k1 - k3) (k2 - k0)).1 = N := ⟨_, rfl⟩
          obtain ⟨D, hD⟩ : ∃ D, (prV (k1 - k3) (k2 - k0)).2.1 = D := ⟨_, rfl⟩
          obtain ⟨Z, hZ⟩ : ∃ Z, (prV (k1 - k3) (k2 - k0)).2.2 = Z := ⟨_, rfl⟩
          unfold ShPost at PA
          rw [hN, hD, hZ] at PA
          have HV : Hid (dpV M X Y ph c = (N, D, Z)) := by
            refine Lib.hid (HV1.out.trans ?_)
            rw [← hN, ← hD, ← hZ]
          clear k00 k01 k10 k11 k20 k21 k30 k31 f0 f1 f2 f3 hN hD hZ h0 h1 h2 h3
          have W6 := Lib.hid E6.out.drew
          have W7 := Lib.hid B6.out.drew
          go_wp2_with fail
          refine wp_region_held_drew (S := fun w' => w'.cell? ⟨gl, 0, none⟩ = some (.int .i64 (sN k0)) ∧ w'.cell? ⟨gl, 1, none⟩ = some (.int .i64 (sD k0)) ∧ w'.cell? ⟨gl, 2, none⟩ = some (.int .i64 (sN k1)) ∧ w'.cell? ⟨gl, 3, none⟩ = some (.int .i64 (sD k1)) ∧ w'.cell? ⟨gl, 4, none⟩ = some (.int .i64 (sN k2)) ∧ w'.cell? ⟨gl, 5, none⟩ = some (.int .i64 (sD k2)) ∧ w'.cell? ⟨gl, 6, none⟩ = some (.int .i64 (sN k3)) ∧ w'.cell? ⟨gl, 7, none⟩ = some (.int .i64 (sD k3))) (by kernel_rfl) ?_ (fun hHeld => ?_)
          · exact HQ.out.flat
          refine wpAnyH_take (i := 0) (oi := ?oex0) (v := ?vex0) ?hiex0 (by kernel_rfl) (by kernel_rfl) (by kernel_rfl) ?hqex0 (Or.inl ⟨?hwex0, ?hyex0⟩) (by assumption) ?_
          case hiex0 => (simp only [List.getElem?_toArray, List.getElem?_cons_zero]; all_goals rfl)
          case hqex0 => exact fun _ _ _ h => h
          case hwex0 => rfl
          case hyex0 => ((intro w hSw; (try dsimp only at hSw); go_simp); all_goals (first | with_reducible rfl))
          try simp only [Act.put, List.setIfInBounds_toArray, List.set_cons_zero, List.set_cons_succ]
          refine wpAnyH_take (i := 1) (oi := ?oex1) (v := ?vex1) ?hiex1 (by kernel_rfl) (by kernel_rfl) (by kernel_rfl) ?hqex1 (Or.inl ⟨?hwex1, ?hyex1⟩) (by assumption) ?_
          case hiex1 => (simp only [List.getElem?_toArray, List.getElem?_cons_succ, List.getElem?_cons_zero]; all_goals rfl)
          case hqex1 => exact fun _ _ _ h => h
          case hwex1 => rfl
          case hyex1 => ((intro w hSw; (try dsimp only at hSw); go_simp); all_goals (first | with_reducible rfl))
          try simp only [Act.put, List.setIfInBounds_toArray, List.set_cons_zero, List.set_cons_succ]
          refine wpAnyH_take (i := 2) (oi := ?oex2) (v := ?vex2) ?hiex2 (by kernel_rfl) (by kernel_rfl) (by kernel_rfl) ?hqex2 (Or.inl ⟨?hwex2, ?hyex2⟩) (by assumption) ?_
          case hiex2 => (simp only [List.getElem?_toArray, List.getElem?_cons_succ, List.getElem?_cons_zero]; all_goals rfl)
          case hqex2 => exact fun _ _ _ h => h
          case hwex2 => rfl
          case hyex2 => ((intro w hSw; (try dsimp only at hSw); go_simp); all_goals (first | with_reducible rfl))
          try simp only [Act.put, List.setIfInBounds_toArray, List.set_cons_zero, List.set_cons_succ]
          refine wpAnyH_take (i := 3) (oi := ?oex3) (v := ?vex3) ?hiex3 (by kernel_rfl) (by kernel_rfl) (by kernel_rfl) ?hqex3 (Or.inl ⟨?hwex3, ?hyex3⟩) (by assumption) ?_
          case hiex3 => (simp only [List.getElem?_toArray, List.getElem?_cons_succ, List.getElem?_cons_zero]; all_goals rfl)
          case hqex3 => exact fun _ _ _ h => h
          case hwex3 => rfl
          case hyex3 => ((intro w hSw; (try dsimp only at hSw); go_simp); all_goals (first | with_reducible rfl))
          try simp only [Act.put, List.setIfInBounds_toArray, List.set_cons_zero, List.set_cons_succ]
          refine wpAnyH_take (i := 4) (oi := ?oex4) (v := ?vex4) ?hiex4 (by kernel_rfl) (by kernel_rfl) (by kernel_rfl) ?hqex4 (Or.inl ⟨?hwex4, ?hyex4⟩) (by assumption) ?_
          case hiex4 => (simp only [List.getElem?_toArray, List.getElem?_cons_succ, List.getElem?_cons_zero]; all_goals rfl)
          case hqex4 => exact fun _ _ _ h => h
          case hwex4 => rfl
          case hyex4 => ((intro w hSw; (try dsimp only at hSw); go_simp); all_goals (first | with_reducible rfl))
          try simp only [Act.put, List.setIfInBounds_toArray, List.set_cons_zero, List.set_cons_succ]
          refine wpAnyH_take (i := 5) (oi := ?oex5) (v := ?vex5) ?hiex5 (by kernel_rfl) (by kernel_rfl) (by kernel_rfl) ?hqex5 (Or.inl ⟨?hwex5, ?hyex5⟩) (by assumption) ?_
          case hiex5 => (simp only [List.getElem?_toArray, List.getElem?_cons_succ, List.getElem?_cons_zero]; all_goals rfl)
          case hqex5 => exact fun _ _ _ h => h
          case hwex5 => rfl
          case hyex5 => ((intro w hSw; (try dsimp only at hSw); go_simp); all_goals (first | with_reducible rfl))
          try simp only [Act.put, List.setIfInBounds_toArray, List.set_cons_zero, List.set_cons_succ]
          refine wpAnyH_ready (rs := [6]) (by kernel_rfl) (by simp) ?_
          refine AllReadyH.cons rfl (fun K hK => ?_) AllReadyH.nil
          go_simp
          go_at_call 58
          with_reducible refine (DF1.out p2.drew).mono ?_
          rintro e p3 ⟨rfl, hb⟩
          replace HQ := Lib.hid (L8.below (w := p2.drew) HQ.out hb (by show gl < p2.heap.size; omega))
          have s3s : p2.heap.size ≤ p3.heap.size := hb.size
          have E7 := Lib.hid (rowIs_below (w := p2.drew) E6.out.drew hb E6.out.lt)
          have B7 := Lib.hid (B6.out.drew.trans (hb.mono B6.out.size))
          clear hb
          go_wp2_with fail
          refine hK.out _ _ ?_ (fun hHeld => ?_)
          · exact HQ.out.flat
          clear hK K
          try simp only [Act.put, List.setIfInBounds_toArray, List.set_cons_zero, List.set_cons_succ]
          refine wpAnyH_take (i := 7) (oi := ?oex7) (v := ?vex7) ?hiex7 (by kernel_rfl) (by kernel_rfl) (by kernel_rfl) ?hqex7 (Or.inl ⟨?hwex7, ?hyex7⟩) (by assumption) ?_
          case hiex7 => (simp only [List.getElem?_toArray, List.getElem?_cons_succ, List.getElem?_cons_zero]; all_goals rfl)
          case hqex7 => exact fun _ _ _ h => h
          case hwex7 => rfl
          case hyex7 => ((intro w hSw; (try dsimp only at hSw); go_simp); all_goals (first | with_reducible rfl))
          try simp only [Act.put, List.setIfInBounds_toArray, List.set_cons_zero, List.set_cons_succ]
          refine wpAnyH_take (i := 8) (oi := ?oex8) (v := ?vex8) ?hiex8 (by kernel_rfl) (by kernel_rfl) (by kernel_rfl) ?hqex8 (Or.inl ⟨?hwex8, ?hyex8⟩) (by assumption) ?_
          case hiex8 => (simp only [List.getElem?_toArray, List.getElem?_cons_succ, List.getElem?_cons_zero]; all_goals rfl)
          case hqex8 => exact fun _ _ _ h => h
          case hwex8 => rfl
          case hyex8 => ((intro w hSw; (try dsimp only at hSw); go_simp); all_goals (first | with_reducible rfl))
          try simp only [Act.put, List.setIfInBounds_toArray, List.set_cons_zero, List.set_cons_succ]
          refine wpAnyH_take (i := 9) (oi := ?oex9) (v := ?vex9) ?hiex9 (by kernel_rfl) (by kernel_rfl) (by kernel_rfl) ?hqex9 (Or.inl ⟨?hwex9, ?hyex9⟩) (by assumption) ?_
          case hiex9 => (simp only [List.getElem?_toArray, List.getElem?_cons_succ, List.getElem?_cons_zero]; all_goals rfl)
          case hqex9 => exact fun _ _ _ h => h
          case hwex9 => rfl
          case hyex9 => ((intro w hSw; (try dsimp only at hSw); go_simp); all_goals (first | with_reducible rfl))
          try simp only [Act.put, List.setIfInBounds_toArray, List.set_cons_zero, List.set_cons_succ]
          refine wpAnyH_take (i := 10) (oi := ?oex10) (v := ?vex10) ?hiex10 (by kernel_rfl) (by kernel_rfl) (by kernel_rfl) ?hqex10 (Or.inl ⟨?hwex10, ?hyex10⟩) (by assumption) ?_
          case hiex10 => (simp only [List.getElem?_toArray, List.getElem?_cons_succ, List.getElem?_cons_zero]; all_goals rfl)
          case hqex10 => exact fun _ _ _ h => h
          case hwex10 => rfl
          case hyex10 => ((intro w hSw; (try dsimp only at hSw); go_simp); all_goals (first | with_reducible rfl))
          try simp only [Act.put, List.setIfInBounds_toArray, List.set_cons_zero, List.set_cons_succ]
          refine wpAnyH_take (i := 11) (oi := ?oex11) (v := ?vex11) ?hiex11 (by kernel_rfl) (by kernel_rfl) (by kernel_rfl) ?hqex11 (Or.inl ⟨?hwex11, ?hyex11⟩) (by assumption) ?_
          case hiex11 => (simp only [List.getElem?_toArray, List.getElem?_cons_succ, List.getElem?_cons_zero]; all_goals rfl)
          case hqex11 => exact fun _ _ _ h => h
          case hwex11 => rfl
          case hyex11 => ((intro w hSw; (try dsimp only at hSw); go_simp); all_goals (first | with_reducible rfl))
          try simp only [Act.put, List.setIfInBounds_toArray, List.set_cons_zero, List.set_cons_succ]
          refine wpAnyH_done (by kernel_rfl) ?_ _
          go_wp2_with fail
          refine wp_region_held_drew (S := fun w' => w'.cell? ⟨gl, 0, none⟩ = some (.int .i64 (sN k0)) ∧ w'.cell? ⟨gl, 1, none⟩ = some (.int .i64 (sD k0)) ∧ w'.cell? ⟨gl, 2, none⟩ = some (.int .i64 (sN k1)) ∧ w'.cell? ⟨gl, 3, none⟩ = some (.int .i64 (sD k1)) ∧ w'.cell? ⟨gl, 4, none⟩ = some (.int .i64 (sN k2)) ∧ w'.cell? ⟨gl, 5, none⟩ = some (.int .i64 (sD k2)) ∧ w'.cell? ⟨gl, 6, none⟩ = some (.int .i64 (sN k3)) ∧ w'.cell? ⟨gl, 7, none⟩ = some (.int .i64 (sD k3))) (by kernel_rfl) ?_ (fun hHeld => ?_)
          · exact HQ.out.flat
          refine wpAnyH_take (i := 0) (oi := ?oey0) (v := ?vey0) ?hiey0 (by kernel_rfl) (by kernel_rfl) (by kernel_rfl) ?hqey0 (Or.inl ⟨?hwey0, ?hyey0⟩) (by assumption) ?_
          case hiey0 => (simp only [List.getElem?_toArray, List.getElem?_cons_zero]; all_goals rfl)
          case hqey0 => exact fun _ _ _ h => h
          case hwey0 => rfl
          case hyey0 => ((intro w hSw; (try dsimp only at hSw); go_simp); all_goals (first | with_reducible rfl))
          try simp only [Act.put, List.setIfInBounds_toArray, List.set_cons_zero, List.set_cons_succ]
          refine wpAnyH_take (i := 1) (oi := ?oey1) (v := ?vey1) ?hiey1 (by kernel_rfl) (by kernel_rfl) (by kernel_rfl) ?hqey1 (Or.inl ⟨?hwey1, ?hyey1⟩) (by assumption) ?_
          case hiey1 => (simp only [List.getElem?_toArray, List.getElem?_cons_succ, List.getElem?_cons_zero]; all_goals rfl)
          case hqey1 => exact fun _ _ _ h => h
          case hwey1 => rfl
          case hyey1 => ((intro w hSw; (try dsimp only at hSw); go_simp); all_goals (first | with_reducible rfl))
          try simp only [Act.put, List.setIfInBounds_toArray, List.set_cons_zero, List.set_cons_succ]
          refine wpAnyH_take (i := 2) (oi := ?oey2) (v := ?vey2) ?hiey2 (by kernel_rfl) (by kernel_rfl) (by kernel_rfl) ?hqey2 (Or.inl ⟨?hwey2, ?hyey2⟩) (by assumption) ?_
          case hiey2 => (simp only [List.getElem?_toArray, List.getElem?_cons_succ, List.getElem?_cons_zero]; all_goals rfl)
          case hqey2 => exact fun _ _ _ h => h
          case hwey2 => rfl
          case hyey2 => ((intro w hSw; (try dsimp only at hSw); go_simp); all_goals (first | with_reducible rfl))
          try simp only [Act.put, List.setIfInBounds_toArray, List.set_cons_zero, List.set_cons_succ]
          refine wpAnyH_take (i := 3) (oi := ?oey3) (v := ?vey3) ?hiey3 (by kernel_rfl) (by kernel_rfl) (by kernel_rfl) ?hqey3 (Or.inl ⟨?hwey3, ?hyey3⟩) (by assumption) ?_
          case hiey3 => (simp only [List.getElem?_toArray, List.getElem?_cons_succ, List.getElem?_cons_zero]; all_goals rfl)
          case hqey3 => exact fun _ _ _ h => h
          case hwey3 => rfl
          case hyey3 => ((intro w hSw; (try dsimp only at hSw); go_simp); all_goals (first | with_reducible rfl))
          try simp only [Act.put, List.setIfInBounds_toArray, List.set_cons_zero, List.set_cons_succ]
          refine wpAnyH_take (i := 4) (oi := ?oey4) (v := ?vey4) ?hiey4 (by kernel_rfl) (by kernel_rfl) (by kernel_rfl) ?hqey4 (Or.inl ⟨?hwey4, ?hyey4⟩) (by assumption) ?_
          case hiey4 => (simp only [List.getElem?_toArray, List.getElem?_cons_succ, List.getElem?_cons_zero]; all_goals rfl)
          case hqey4 => exact fun _ _ _ h => h
          case hwey4 => rfl
          case hyey4 => ((intro w hSw; (try dsimp only at hSw); go_simp); all_goals (first | with_reducible rfl))
          try simp only [Act.put, List.setIfInBounds_toArray, List.set_cons_zero, List.set_cons_succ]
          refine wpAnyH_take (i := 5) (oi := ?oey5) (v := ?vey5) ?hiey5 (by kernel_rfl) (by kernel_rfl) (by kernel_rfl) ?hqey5 (Or.inl ⟨?hwey5, ?hyey5⟩) (by assumption) ?_
          case hiey5 => (simp only [List.getElem?_toArray, List.getElem?_cons_succ, List.getElem?_cons_zero]; all_goals rfl)
          case hqey5 => exact fun _ _ _ h => h
          case hwey5 => rfl
          case hyey5 => ((intro w hSw; (try dsimp only at hSw); go_simp); all_goals (first | with_reducible rfl))
          try simp only [Act.put, List.setIfInBounds_toArray, List.set_cons_zero, List.set_cons_succ]
          refine wpAnyH_ready (rs := [6]) (by kernel_rfl) (by simp) ?_
          refine AllReadyH.cons rfl (fun K hK => ?_) AllReadyH.nil
          go_simp
          go_at_call 58
          with_reducible refine (DF2.out p3.drew).mono ?_
          rintro e p4 ⟨rfl, hb⟩
          replace HQ := Lib.hid (L8.below (w := p3.drew) HQ.out hb (by show gl < p3.heap.size; omega))
          have s4s : p3.heap.size ≤ p4.heap.size := hb.size
          have E8 := Lib.hid (rowIs_below (w := p3.drew) E7.out.drew hb E7.out.lt)
          have B8 := Lib.hid (B7.out.drew.trans (hb.mono B7.out.size))
          clear hb
          go_wp2_with fail
          refine hK.out _ _ ?_ (fun hHeld => ?_)
          · exact HQ.out.flat
          clear hK K
          try simp only [Act.put, List.setIfInBounds_toArray, List.set_cons_zero, List.set_cons_succ]
          refine wpAnyH_take (i := 7) (oi := ?oey7) (v := ?vey7) ?hiey7 (by kernel_rfl) (by kernel_rfl) (by kernel_rfl) ?hqey7 (Or.inl ⟨?hwey7, ?hyey7⟩) (by assumption) ?_
          case hiey7 => (simp only [List.getElem?_toArray, List.getElem?_cons_succ, List.getElem?_cons_zero]; all_goals rfl)
          case hqey7 => exact fun _ _ _ h => h
          case hwey7 => rfl
          case hyey7 => ((intro w hSw; (try dsimp only at hSw); go_simp); all_goals (first | with_reducible rfl))
          try simp only [Act.put, List.setIfInBounds_toArray, List.set_cons_zero, List.set_cons_succ]
          refine wpAnyH_take (i := 8) (oi := ?oey8) (v := ?vey8) ?hiey8 (by kernel_rfl) (by kernel_rfl) (by kernel_rfl) ?hqey8 (Or.inl ⟨?hwey8, ?hyey8⟩) (by assumption) ?_
          case hiey8 => (simp only [List.getElem?_toArray, List.getElem?_cons_succ, List.getElem?_cons_zero]; all_goals rfl)
          case hqey8 => exact fun _ _ _ h => h
          case hwey8 => rfl
          case hyey8 => ((intro w hSw; (try dsimp only at hSw); go_simp); all_goals (first | with_reducible rfl))
          try simp only [Act.put, List.setIfInBounds_toArray, List.set_cons_zero, List.set_cons_succ]
          refine wpAnyH_take (i := 9) (oi := ?oey9) (v := ?vey9) ?hiey9 (by kernel_rfl) (by kernel_rfl) (by kernel_rfl) ?hqey9 (Or.inl ⟨?hwey9, ?hyey9⟩) (by assumption) ?_
          case hiey9 => (simp only [List.getElem?_toArray, List.getElem?_cons_succ, List.getElem?_cons_zero]; all_goals rfl)
          case hqey9 => exact fun _ _ _ h => h
          case hwey9 => rfl
          case hyey9 => ((intro w hSw; (try dsimp only at hSw); go_simp); all_goals (first | with_reducible rfl))
          try simp only [Act.put, List.setIfInBounds_toArray, List.set_cons_zero, List.set_cons_succ]
          refine wpAnyH_take (i := 10) (oi := ?oey10) (v := ?vey10) ?hiey10 (by kernel_rfl) (by kernel_rfl) (by kernel_rfl) ?hqey10 (Or.inl ⟨?hwey10, ?hyey10⟩) (by assumption) ?_
          case hiey10 => (simp only [List.getElem?_toArray, List.getElem?_cons_succ, List.getElem?_cons_zero]; all_goals rfl)
          case hqey10 => exact fun _ _ _ h => h
          case hwey10 => rfl
          case hyey10 => ((intro w hSw; (try dsimp only at hSw); go_simp); all_goals (first | with_reducible rfl))
          try simp only [Act.put, List.setIfInBounds_toArray, List.set_cons_zero, List.set_cons_succ]
          refine wpAnyH_take (i := 11) (oi := ?oey11) (v := ?vey11) ?hiey11 (by kernel_rfl) (by kernel_rfl) (by kernel_rfl) ?hqey11 (Or.inl ⟨?hwey11, ?hyey11⟩) (by assumption) ?_
          case hiey11 => (simp only [List.getElem?_toArray, List.getElem?_cons_succ, List.getElem?_cons_zero]; all_goals rfl)
          case hqey11 => exact fun _ _ _ h => h
          case hwey11 => rfl
          case hyey11 => ((intro w hSw; (try dsimp only at hSw); go_simp); all_goals (first | with_reducible rfl))
          try simp only [Act.put, List.setIfInBounds_toArray, List.set_cons_zero, List.set_cons_succ]
          refine wpAnyH_done (by kernel_rfl) ?_ _
          go_wp2_with fail
          refine (PA.out _).mono ?_
          rintro e p5 ⟨rfl, hb⟩
          have E9 := Lib.hid (rowIs_below E8.out hb E8.out.lt)
          have B9 := Lib.hid (B8.out.trans (hb.mono B8.out.size))
          obtain ⟨h0, h1, h2, h3⟩ := two_cells E9.out
          clear hb
          have BF := Lib.hid ((B9.out.setCell (p := ⟨w.heap.size + 1, 0, none⟩) (by simp) (.int .i64 N)).setCell (p := ⟨w.heap.size + 1, 1, none⟩) (by simp) (.int .i64 D))
          obtain ⟨e0, e1, _, _⟩ := two_cells (two_set E9.out N D)
          go_wp2_with fail
          refine bodyPost_ret (v := .tuple #[shV N D, .int .i64 Z]) (by simp [results, Try.results43, go_sem, e0, e1]) rfl (ShPost.mk rfl HV.out BF.out)
  · have ek : (K != 0) = true := by simpa using hk
    have HV : Hid (dpV M a b ph c = (0, 0, K)) := by
      refine Lib.hid ?_
      unfold dpV; rw [HK.out, if_neg hk]
    have BF := Lib.hid ((B1.out.setCell (p := ⟨w.heap.size + 1, 0, none⟩) (by simp) (.int .i64 0)).setCell (p := ⟨w.heap.size + 1, 1, none⟩) (by simp) (.int .i64 0))
    obtain ⟨e0, e1, _, _⟩ := two_cells (two_set E1.out 0 0)
    clear hk
    go_wp2_with fail
    refine bodyPost_ret (v := .tuple #[shV 0 0, .int .i64 K]) (by simp [results, Try.results43, go_sem, e0, e1]) rfl (ShPost.mk rfl HV.out BF.out)
end Go.Proofs.Ytkioliioakmepaa
