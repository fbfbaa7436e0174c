/-
  The walks of MatchDoublePoint (both packages).
-/
import Derived.Test.YtkioliioakmepaaMchFC
import Derived.Test.YtkioliioakmepaaMchFD
import Derived.Test.YtkioliioakmepaaMchFP
namespace Go.Proofs.Ytkioliioakmepaa
open Go.ChangeShapes Go.WideShapes Go.ChangeAt Go.RowKit
set_option linter.unusedVariables false

/-- gain G, risk R, and whether the denominators are small -/
def dpQ (G R : Int) (ft : Bool) : Int × Int × Int := if G < 0 ∨ R < 0 ∨ G + R = 0 then (0, 0, 5) else if ft = false then (0, 0, 3) else prV R G
def dpR (L : Option (List Int)) : Int × Int × Int := match L with
  | some [n0, d0, n1, d1, n2, d2, n3, d3] => dpQ (n2 * (SC / d2) - n0 * (SC / d0)) (n1 * (SC / d1) - n3 * (SC / d3)) (fitsB [n0, d0, n1, d1, n2, d2, n3, d3] 4)
  | _ => (0, 0, 3)
/-- what both packages' MatchDoublePoint returns -/
def dpV (M : Mm) (a b ph c : Int) : Int × Int × Int := if cdV M a b ph c = 0 then dpR (M.afK a.toNat b.toNat ph [c, -c, 2 * c, -(2 * c)] 4) else (0, 0, cdV M a b ph c)
theorem Sm.dp {K M : Mm} (h : Sm K M) (a b ph c : Int) : dpV K a b ph c = dpV M a b ph c := by unfold dpV; rw [h.cd, h.afK]
theorem Mm.afK4 {M : Mm} (hM : M.ok) {a b : Nat} {ph : Int} {ps l : List Int} (h : M.afK a b ph ps 4 = some l) : ∃ c1 c2 c3 c4, l = [sN c1, sD c1, sN c2, sD c2, sN c3, sD c3, sN c4, sD c4] ∧ (0 ≤ c1 ∧ c1 ≤ SC) ∧ (0 ≤ c2 ∧ c2 ≤ SC) ∧ (0 ≤ c3 ∧ c3 ≤ SC) ∧ (0 ≤ c4 ∧ c4 ≤ SC) := by
  have hl : (match M.afK a b ph ps 3, M.af a b ph (ps.getD 3 0) with | some l, some c => some (l ++ [sN c, sD c]) | _, _ => none) = some l := h
  cases e1 : M.afK a b ph ps 3 with
  | none => rw [e1] at hl; cases hl
  | some l' =>
    cases e2 : M.af a b ph (ps.getD 3 0) with
    | none => rw [e1, e2] at hl; cases hl
    | some c =>
      rw [e1, e2] at hl
      injection hl with hl
      obtain ⟨c1, c2, c3, rfl, b1, b2, b3⟩ := Mm.afK3 hM e1
      refine ⟨c1, c2, c3, c, hl.symm, b1, b2, b3, ?_⟩
      unfold Mm.af at e2
      split at e2
      · exact Mm.ch_bd hM e2
      · exact Mm.ch_bd hM e2
set_option maxHeartbeats 3200000 in
theorem impl_MatchDoublePoint_any (M : Mm) (a b ph c : Int) (w : World) (hA : M.at w w.heap.size) (hs : M.sz) :
    Calls Try.prog 20 #[M.V, .int .i64 a, .int .i64 b, .int .i64 ph, .int .i64 c] w fun e w' => ShPost (dpV M a b ph c) w e w' := by
  have hb0 := ((Below.refl w.heap.size w).alloc (Nat.le_refl _) (.cells #[.slice M.a M.n M.c, .slice M.b M.m M.d, .slice M.e M.p M.f] 26)).alloc (by simp) (.cells #[.int .i64 0, .int .i64 0] 30)
  have HB := Lib.hid hb0
  have HA := Lib.hid (hA.keep hb0)
  have rm := (three_new w (.slice M.a M.n M.c) (.slice M.b M.m M.d) (.slice M.e M.p M.f) 26).alloc (.cells #[.int .i64 0, .int .i64 0] 30)
  have r8 := two_new (w.alloc (.cells #[.slice M.a M.n M.c, .slice M.b M.m M.d, .slice M.e M.p M.f] 26)) 0 0 30
  rw [World.size_alloc] at r8
  have RM := Lib.hid rm
  have R8 := Lib.hid r8
  have GA := Lib.hid hA
  have HSZ := Lib.hid hs
  obtain ⟨U, hU⟩ : ∃ U, pwB c 64 = U := ⟨_, rfl⟩
  have HU := Lib.hid hU
  clear hb0 rm r8 hA hU
  go_enter Try.func20, Try.ntmps20
  go_wp2_with fail
  refine (isCube_k c U HU.out _).mono ?_
  rintro e w1 ⟨rfl, rfl⟩
  obtain ⟨m0, m1, m2⟩ := three_cells RM.out
  cases U
  · obtain ⟨K, hK⟩ : ∃ K, cdV M a b ph 0 = K := ⟨_, rfl⟩
    have hk0 : cdV M a b ph c = K ∧ ¬ K = 0 := by
      have e0 : pwB 0 64 = false := by decide
      unfold cdV at hK ⊢
      rw [e0] at hK
      rw [HU.out]
      refine ⟨hK, fun h => ?_⟩
      rw [h] at hK
      split at hK
      · split at hK
        · rename_i q; exact absurd q.2 (by decide)
        · exact absurd hK (by decide)
      · exact absurd hK (by decide)
    obtain ⟨hk1, hk2⟩ := hk0
    have HK := Lib.hid hK
    have HV : Hid (dpV M a b ph c = (0, 0, K)) := by
      refine Lib.hid ?_
      unfold dpV; rw [hk1, if_neg hk2]
    have ek : (K != 0) = true := by simpa using hk2
    have HKN := Lib.hid hk2
    have SI := Lib.hid (fun (W : World) (A : Option Addr) (hAt : M.at W W.heap.size) (hP : Ints W W.heap.size .i64 A 4 [0, 0, 0, 0]) => situation_any M a b ph 0 A 4 4 [0, 0, 0, 0] W hAt HSZ.out hP (by omega) (fun h => absurd (HK.out.symm.trans h) HKN.out))
    have in0 := ints_new4 ((w.alloc (.cells #[.slice M.a M.n M.c, .slice M.b M.m M.d, .slice M.e M.p M.f] 26)).alloc (.cells #[.int .i64 0, .int .i64 0] 30)) 0 0 0 0
    simp only [World.size_alloc] at in0
    have IN := Lib.hid in0
    clear in0
    clear hK hk1 hk2
    go_wp2_with fail
    refine (SI.out _ _ (HA.out.keep ((Below.refl w.heap.size _).alloc (by first | (simp; done) | (simp; omega)) _) |>.more (by first | (simp; done) | (simp; omega))) (IN.out.more (by simp))).mono ?_
    rintro e w2 ⟨v, code, rfl, hb2, hc1, _⟩
    have hcode : code = K := (hc1 (by rw [HK.out]; exact HKN.out)).trans HK.out
    have z2 := hb2.size
    simp only [World.size_alloc] at z2
    have B3 := Lib.hid ((HB.out.alloc (by first | (simp; done) | (simp; omega)) (.cells #[.int .i64 0, .int .i64 0, .int .i64 0, .int .i64 0] 2)).trans (hb2.mono (by first | (simp; done) | (simp; omega))))
    have E3 := Lib.hid (rowIs_below (R8.out.alloc (.cells #[.int .i64 0, .int .i64 0, .int .i64 0, .int .i64 0] 2)) hb2 (by first | (simp; done) | (simp; omega)))
    obtain ⟨h0, h1, h2, h3⟩ := two_cells E3.out
    subst hcode
    have BF := Lib.hid ((B3.out.setCell (p := ⟨w.heap.size + 1, 0, none⟩) (by simp) (.int .i64 0)).setCell (p := ⟨w.heap.size + 1, 1, none⟩) (by simp) (.int .i64 0))
    obtain ⟨e0, e1, _, _⟩ := two_cells (two_set E3.out 0 0)
    clear hb2 hc1 m0 m1 m2
    go_wp2_with fail
    refine bodyPost_ret (v := .tuple #[shV 0 0, .int .i64 code]) (by simp [results, Try.results20, go_sem, e0, e1]) rfl (ShPost.mk rfl HV.out BF.out)
  obtain ⟨c1, c64⟩ := pwB_pos HU.out
  obtain ⟨K, hK⟩ : ∃ K, cdV M a b ph c = K := ⟨_, rfl⟩
  have HK := Lib.hid hK
  have hx2 : -2 * c = -(2 * c) := by omega
  have SI := Lib.hid (fun (W : World) (A : Option Addr) (hAt : M.at W W.heap.size) (hP : Ints W W.heap.size .i64 A 4 [c, -c, 2 * c, -(2 * c)]) => situation_any M a b ph c A 4 4 [c, -c, 2 * c, -(2 * c)] W hAt HSZ.out hP (by omega) (fun _ i hi => by
      match i, hi with
      | 0, _ => show ¬ c = 0 ∧ -1000 ≤ c ∧ c ≤ 1000; omega
      | 1, _ => show ¬ -c = 0 ∧ -1000 ≤ -c ∧ -c ≤ 1000; omega
      | 2, _ => show ¬ 2 * c = 0 ∧ -1000 ≤ 2 * c ∧ 2 * c ≤ 1000; omega
      | 3, _ => show ¬ -(2 * c) = 0 ∧ -1000 ≤ -(2 * c) ∧ -(2 * c) ≤ 1000; omega))
  have in0 := ints_new4 ((w.alloc (.cells #[.slice M.a M.n M.c, .slice M.b M.m M.d, .slice M.e M.p M.f] 26)).alloc (.cells #[.int .i64 0, .int .i64 0] 30)) c (-c) (2 * c) (-(2 * c))
  simp only [World.size_alloc] at in0
  have IN := Lib.hid in0
  clear in0
  clear hK
  go_wp2_with fail
  refine (SI.out _ _ (HA.out.keep ((Below.refl w.heap.size _).alloc (by first | (simp; done) | (simp; omega)) _) |>.more (by first | (simp; done) | (simp; omega))) (IN.out.more (by simp))).mono ?_
  rintro e w2 ⟨v, code, rfl, hb2, hc1, hc2⟩
  have z2 := hb2.size
  simp only [World.size_alloc] at z2
  have B3 := Lib.hid ((HB.out.alloc (by first | (simp; done) | (simp; omega)) (.cells #[.int .i64 c, .int .i64 (-c), .int .i64 (2 * c), .int .i64 (-(2 * c))] 2)).trans (hb2.mono (by first | (simp; done) | (simp; omega))))
  have E3 := Lib.hid (rowIs_below (R8.out.alloc (.cells #[.int .i64 c, .int .i64 (-c), .int .i64 (2 * c), .int .i64 (-(2 * c))] 2)) hb2 (by first | (simp; done) | (simp; omega)))
  have HC1 := Lib.hid hc1
  have HC2 := Lib.hid hc2
  obtain ⟨h0, h1, h2, h3⟩ := two_cells E3.out
  have BF0 := Lib.hid ((B3.out.setCell (p := ⟨w.heap.size + 1, 0, none⟩) (by simp) (.int .i64 0)).setCell (p := ⟨w.heap.size + 1, 1, none⟩) (by simp) (.int .i64 0))
  clear hb2 hc1 hc2 m0 m1 m2
  by_cases hk : K = 0
  · subst hk
    obtain ⟨kg, ks, kc, ka, kb⟩ := cdV_out HK.out
    have hM := Mm.good_ok kg GA.out
    have HMV : Hid (dpV M a b ph c = dpR (M.afK a.toNat b.toNat ph [c, -c, 2 * c, -(2 * c)] 4)) := by
      refine Lib.hid ?_
      unfold dpV; rw [if_pos HK.out]
    clear kg ks kc ka kb
    rcases HC2.out HK.out with hyes | ⟨hno, hcode⟩
    · have HYES := Lib.hid hyes
      clear hyes
      obtain ⟨_, _, _, hcode, _⟩ := HYES.out
      subst hcode
      obtain ⟨xs, lo, hafk, _, hgs, hlo⟩ := HYES.out
      obtain ⟨k0, k1, k2, k3, rfl, ⟨k00, k01⟩, ⟨k10, k11⟩, ⟨k20, k21⟩, k30, k31⟩ := Mm.afK4 hM hafk
      obtain ⟨al, cl, rfl, hrow⟩ := hgs.row
      have hints := hrow.ints rfl
      obtain ⟨gl, rfl, gl1, gl2, gl3, hcs⟩ := hrow.blk (by omega)
      have SA : Hid (ShAt w2 gl 4 [k0, k1, k2, k3]) := by
        refine Lib.hid (fun i hi => ?_)
        match i, hi with
        | 0, _ => exact ⟨(hcs 0 (by omega)).1, (hcs 1 (by omega)).1⟩
        | 1, _ => exact ⟨(hcs 2 (by omega)).1, (hcs 3 (by omega)).1⟩
        | 2, _ => exact ⟨(hcs 4 (by omega)).1, (hcs 5 (by omega)).1⟩
        | 3, _ => exact ⟨(hcs 6 (by omega)).1, (hcs 7 (by omega)).1⟩
      have CD := Lib.hid (commonDen_any gl 4 cl [k0, k1, k2, k3] w2 SA.out gl3 (by omega) (fun i hi => by
        match i, hi with
        | 0, _ => exact ⟨k00, k01⟩
        | 1, _ => exact ⟨k10, k11⟩
        | 2, _ => exact ⟨k20, k21⟩
        | 3, _ => exact ⟨k30, k31⟩))
      have HV0 : Hid (dpV M a b ph c = dpQ (k2 - k0) (k1 - k3) (fitsB [sN k0, sD k0, sN k1, sD k1, sN k2, sD k2, sN k3, sD k3] 4)) := by
        refine Lib.hid ?_
        rw [HMV.out, hafk]
        show dpQ (sN k2 * (SC / sD k2) - sN k0 * (SC / sD k0)) (sN k1 * (SC / sD k1) - sN k3 * (SC / sD k3)) _ = _
        rw [(s_facts k00 k01).2.2.2.2.2.2, (s_facts k10 k11).2.2.2.2.2.2, (s_facts k20 k21).2.2.2.2.2.2, (s_facts k30 k31).2.2.2.2.2.2]
      have SD := Lib.hid (fun (W : World) (hb : Below w2.heap.size w2 W) => smallDens_any (some ⟨gl, 0, none⟩) 4 cl [sN k0, sD k0, sN k1, sD k1, sN k2, sD k2, sN k3, sD k3] w2.heap.size W (hints.below hb) hb.size (by omega) (by omega))
      obtain ⟨ft, hft⟩ : ∃ ft, fitsB [sN k0, sD k0, sN k1, sD k1, sN k2, sD k2, sN k3, sD k3] 4 = ft := ⟨_, rfl⟩
      rw [hft] at SD HV0
      clear hcs hrow hgs hafk hft hints
      go_wp2_with fail
      refine CD.out.mono ?_
      rintro e w3 ⟨gn, den, f, rfl, hd2, hf, hrn, hgn, hb3⟩
      have z3 := hb3.size
      have gq := hd2.qpos D2.sc hd2.le
      obtain ⟨T, hT⟩ : ∃ T, SC / den = T := ⟨_, rfl⟩
      rw [hT] at gq hf
      have e0 : f 0 * T = k0 ∧ 0 ≤ f 0 := hf 0 (by omega)
      have e1 : f 1 * T = k1 ∧ 0 ≤ f 1 := hf 1 (by omega)
      have e2 : f 2 * T = k2 ∧ 0 ≤ f 2 := hf 2 (by omega)
      have e3 : f 3 * T = k3 ∧ 0 ≤ f 3 := hf 3 (by omega)
      have q0 := hrn.cell (i := 0) (by omega)
      have q1 := hrn.cell (i := 1) (by omega)
      have q2 := hrn.cell (i := 2) (by omega)
      have q3 := hrn.cell (i := 3) (by omega)
      obtain ⟨g0, hg0⟩ : ∃ x, f 0 = x := ⟨_, rfl⟩
      obtain ⟨g1, hg1⟩ : ∃ x, f 1 = x := ⟨_, rfl⟩
      obtain ⟨g2, hg2⟩ : ∃ x, f 2 = x := ⟨_, rfl⟩
      obtain ⟨g3, hg3⟩ : ∃ x, f 3 = x := ⟨_, rfl⟩
      rw [hg0] at q0 e0
      rw [hg1] at q1 e1
      rw [hg2] at q2 e2
      rw [hg3] at q3 e3
      have SC1 : SC = 562949953421312 := rfl
      have b0 := le_grow e0.2 gq e0.1
      have b1 := le_grow e1.2 gq e1.1
      have b2 := le_grow e2.2 gq e2.1
      have b3 := le_grow e3.2 gq e3.1
      rw [SC1] at k01 k11 k21 k31
      obtain ⟨G, hG⟩ : ∃ G, g2 - g0 = G := ⟨_, rfl⟩
      obtain ⟨R, hR⟩ : ∃ R, g1 - g3 = R := ⟨_, rfl⟩
      have eG : k2 - k0 = G * T := by rw [← hG, Int.sub_mul, e2.1, e0.1]
      have eR : k1 - k3 = R * T := by rw [← hR, Int.sub_mul, e1.1, e3.1]
      rw [eG, eR] at HV0
      obtain ⟨_, p0⟩ := e0
      obtain ⟨_, p1⟩ := e1
      obtain ⟨_, p2⟩ := e2
      obtain ⟨_, p3⟩ := e3
      have w1 : IntKind.i64.wrap (g2 - g0) = G := by rw [hG]; exact IntWalk.i64_in _ (by omega)
      have w2' : IntKind.i64.wrap (g1 - g3) = R := by rw [hR]; exact IntWalk.i64_in _ (by omega)
      have G0 : -562949953421312 ≤ G ∧ G ≤ 562949953421312 := by omega
      have R0 : -562949953421312 ≤ R ∧ R ≤ 562949953421312 := by omega
      obtain ⟨G1, G2⟩ := G0
      obtain ⟨R1, R2⟩ := R0
      have B4 := Lib.hid (B3.out.trans (hb3.mono B3.out.size))
      have E4 := Lib.hid (rowIs_below E3.out hb3 E3.out.lt)
      have HBD := Lib.hid hb3.drew
      have sT := Lib.hid (fun (x : Int) (h : x < 0) => Int.mul_neg_of_neg_of_pos h gq)
      have BF5 := Lib.hid ((B4.out.setCell (p := ⟨w.heap.size + 1, 0, none⟩) (by simp) (.int .i64 0)).setCell (p := ⟨w.heap.size + 1, 1, none⟩) (by simp) (.int .i64 0)).drew
      obtain ⟨h0, h1, h2, h3⟩ := two_cells E4.out
      obtain ⟨j0, j1, _, _⟩ := two_cells (two_set E4.out 0 0).drew
      clear hf hrn hg0 hg1 hg2 hg3 hG hR eG eR SC1 b0 b1 b2 b3 hb3 hT
      go_wp2_with fail
      go_region
      by_cases cG : G < 0
      · have HV : Hid (dpV M a b ph c = (0, 0, 5)) := HV0.out.trans (if_pos (.inl (sT.out G cG)))
        go_wp2_with fail
        refine bodyPost_ret (v := .tuple #[shV 0 0, .int .i64 5]) (by simp [results, Try.results20, go_sem, j0, j1]) rfl (ShPost.mk rfl HV.out BF5.out)
      by_cases cR : R < 0
      · have HV : Hid (dpV M a b ph c = (0, 0, 5)) := HV0.out.trans (if_pos (.inr (.inl (sT.out R cR))))
        go_wp2_with fail
        refine bodyPost_ret (v := .tuple #[shV 0 0, .int .i64 5]) (by simp [results, Try.results20, go_sem, j0, j1]) rfl (ShPost.mk rfl HV.out BF5.out)
      by_cases cS : G + R = 0
      · have HV : Hid (dpV M a b ph c = (0, 0, 5)) := HV0.out.trans (if_pos (.inr (.inr (by rw [← Int.add_mul, cS, Int.zero_mul]))))
        have cS' : (G + R == 0) = true := by simpa using cS
        clear cS
        go_wp2_with fail
        refine bodyPost_ret (v := .tuple #[shV 0 0, .int .i64 5]) (by simp [results, Try.results20, go_sem, j0, j1]) rfl (ShPost.mk rfl HV.out BF5.out)
      have cS' : (G + R == 0) = false := by simpa using cS
      go_wp2_with fail
      refine (SD.out _ HBD.out).mono ?_
      rintro e w4 ⟨rfl, hb4⟩
      have B5 := Lib.hid (B4.out.drew.trans (hb4.mono B4.out.size))
      have E5 := Lib.hid (rowIs_below (w := w3.drew) E4.out.drew hb4 E4.out.lt)
      have z4 : w3.heap.size ≤ w4.heap.size := hb4.size
      have NO : Hid (¬ (G * T < 0 ∨ R * T < 0 ∨ G * T + R * T = 0)) := by
        refine Lib.hid ?_
        rintro (h | h | h)
        · have := Int.mul_nonneg (show 0 ≤ G by omega) (show 0 ≤ T by omega); omega
        · have := Int.mul_nonneg (show 0 ≤ R by omega) (show 0 ≤ T by omega); omega
        · rw [← Int.add_mul] at h
          exact cS ((Int.mul_eq_zero.1 h).resolve_right (by omega))
      clear h0 h1 h2 h3 j0 j1 hb4 q0 q1 q2 q3
      obtain ⟨h0, h1, h2, h3⟩ := two_cells E5.out
      cases ft
      · have HV : Hid (dpV M a b ph c = (0, 0, 3)) := HV0.out.trans (by unfold dpQ; rw [if_neg NO.out, if_pos rfl])
        have BF := Lib.hid ((B5.out.setCell (p := ⟨w.heap.size + 1, 0, none⟩) (by simp) (.int .i64 0)).setCell (p := ⟨w.heap.size + 1, 1, none⟩) (by simp) (.int .i64 0))
        obtain ⟨j0, j1, _, _⟩ := two_cells (two_set E5.out 0 0)
        clear cS
        go_wp2_with fail
        refine bodyPost_ret (v := .tuple #[shV 0 0, .int .i64 3]) (by simp [results, Try.results20, go_sem, j0, j1]) rfl (ShPost.mk rfl HV.out BF.out)
      · have HV1 : Hid (dpV M a b ph c = prV (R * T) (G * T)) := HV0.out.trans (by unfold dpQ; rw [if_neg NO.out, if_neg (by decide)])
        have gp0 : 0 < G + R := by omega
        have rp : 0 < R * T + G * T := by rw [← Int.add_mul]; exact Int.mul_pos (by omega) gq
        obtain ⟨l1, l2, l3⟩ := lo_cross (a := R) (b := G + R) (c := R * T) (d := R * T + G * T) gp0 rp (by rw [← Int.add_mul, Int.add_comm R G]; ac_rfl)
        obtain ⟨x, hx⟩ : ∃ x, loN R (G + R) = x := ⟨_, rfl⟩
        obtain ⟨y, hy⟩ : ∃ y, loD R (G + R) = y := ⟨_, rfl⟩
        obtain ⟨k, hk⟩ : ∃ k, loB R (G + R) = k := ⟨_, rfl⟩
        have HV2 : Hid (dpV M a b ph c = if k = true then (x, y, 0) else (0, 0, 3)) := by
          refine Lib.hid (HV1.out.trans ?_)
          unfold prV; rw [← l1, ← l2, ← l3, hx, hy, hk]
        have MK := Lib.hid (fun W => makeShare_in R (G + R) W (by omega) gp0 (by omega) (by omega))
        rw [hx, hy, hk] at MK
        clear cS hx hy hk l1 l2 l3
        go_wp2_with fail
        refine (MK.out _).mono ?_
        rintro e w5 ⟨rfl, hb5⟩
        have z5 := hb5.size
        have B6 := Lib.hid ((B5.out.trans (hb5.mono B5.out.size)).alloc (Nat.le_trans B5.out.size z5) (.cells #[.int .i64 x, .int .i64 y] 30))
        have E6 := Lib.hid ((rowIs_below E5.out hb5 E5.out.lt).alloc (.cells #[.int .i64 x, .int .i64 y] 30))
        have X6 := Lib.hid (two_new w5 x y 30)
        clear h0 h1 h2 h3 hb5
        obtain ⟨h0, h1, h2, h3⟩ := two_cells E6.out
        obtain ⟨x0, x1, _, _⟩ := two_cells X6.out
        cases k
        · have HV : Hid (dpV M a b ph c = (0, 0, 3)) := HV2.out.trans (if_neg (by decide))
          have BF := Lib.hid ((B6.out.setCell (p := ⟨w.heap.size + 1, 0, none⟩) (by simp) (.int .i64 0)).setCell (p := ⟨w.heap.size + 1, 1, none⟩) (by simp) (.int .i64 0))
          obtain ⟨j0, j1, _, _⟩ := two_cells (two_set E6.out 0 0)
          go_wp2_with fail
          refine bodyPost_ret (v := .tuple #[shV 0 0, .int .i64 3]) (by simp [results, Try.results20, go_sem, j0, j1]) rfl (ShPost.mk rfl HV.out BF.out)
        · have HV : Hid (dpV M a b ph c = (x, y, 0)) := HV2.out.trans (if_pos rfl)
          have BF := Lib.hid ((B6.out.setCell (p := ⟨w.heap.size + 1, 0, none⟩) (by simp) (.int .i64 x)).setCell (p := ⟨w.heap.size + 1, 1, none⟩) (by simp) (.int .i64 y))
          obtain ⟨j0, j1, _, _⟩ := two_cells (two_set E6.out x y)
          go_wp2_with fail
          refine bodyPost_ret (v := .tuple #[shV x y, .int .i64 0]) (by simp [results, Try.results20, go_sem, j0, j1]) rfl (ShPost.mk rfl HV.out BF.out)
    · subst hcode
      have HV : Hid (dpV M a b ph c = (0, 0, 3)) := by
        refine Lib.hid ?_
        rw [HMV.out, hno]; rfl
      obtain ⟨e0, e1, _, _⟩ := two_cells (two_set E3.out 0 0)
      clear hno
      go_wp2_with fail
      refine bodyPost_ret (v := .tuple #[shV 0 0, .int .i64 3]) (by simp [results, Try.results20, go_sem, e0, e1]) rfl (ShPost.mk rfl HV.out BF0.out)
  · have ek : (K != 0) = true := by simpa using hk
    have hcode : code = K := (HC1.out (by rw [HK.out]; exact hk)).trans HK.out
    subst hcode
    have HV : Hid (dpV M a b ph c = (0, 0, code)) := by
      refine Lib.hid ?_
      unfold dpV; rw [HK.out, if_neg hk]
    obtain ⟨e0, e1, _, _⟩ := two_cells (two_set E3.out 0 0)
    clear hk
    go_wp2_with fail
    refine bodyPost_ret (v := .tuple #[shV 0 0, .int .i64 code]) (by simp [results, Try.results20, go_sem, e0, e1]) rfl (ShPost.mk rfl HV.out BF0.out)
end Go.Proofs.Ytkioliioakmepaa
