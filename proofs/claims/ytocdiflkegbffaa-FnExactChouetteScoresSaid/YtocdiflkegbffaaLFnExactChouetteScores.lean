/-
  FnExactChouetteScores returns true for all arguments: ChouetteScores of the program and of the reference agree in the scores, the order and the code, the arguments are left as they were, and the results are new memory. No condition.
-/
import Derived.Test.YtocdiflkegbffaaChs
namespace Go.Proofs.Ytocdiflkegbffaa
open Go.ChangeShapes Go.WideShapes Go.ChangeAt Go.RowKit
set_option linter.unusedVariables false

theorem Out.bel {lo hi B : Nat} {a b : World} (ho : Out lo hi a b) (hB : B ≤ lo) (hz : B ≤ a.heap.size) : Below B a b := ⟨ho.os, ho.tape, ho.output, ho.size, fun i hi => ho.block i (by omega) (.inl (by omega))⟩
/-- what both ChouetteScores return, said of two lists and a code -/
def ChQ (S1 : Nat) (SL : List Int) (S2 : Nat) (OL : List Int) (K : Int) (w : World) (e : Ending) (w' : World) : Prop :=
  ∃ a1 c1 a2 c2 l1 u1 l2 u2, e = .returned (.tuple #[.slice a1 S1 c1, .slice a2 S2 c2, .int .i64 K]) ∧
    RowN w' l1 u1 2 a1 S1 (icell .i64 SL) ∧ RowN w' l2 u2 2 a2 S2 (icell .i64 OL) ∧ (w.heap.size ≤ l1 ∧ w.heap.size ≤ l2 ∧ u1 ≤ w'.heap.size ∧ u2 ≤ w'.heap.size ∧ (u1 ≤ l2 ∨ u2 ≤ l1)) ∧ Below w.heap.size w w'
theorem scL_le (n : Nat) (order : List Int) (N : Nat) (X : Nat → List Int) (ln : Nat → Nat) : (scL n order N X ln).length ≤ 8 := by
  unfold scL
  split
  · rw [stC_len1]; omega
  · exact Nat.zero_le _
theorem orL_le {n : Nat} {order : List Int} (N : Nat) (X : Nat → List Int) (ln : Nat → Nat) (hl : order.length = n) : (orL n order N X ln).length ≤ 8 := by
  unfold orL
  split
  · rename_i h
    have ho : ordB n order = true := by
      unfold chC at h
      split at h
      · exact absurd h (by decide)
      · split at h
        · assumption
        · exact absurd h (by decide)
    rw [(stC_ord (X := X) (ln := ln) hl ho N).2]
    exact (ordB_out ho).2.1
  · exact Nat.zero_le _

set_option maxRecDepth 16000 in
set_option maxHeartbeats 3200000 in
theorem walk_FnExactChouetteScores (w : World) (ax0 : Option Addr) (nx0 cx0 : Nat) (x0 : List Int) (wx0 : IntsArg w .i64 ax0 nx0 x0) (ax1 : Option Addr) (nx1 cx1 : Nat) (Ax1 : Nat → Option Addr) (lx1 Cx1 : Nat → Nat) (Xx1 : Nat → List Int) (wx1 : SSArg w ax1 nx1 Ax1 lx1 Cx1 Xx1) :
    Calls Try.prog 11 #[.slice ax0 nx0 cx0, .slice ax1 nx1 cx1] w fun e w' => e = .returned (.bool true) ∧ Below w.heap.size w w' := by
  obtain ⟨hI, _, _⟩ := wx0
  obtain ⟨hG, hN1, hN2⟩ := wx1
  have HB := Below.refl w.heap.size w
  by_cases hbig : 1048576 < nx0
  · go_enter Try.func11, Try.ntmps11
    go_wp2_with fail
    go_ret
    exact ⟨rfl, HB⟩
  have hn : nx0 ≤ 1048576 := by omega
  clear hbig
  by_cases hbig : 1048576 < nx1 + sumN lx1 nx1
  · have HS := Lib.hid (szInt64SS_no ax1 nx1 cx1 Ax1 lx1 Cx1 Xx1 w hG hN1 hN2 hbig)
    clear hI hG hN1 hN2 hbig
    go_enter Try.func11, Try.ntmps11
    go_wp2_with fail
    refine HS.out.mono ?_
    rintro e w1 ⟨rfl, rfl⟩
    go_wp2_with fail
    go_ret
    exact ⟨rfl, HB⟩
  · have hs : nx1 + sumN lx1 nx1 ≤ 1048576 := by omega
    have HSZ := Lib.hid hs
    have HS := Lib.hid (szInt64SS_yes ax1 nx1 cx1 Ax1 lx1 Cx1 Xx1 w hG hs)
    obtain ⟨Z, hZ⟩ : ∃ Z : Int, (1048576 : Int) - ((nx1 + sumN lx1 nx1 : Nat) : Int) = Z := ⟨_, rfl⟩
    have hzn : decide (Z < 0) = false := decide_eq_false (by omega)
    rw [hZ] at HS
    have hm : nx1 ≤ 1048576 := by omega
    have HLn := Lib.hid (fun i (hi : i < nx1) => show lx1 i ≤ 1048576 by have := sumN_at (ln := lx1) hi; omega)
    have HXL := Lib.hid (fun i (hi : i < nx1) => (hG.2 i hi).len)
    have HIL := Lib.hid hI.len
    obtain ⟨SL, hSL⟩ : ∃ SL, scL nx0 x0 nx1 Xx1 lx1 = SL := ⟨_, rfl⟩
    obtain ⟨OL, hOL⟩ : ∃ OL, orL nx0 x0 nx1 Xx1 lx1 = OL := ⟨_, rfl⟩
    obtain ⟨K, hK⟩ : ∃ K, chC nx0 x0 nx1 Xx1 lx1 = K := ⟨_, rfl⟩
    have hS8 : SL.length ≤ 8 := by rw [← hSL]; exact scL_le _ _ _ _ _
    have hO8 : OL.length ≤ 8 := by rw [← hOL]; exact orL_le _ _ _ hI.len
    obtain ⟨S1, hS1⟩ : ∃ S1, SL.length = S1 := ⟨_, rfl⟩
    obtain ⟨S2, hS2⟩ : ∃ S2, OL.length = S2 := ⟨_, rfl⟩
    have PQ := Lib.hid (fun (W : World) (e : Ending) (W' : World) (h : ChsPost nx0 x0 nx1 Xx1 lx1 W e W') => show ChQ S1 SL S2 OL K W e W' by
      unfold ChsPost at h
      rw [hSL, hOL, hK, hS1, hS2] at h
      exact h)
    have SP := Lib.hid (fun a a' A C W (h : Ints W W.heap.size .i64 a nx0 x0) (h' : Gms W W.heap.size a' nx1 A lx1 C Xx1) => (spec_ChouetteScores_any a nx0 nx0 x0 a' nx1 nx1 A lx1 C Xx1 W h h' hn hm HLn.out).mono (PQ.out W))
    have IM := Lib.hid (fun b a' A C W (h : Ints W W.heap.size .i64 (some ⟨b, 0, none⟩) nx0 x0) (h' : Gms W W.heap.size a' nx1 A lx1 C Xx1) => (impl_ChouetteScores_any (some ⟨b, 0, none⟩) nx0 nx0 x0 a' nx1 nx1 A lx1 C Xx1 W h h' (Nat.le_refl _) (fun h => by cases h) hn hm HLn.out).mono (PQ.out W))
    have TS := Lib.hid (fun W (h : Gms W W.heap.size ax1 nx1 Ax1 lx1 Cx1 Xx1) => toInt64SS_R ax1 nx1 cx1 Ax1 lx1 Cx1 Xx1 W h hm HLn.out)
    have ES := Lib.hid (fun a a' A A' C C' W (h : Gms W W.heap.size a nx1 A lx1 C Xx1) (h' : Gms W W.heap.size a' nx1 A' lx1 C' Xx1) => eqInt64SS_same a a' nx1 nx1 nx1 A A' lx1 C C' Xx1 W h h' hm HLn.out)
    obtain ⟨T, hT⟩ : ∃ T, sumN lx1 nx1 = T := ⟨_, rfl⟩
    have hT9 : T ≤ 1048576 := by omega
    have MS := Lib.hid (fun a lo hi f W (h : Sls W lo hi a nx1 lx1 f) => hT ▸ markInt64SS_any a nx1 nx1 lo hi lx1 f (1 + (nx0 : Int)) W h (by omega) (by omega) hs)
    have HSL := Lib.hid hS1
    have HOL := Lib.hid hS2
    have hS1 : S1 ≤ 8 := by omega
    have hS2 : S2 ≤ 8 := by omega
    have hkk : (K != K) = false := by simp
    have hkn : decide (1 + (nx0 : Int) + (T : Int) < 0) = false := decide_eq_false (by omega)
    have hq1 : decide (1 + (S1 : Int) < 0) = false := decide_eq_false (by omega)
    have hq2 : decide (1 + (S1 : Int) + (S2 : Int) < 0) = false := decide_eq_false (by omega)
    have hqq : ((1 + (S1 : Int) + (S2 : Int)) != (1 + (S1 : Int) + (S2 : Int))) = false := by simp
    clear hN1 hN2 hbig hZ hs hSL hOL hK hT hS8 hO8
    go_enter Try.func11, Try.ntmps11
    go_wp2_with fail
    refine HS.out.mono ?_
    rintro e w' ⟨rfl, rfl⟩
    go_wp2_with fail
    refine (toInt64S_R _ _ _ _ _ (hI.more HB.size) hn).mono ?_
    rintro e w1 ⟨rfl, hr1, hb⟩
    have z1 := hb.size
    replace hI := hI.below (hb.mono HB.size)
    replace hG := hG.below (hb.mono HB.size)
    replace HB := HB.trans (hb.mono HB.size)
    clear hb
    go_wp2_with fail
    refine (TS.out _ (hG.more HB.size)).mono ?_
    rintro e w2 ⟨rfl, hs1, hb⟩
    have z2 := hb.size
    replace hI := hI.below (hb.mono HB.size)
    replace hG := hG.below (hb.mono HB.size)
    replace hr1 := hr1.below hb
    replace HB := HB.trans (hb.mono HB.size)
    clear hb
    obtain ⟨As, Cs, hgm⟩ := hs1.gms HXL.out
    go_wp2_with fail
    refine (SP.out _ _ _ _ _ (hr1.ints HIL.out) hgm).mono ?_
    rintro e w3 ⟨b1s, e1s, b2s, e2s, l1s, u1s, l2s, u2s, rfl, ps, qs, ⟨j1s, j2s, j3s, j4s, j5s⟩, hb⟩
    have z3 := hb.size
    replace hI := hI.below (hb.mono HB.size)
    replace hG := hG.below (hb.mono HB.size)
    replace hr1 := hr1.below hb
    replace hs1 := hs1.below hb
    replace HB := HB.trans (hb.mono HB.size)
    clear hb
    clear hgm
    go_wp2_with fail
    refine (toInt64S_R _ _ _ _ _ (hI.more HB.size) hn).mono ?_
    rintro e w4 ⟨rfl, hr2, hb⟩
    have z4 := hb.size
    replace hI := hI.below (hb.mono HB.size)
    replace hG := hG.below (hb.mono HB.size)
    replace hr1 := hr1.below hb
    replace hs1 := hs1.below hb
    replace ps := ps.below hb
    replace qs := qs.below hb
    replace HB := HB.trans (hb.mono HB.size)
    clear hb
    go_wp2_with fail
    refine (TS.out _ (hG.more HB.size)).mono ?_
    rintro e w5 ⟨rfl, hs2, hb⟩
    have z5 := hb.size
    replace hI := hI.below (hb.mono HB.size)
    replace hG := hG.below (hb.mono HB.size)
    replace hr1 := hr1.below hb
    replace hs1 := hs1.below hb
    replace ps := ps.below hb
    replace qs := qs.below hb
    replace hr2 := hr2.below hb
    replace HB := HB.trans (hb.mono HB.size)
    clear hb
    obtain ⟨Ai, Ci, hgm⟩ := hs2.gms HXL.out
    go_wp2_with fail
    refine (IM.out _ _ _ _ _ (hr2.ints HIL.out) hgm).mono ?_
    rintro e w6 ⟨b1i, e1i, b2i, e2i, l1i, u1i, l2i, u2i, rfl, pi, qi, ⟨j1i, j2i, j3i, j4i, j5i⟩, hb⟩
    have z6 := hb.size
    replace hI := hI.below (hb.mono HB.size)
    replace hG := hG.below (hb.mono HB.size)
    replace hr1 := hr1.below hb
    replace hs1 := hs1.below hb
    replace ps := ps.below hb
    replace qs := qs.below hb
    replace hr2 := hr2.below hb
    replace hs2 := hs2.below hb
    replace HB := HB.trans (hb.mono HB.size)
    clear hb
    clear hgm
    go_wp2_with fail
    refine (eqInt64S_b _ _ _ _ _ _ _ _ _ (pi.ints HSL.out) (ps.ints HSL.out) (by omega)).mono ?_
    rintro e w7 ⟨rfl, hb⟩
    have z7 := hb.size
    replace hI := hI.below (hb.mono HB.size)
    replace hG := hG.below (hb.mono HB.size)
    replace hr1 := hr1.below hb
    replace hs1 := hs1.below hb
    replace ps := ps.below hb
    replace qs := qs.below hb
    replace hr2 := hr2.below hb
    replace hs2 := hs2.below hb
    replace pi := pi.below hb
    replace qi := qi.below hb
    replace HB := HB.trans (hb.mono HB.size)
    clear hb
    go_wp2_with fail
    refine (eqInt64S_b _ _ _ _ _ _ _ _ _ (qi.ints HOL.out) (qs.ints HOL.out) (by omega)).mono ?_
    rintro e w8 ⟨rfl, hb⟩
    have z8 := hb.size
    replace hI := hI.below (hb.mono HB.size)
    replace hG := hG.below (hb.mono HB.size)
    replace hr1 := hr1.below hb
    replace hs1 := hs1.below hb
    replace ps := ps.below hb
    replace qs := qs.below hb
    replace hr2 := hr2.below hb
    replace hs2 := hs2.below hb
    replace pi := pi.below hb
    replace qi := qi.below hb
    replace HB := HB.trans (hb.mono HB.size)
    clear hb
    go_wp2_with fail
    refine (toInt64S_R _ _ _ _ _ (hI.more HB.size) hn).mono ?_
    rintro e w9 ⟨rfl, hr3, hb⟩
    have z9 := hb.size
    replace hI := hI.below (hb.mono HB.size)
    replace hG := hG.below (hb.mono HB.size)
    replace hr1 := hr1.below hb
    replace hs1 := hs1.below hb
    replace ps := ps.below hb
    replace qs := qs.below hb
    replace hr2 := hr2.below hb
    replace hs2 := hs2.below hb
    replace pi := pi.below hb
    replace qi := qi.below hb
    replace HB := HB.trans (hb.mono HB.size)
    clear hb
    go_wp2_with fail
    refine (eqInt64S_b _ _ _ _ _ _ _ _ _ (hr2.ints HIL.out) (hr3.ints HIL.out) hn).mono ?_
    rintro e w10 ⟨rfl, hb⟩
    have z10 := hb.size
    replace hI := hI.below (hb.mono HB.size)
    replace hG := hG.below (hb.mono HB.size)
    replace hr1 := hr1.below hb
    replace hs1 := hs1.below hb
    replace ps := ps.below hb
    replace qs := qs.below hb
    replace hr2 := hr2.below hb
    replace hs2 := hs2.below hb
    replace pi := pi.below hb
    replace qi := qi.below hb
    replace hr3 := hr3.below hb
    replace HB := HB.trans (hb.mono HB.size)
    clear hb
    go_wp2_with fail
    refine (TS.out _ (hG.more HB.size)).mono ?_
    rintro e w11 ⟨rfl, hs3, hb⟩
    have z11 := hb.size
    replace hI := hI.below (hb.mono HB.size)
    replace hG := hG.below (hb.mono HB.size)
    replace hr1 := hr1.below hb
    replace hs1 := hs1.below hb
    replace ps := ps.below hb
    replace qs := qs.below hb
    replace hr2 := hr2.below hb
    replace hs2 := hs2.below hb
    replace pi := pi.below hb
    replace qi := qi.below hb
    replace hr3 := hr3.below hb
    replace HB := HB.trans (hb.mono HB.size)
    clear hb
    obtain ⟨Aa, Ca, hga⟩ := hs2.gms HXL.out
    obtain ⟨Ab, Cb, hgb⟩ := hs3.gms HXL.out
    go_wp2_with fail
    refine (ES.out _ _ _ _ _ _ _ hga hgb).mono ?_
    rintro e w12 ⟨rfl, hb⟩
    have z12 := hb.size
    replace hI := hI.below (hb.mono HB.size)
    replace hG := hG.below (hb.mono HB.size)
    replace hr1 := hr1.below hb
    replace hs1 := hs1.below hb
    replace ps := ps.below hb
    replace qs := qs.below hb
    replace hr2 := hr2.below hb
    replace hs2 := hs2.below hb
    replace pi := pi.below hb
    replace qi := qi.below hb
    replace hr3 := hr3.below hb
    replace hs3 := hs3.below hb
    replace HB := HB.trans (hb.mono HB.size)
    clear hb
    clear hga hgb
    go_wp2_with fail
    refine (markInt64S_any _ _ _ _ _ _ _ _ _ hr2 (by omega) (by omega) hn).mono ?_
    rintro e w13 ⟨rfl, hm2, ho⟩
    have z13 := ho.size
    replace hI := hI.below (ho.bel (by omega) HB.size)
    replace hG := hG.below (ho.bel (by omega) HB.size)
    replace hr1 := hr1.out ho (by omega)
    replace hs1 := hs1.out ho (by omega)
    replace ps := ps.out ho (by omega)
    replace qs := qs.out ho (by omega)
    replace hs2 := hs2.out ho (by omega)
    replace pi := pi.out ho (by omega)
    replace qi := qi.out ho (by omega)
    replace hr3 := hr3.out ho (by omega)
    replace hs3 := hs3.out ho (by omega)
    replace HB := Out.below HB ho (by omega)
    clear ho
    replace hr2 := hm2
    clear hm2
    go_wp2_with fail
    refine (MS.out _ _ _ _ _ hs2).mono ?_
    rintro e w14 ⟨rfl, ho⟩
    have z14 := ho.size
    replace hI := hI.below (ho.bel (by omega) HB.size)
    replace hG := hG.below (ho.bel (by omega) HB.size)
    replace hr1 := hr1.out ho (by omega)
    replace hs1 := hs1.out ho (by omega)
    replace ps := ps.out ho (by omega)
    replace qs := qs.out ho (by omega)
    replace hr2 := hr2.out ho (by omega)
    replace pi := pi.out ho (by omega)
    replace qi := qi.out ho (by omega)
    replace hr3 := hr3.out ho (by omega)
    replace hs3 := hs3.out ho (by omega)
    replace HB := Out.below HB ho (by omega)
    clear ho
    clear hs2
    go_wp2_with fail
    refine (eqInt64S_b _ _ _ _ _ _ _ _ _ (pi.ints HSL.out) (ps.ints HSL.out) (by omega)).mono ?_
    rintro e w15 ⟨rfl, hb⟩
    have z15 := hb.size
    replace hI := hI.below (hb.mono HB.size)
    replace hG := hG.below (hb.mono HB.size)
    replace hr1 := hr1.below hb
    replace hs1 := hs1.below hb
    replace ps := ps.below hb
    replace qs := qs.below hb
    replace hr2 := hr2.below hb
    replace pi := pi.below hb
    replace qi := qi.below hb
    replace hr3 := hr3.below hb
    replace hs3 := hs3.below hb
    replace HB := HB.trans (hb.mono HB.size)
    clear hb
    go_wp2_with fail
    refine (eqInt64S_b _ _ _ _ _ _ _ _ _ (qi.ints HOL.out) (qs.ints HOL.out) (by omega)).mono ?_
    rintro e w16 ⟨rfl, hb⟩
    have z16 := hb.size
    replace hI := hI.below (hb.mono HB.size)
    replace hG := hG.below (hb.mono HB.size)
    replace hr1 := hr1.below hb
    replace hs1 := hs1.below hb
    replace ps := ps.below hb
    replace qs := qs.below hb
    replace hr2 := hr2.below hb
    replace pi := pi.below hb
    replace qi := qi.below hb
    replace hr3 := hr3.below hb
    replace hs3 := hs3.below hb
    replace HB := HB.trans (hb.mono HB.size)
    clear hb
    go_wp2_with fail
    refine (markInt64S_any _ _ _ _ _ _ _ _ _ pi (by omega) (by omega) (by omega)).mono ?_
    rintro e w17 ⟨rfl, hm2, ho⟩
    have z17 := ho.size
    replace hI := hI.below (ho.bel (by omega) HB.size)
    replace hG := hG.below (ho.bel (by omega) HB.size)
    replace hr1 := hr1.out ho (by omega)
    replace hs1 := hs1.out ho (by omega)
    replace ps := ps.out ho (by omega)
    replace qs := qs.out ho (by omega)
    replace hr2 := hr2.out ho (by omega)
    replace qi := qi.out ho (by omega)
    replace hr3 := hr3.out ho (by omega)
    replace hs3 := hs3.out ho (by omega)
    replace HB := Out.below HB ho (by omega)
    clear ho
    replace pi := hm2
    clear hm2
    go_wp2_with fail
    refine (markInt64S_any _ _ _ _ _ _ _ _ _ qi (by omega) (by omega) (by omega)).mono ?_
    rintro e w18 ⟨rfl, hm2, ho⟩
    have z18 := ho.size
    replace hI := hI.below (ho.bel (by omega) HB.size)
    replace hG := hG.below (ho.bel (by omega) HB.size)
    replace hr1 := hr1.out ho (by omega)
    replace hs1 := hs1.out ho (by omega)
    replace ps := ps.out ho (by omega)
    replace qs := qs.out ho (by omega)
    replace hr2 := hr2.out ho (by omega)
    replace pi := pi.out ho (by omega)
    replace hr3 := hr3.out ho (by omega)
    replace hs3 := hs3.out ho (by omega)
    replace HB := Out.below HB ho (by omega)
    clear ho
    replace qi := hm2
    clear hm2
    go_wp2_with fail
    refine (heldInt64S_any _ _ _ _ _ _ _ _ pi (by omega) (by omega) (by omega)).mono ?_
    rintro e w' ⟨rfl, rfl⟩
    go_wp2_with fail
    refine (heldInt64S_any _ _ _ _ _ _ _ _ qi (by omega) (by omega) (by omega)).mono ?_
    rintro e w' ⟨rfl, rfl⟩
    go_wp2_with fail
    refine (toInt64S_R _ _ _ _ _ (hI.more HB.size) hn).mono ?_
    rintro e w19 ⟨rfl, hr4, hb⟩
    have z19 := hb.size
    replace hI := hI.below (hb.mono HB.size)
    replace hG := hG.below (hb.mono HB.size)
    replace hr1 := hr1.below hb
    replace hs1 := hs1.below hb
    replace ps := ps.below hb
    replace qs := qs.below hb
    replace hr2 := hr2.below hb
    replace pi := pi.below hb
    replace qi := qi.below hb
    replace hr3 := hr3.below hb
    replace hs3 := hs3.below hb
    replace HB := HB.trans (hb.mono HB.size)
    clear hb
    go_wp2_with fail
    refine (TS.out _ (hG.more HB.size)).mono ?_
    rintro e w20 ⟨rfl, hs4, hb⟩
    have z20 := hb.size
    replace hI := hI.below (hb.mono HB.size)
    replace hG := hG.below (hb.mono HB.size)
    replace hr1 := hr1.below hb
    replace hs1 := hs1.below hb
    replace ps := ps.below hb
    replace qs := qs.below hb
    replace hr2 := hr2.below hb
    replace pi := pi.below hb
    replace qi := qi.below hb
    replace hr3 := hr3.below hb
    replace hs3 := hs3.below hb
    replace hr4 := hr4.below hb
    replace HB := HB.trans (hb.mono HB.size)
    clear hb
    obtain ⟨Ah, Ch, hgm⟩ := hs4.gms HXL.out
    go_wp2_with fail
    refine (IM.out _ _ _ _ _ (hr4.ints HIL.out) hgm).mono ?_
    rintro e w21 ⟨b1h, e1h, b2h, e2h, l1h, u1h, l2h, u2h, rfl, ph, qh, ⟨j1h, j2h, j3h, j4h, j5h⟩, hb⟩
    have z21 := hb.size
    replace hI := hI.below (hb.mono HB.size)
    replace hG := hG.below (hb.mono HB.size)
    replace hr1 := hr1.below hb
    replace hs1 := hs1.below hb
    replace ps := ps.below hb
    replace qs := qs.below hb
    replace hr2 := hr2.below hb
    replace pi := pi.below hb
    replace qi := qi.below hb
    replace hr3 := hr3.below hb
    replace hs3 := hs3.below hb
    replace hr4 := hr4.below hb
    replace hs4 := hs4.below hb
    replace HB := HB.trans (hb.mono HB.size)
    clear hb
    clear hgm
    go_wp2_with fail
    refine (eqInt64S_b _ _ _ _ _ _ _ _ _ (ph.ints HSL.out) (ps.ints HSL.out) (by omega)).mono ?_
    rintro e w22 ⟨rfl, hb⟩
    have z22 := hb.size
    replace hI := hI.below (hb.mono HB.size)
    replace hG := hG.below (hb.mono HB.size)
    replace hr1 := hr1.below hb
    replace hs1 := hs1.below hb
    replace ps := ps.below hb
    replace qs := qs.below hb
    replace hr2 := hr2.below hb
    replace pi := pi.below hb
    replace qi := qi.below hb
    replace hr3 := hr3.below hb
    replace hs3 := hs3.below hb
    replace hr4 := hr4.below hb
    replace hs4 := hs4.below hb
    replace ph := ph.below hb
    replace qh := qh.below hb
    replace HB := HB.trans (hb.mono HB.size)
    clear hb
    go_wp2_with fail
    refine (eqInt64S_b _ _ _ _ _ _ _ _ _ (qh.ints HOL.out) (qs.ints HOL.out) (by omega)).mono ?_
    rintro e w23 ⟨rfl, hb⟩
    have z23 := hb.size
    replace hI := hI.below (hb.mono HB.size)
    replace hG := hG.below (hb.mono HB.size)
    replace hr1 := hr1.below hb
    replace hs1 := hs1.below hb
    replace ps := ps.below hb
    replace qs := qs.below hb
    replace hr2 := hr2.below hb
    replace pi := pi.below hb
    replace qi := qi.below hb
    replace hr3 := hr3.below hb
    replace hs3 := hs3.below hb
    replace hr4 := hr4.below hb
    replace hs4 := hs4.below hb
    replace ph := ph.below hb
    replace qh := qh.below hb
    replace HB := HB.trans (hb.mono HB.size)
    clear hb
    go_wp2_with fail
    refine (heldInt64S_any _ _ _ _ _ _ _ _ pi (by omega) (by omega) (by omega)).mono ?_
    rintro e w' ⟨rfl, rfl⟩
    go_wp2_with fail
    refine (heldInt64S_any _ _ _ _ _ _ _ _ qi (by omega) (by omega) (by omega)).mono ?_
    rintro e w' ⟨rfl, rfl⟩
    go_wp2_with fail
    go_ret
    exact ⟨rfl, HB⟩
namespace fnExactChouetteScores
set_option linter.unusedVariables false
set_option maxRecDepth 100000 in
theorem lifted (os : Os) (started : os.Started) (H : Type) (enc : TypeId × Value → H) :
    ReturnsInHanded {} Try.checked os 11 .any (Rows.fnExactChouetteScoresSpec.pre6 enc Try.prog Try.f11 Rows.fnExactChouetteScoresRow.domain false) (Rows.fnExactChouetteScoresSpec.post enc Try.prog Try.f11 false true false false) := by
  refine returnsInHanded_of_change (C := Try.checked) own started (by kernel_rfl) Try.func11
    (ChangeSpec.witness6 (enc := enc) (C := Try.checked) false ⟨#[], #[.slice none 0 0, .slice none 0 0], []⟩ 8 (by kernel_rfl) (by kernel_rfl) (by kernel_rfl) (by kernel_rfl)) ?_
  intro W base args ds gs before hval0 hW hcnd _
  have hval : ∀ (j : Nat) t v, Try.f11.params[j]? = some t → args[j]? = some v → Value.okWide Try.prog W .any base t v := hval0
  have hW' := hW
  obtain ⟨p, q, hA0, hV, rfl, hfz, hnd⟩ := hW
  have hA : DataW.TrodAll enc Try.prog W 0 (fun _ => true) true Try.f11.params.toList args.toList ds p := hA0
  rw [Try.params11] at hA hval
  obtain ⟨v0, vs0, d0, ds0, p0, q0, hargs, rfl, rfl, h0, r0⟩ := trodAll_cons hA
  obtain ⟨v1, vs1, d1, ds1, p1, q1, rfl, rfl, rfl, h1, r1⟩ := trodAll_cons r0
  obtain ⟨rfl, rfl, rfl⟩ := trodAll_nil r1
  obtain rfl : args = #[v0, v1] := by cases args; simp_all
  obtain ⟨rfl, rfl⟩ := trodVars_none hV
  obtain ⟨ax0, nx0, cx0, x0, rfl, wx0⟩ := open_ints_arg Try.underlying29 Try.underlying2 (by kernel_rfl) (hval 0 29 v0 rfl rfl) h0
  obtain ⟨ax1, nx1, cx1, Ax1, lx1, Cx1, Xx1, rfl, wx1⟩ := open_ss Try.underlying53 Try.underlying29 Try.underlying2 (by kernel_rfl) (by kernel_rfl) (hval 1 53 v1 rfl rfl) h1
  clear hA0 hval0
  refine (walk_FnExactChouetteScores W ax0 nx0 cx0 x0 wx0 ax1 nx1 cx1 Ax1 lx1 Cx1 Xx1 wx1).mono fun e W' ⟨he, bel⟩ => ?_
  subst he
  exact ⟨_, rfl, _, _, _, [], _, [], hW', trodAll_mk1 (shut_bool Try.underlying4 _), (trodAll_cons_mk (Below.trod laidOut (by kernel_rfl) (of_decide_eq_true (by kernel_rfl)) h0 bel (lt_of_trod h0)) (trodAll_cons_mk (Below.trod laidOut (by kernel_rfl) (of_decide_eq_true (by kernel_rfl)) h1 bel (lt_of_trod h1)) trodAll_mk0)), rfl, bel.frame _, fun h => by cases h⟩

theorem over : Rows.fnExactChouetteScoresRow.holds Try.pinned (OpenSpec.ofChange Rows.fnExactChouetteScoresSpec) :=
  OpenClaim.holds_of_wide 11 Try.f11 rfl rfl rfl rfl rfl rfl rfl ⟨rfl, rfl, rfl, rfl, rfl⟩ rfl rfl rfl rfl rfl (by kernel_rfl) Try.func11 (by kernel_rfl)
    (of_decide_eq_true (by kernel_rfl)) (by unfold Func.isWrapper; first | (rw [if_pos (by decide +kernel)]; kernel_rfl) | (rw [if_neg (by decide +kernel)]; exact ⟨rfl, rfl⟩))
    (fun os started H enc _ => lifted os started H enc)
theorem proved : Rows.FnExactChouetteScoresSaid := over
#print axioms proved
end fnExactChouetteScores
end Go.Proofs.Ytocdiflkegbffaa
