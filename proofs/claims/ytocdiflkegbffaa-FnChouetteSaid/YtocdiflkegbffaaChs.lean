/-
  ChouetteScores of both packages.
-/
import Derived.Test.YtocdiflkegbffaaChsP
import Derived.Test.YtocdiflkegbffaaSs
import Derived.Test.YtocdiflkegbffaaClone
import Derived.StillTailTactics
import Derived.RegionTactic
import Derived.BigRegion
import Derived.IntWalk
namespace Go.Proofs.Ytocdiflkegbffaa
open Go.ChangeShapes Go.WideShapes Go.ChangeAt Go.RowKit
set_option linter.unusedVariables false

def scL (n : Nat) (order : List Int) (N : Nat) (X : Nat → List Int) (ln : Nat → Nat) : List Int := if chC n order N X ln = 0 then (stC order X ln N).1 else []
def orL (n : Nat) (order : List Int) (N : Nat) (X : Nat → List Int) (ln : Nat → Nat) : List Int := if chC n order N X ln = 0 then (stC order X ln N).2 else []
/-- what both ChouetteScores return -/
def ChsPost (n : Nat) (order : List Int) (N : Nat) (X : Nat → List Int) (ln : Nat → Nat) (w : World) (e : Ending) (w' : World) : Prop :=
  ∃ a1 c1 a2 c2 l1 u1 l2 u2, e = .returned (.tuple #[.slice a1 (scL n order N X ln).length c1, .slice a2 (orL n order N X ln).length c2, .int .i64 (chC n order N X ln)]) ∧
    RowN w' l1 u1 2 a1 (scL n order N X ln).length (icell .i64 (scL n order N X ln)) ∧ RowN w' l2 u2 2 a2 (orL n order N X ln).length (icell .i64 (orL n order N X ln)) ∧ (w.heap.size ≤ l1 ∧ w.heap.size ≤ l2 ∧ u1 ≤ w'.heap.size ∧ u2 ≤ w'.heap.size ∧ (u1 ≤ l2 ∨ u2 ≤ l1)) ∧ Below w.heap.size w w'
theorem ChsPost.no {n : Nat} {order : List Int} {N : Nat} {X : Nat → List Int} {ln : Nat → Nat} {w : World} {e : Ending} {w' : World} {K : Int} (he : e = .returned (.tuple #[.slice none 0 0, .slice none 0 0, .int .i64 K])) (hK : chC n order N X ln = K) (h0 : ¬ K = 0) (hb : Below w.heap.size w w') : ChsPost n order N X ln w e w' := by
  have h1 : scL n order N X ln = [] := by unfold scL; rw [hK, if_neg h0]
  have h2 : orL n order N X ln = [] := by unfold orL; rw [hK, if_neg h0]
  refine ⟨none, 0, none, 0, w.heap.size, w.heap.size, w.heap.size, w.heap.size, ?_, ?_, ?_, ⟨Nat.le_refl _, Nat.le_refl _, hb.size, hb.size, .inl (Nat.le_refl _)⟩, hb⟩
  · rw [h1, h2, hK, he]; rfl
  · rw [h1]; exact .inl rfl
  · rw [h2]; exact .inl rfl
theorem ChsPost.yes {n : Nat} {order : List Int} {N : Nat} {X : Nat → List Int} {ln : Nat → Nat} {w : World} {e : Ending} {w' : World} {a1 a2 : Option Addr} {c1 c2 l1 u1 l2 u2 : Nat} (he : e = .returned (.tuple #[.slice a1 8 c1, .slice a2 n c2, .int .i64 0])) (hK : chC n order N X ln = 0) (hn : (stC order X ln N).2.length = n)
    (h1 : RowN w' l1 u1 2 a1 8 (icell .i64 (stC order X ln N).1)) (h2 : RowN w' l2 u2 2 a2 n (icell .i64 (stC order X ln N).2)) (hl : w.heap.size ≤ l1 ∧ w.heap.size ≤ l2 ∧ u1 ≤ w'.heap.size ∧ u2 ≤ w'.heap.size ∧ (u1 ≤ l2 ∨ u2 ≤ l1)) (hb : Below w.heap.size w w') : ChsPost n order N X ln w e w' := by
  have e1 : scL n order N X ln = (stC order X ln N).1 := by unfold scL; rw [if_pos hK]
  have e2 : orL n order N X ln = (stC order X ln N).2 := by unfold orL; rw [if_pos hK]
  have e3 := stC_len1 order X ln N
  refine ⟨a1, c1, a2, c2, l1, u1, l2, u2, ?_, ?_, ?_, hl, hb⟩
  · rw [e1, e2, hK, he, hn, e3]
  · rw [e1, e3]; exact h1
  · rw [e2, hn]; exact h2
theorem made8 (w : World) : (w.alloc (.cells (madeCells #[.int .i64 0] 8) 2)).rowIs w.heap.size 2 8 (icell .i64 (List.replicate 8 0)) :=
  (World.rowIs_made w (.int .i64 0) 8 2).congr (fun j hj => by
    show Value.int .i64 0 = .int .i64 ((List.replicate 8 (0 : Int)).getD j 0)
    rw [List.getD_eq_getElem?_getD, List.getElem?_replicate, if_pos hj]
    rfl)
theorem make_8 (W : World) : (Instr.makeSlice 29 (.int .i64 8) (.int .i64 8)).run Try.prog W = .ok (.slice (some ⟨W.heap.size, 0, none⟩) 8 8) (W.alloc (.cells (madeCells #[.int .i64 0] 8) 2)) := make_i64 8 (by omega) W

set_option maxRecDepth 16000 in
set_option maxHeartbeats 1600000 in
theorem impl_ChouetteScores_any (a : Option Addr) (n c : Nat) (xs : List Int) (a' : Option Addr) (N c' : Nat) (A : Nat → Option Addr) (ln C : Nat → Nat) (X : Nat → List Int) (w : World) (h : Ints w w.heap.size .i64 a n xs) (hg : Gms w w.heap.size a' N A ln C X) (hnc : n ≤ c) (ha : a = none → c = 0) (hn : n ≤ 1048576) (hN : N ≤ 1048576) (hL : ∀ i, i < N → ln i ≤ 1048576) :
    Calls Try.prog 44 #[.slice a n c, .slice a' N c'] w fun e w' => ChsPost n xs N X ln w e w' := by
  by_cases h60 : 60 < N
  · have HV := Lib.hid (chC_0 (n := n) (order := xs) (X := X) (ln := ln) h60)
    go_enter Try.func44, Try.ntmps44
    go_wp2_with fail
    go_ret3
    exact ChsPost.no rfl HV.out (by decide) (Below.refl _ _)
  obtain ⟨K, hK⟩ : ∃ K, ordB n xs = K := ⟨_, rfl⟩
  have IO := Lib.hid (isOrder_any a n c _ xs w h hnc hn)
  rw [hK] at IO
  have HK := Lib.hid hK
  clear hK
  cases K
  · have HV := Lib.hid (chC_1 (X := X) (ln := ln) h60 HK.out)
    go_enter Try.func44, Try.ntmps44
    go_wp2_with fail
    refine IO.out.mono ?_
    rintro e w1 ⟨rfl, rfl⟩
    go_wp2_with fail
    go_ret3
    exact ChsPost.no rfl HV.out (by decide) (Below.refl _ _)
  · obtain ⟨n2, n8, _⟩ := ordB_out HK.out
    have hmk := make_8 w
    have M8 := Lib.hid (made8 w)
    have HB0 := (Below.refl w.heap.size w).alloc (Nat.le_refl _) (.cells (madeCells #[.int .i64 0] 8) 2)
    have CL := Lib.hid (clone_any a n c xs _ ((h.below HB0).more HB0.size) ha hn)
    have HG := Lib.hid hg
    have HLn := Lib.hid hL
    have HXL := Lib.hid h.1
    clear h hg hL
    go_enter Try.func44, Try.ntmps44
    go_wp2_with fail
    refine IO.out.mono ?_
    rintro e w1 ⟨rfl, rfl⟩
    go_wp2_with fail
    refine CL.out.mono ?_
    rintro e w2 ⟨a2, c2, rfl, hc2, hr2, hb2⟩
    have z2 := hb2.size
    simp only [World.size_alloc] at z2
    have R2 := Lib.hid (rowIs_below M8.out hb2 M8.out.lt)
    have B2 := Lib.hid (HB0.trans (hb2.mono HB0.size))
    have Q2 : Hid (RowN w2 (w.heap.size + 1) w2.heap.size 2 a2 n (icell .i64 xs)) := Lib.hid (by simpa using hr2)
    clear hr2 hb2 hmk
    go_wp2_with fail
    go_loopw [8, 24] (fun nv gi wr => ∃ (a2 : Option Addr) (c2 g : Nat), nv = .slice a2 n c2 ∧ n ≤ c2 ∧ g ≤ N ∧ gi = .int .i64 (g : Int) ∧ Hid (okC n X ln g = true) ∧ Hid (wr.rowIs w.heap.size 2 8 (icell .i64 (stC xs X ln g).1)) ∧ Hid (RowN wr (w.heap.size + 1) wr.heap.size 2 a2 n (icell .i64 (stC xs X ln g).2)) ∧ Hid (Below w.heap.size w wr)) (fun _ gi _ => N - (intOf gi).toNat)
    case atStart => exact ⟨a2, c2, 0, rfl, hc2, Nat.zero_le _, rfl, Lib.hid rfl, R2, Q2, B2⟩
    case round =>
      obtain ⟨a2, c2, g, rfl, hc2, hgN, rfl, HOK, HR, HQ, HB⟩ := hrel
      obtain ⟨wo, hwo⟩ : ∃ wo, wo = wr := ⟨_, rfl⟩
      subst hwo
      by_cases hlt : g < N
      · have hd : decide ((g : Int) < (N : Int)) = true := decide_eq_true (by omega)
        obtain ⟨b, off, hae, hbl, hcg⟩ := HG.out.1 (by omega)
        subst hae
        have x0 := (HB.out.cell (p := ⟨b, off + g, none⟩) hbl).trans (hcg g hlt)
        have hIg := ((HG.out.2 g hlt).below HB.out).more HB.out.size
        have hl1 := HLn.out g hlt
        obtain ⟨Kg, hKg⟩ : ∃ Kg, outB n (ln g) (X g) = Kg := ⟨_, rfl⟩
        have OU := Lib.hid (isOutcomes_any a2 (A g) n c2 (ln g) (C g) _ (X g) wo hIg hn hl1)
        rw [hKg] at OU
        have HKg := Lib.hid hKg
        have HIg := Lib.hid (HG.out.2 g hlt)
        clear hcg hKg hIg
        cases Kg
        · have HV := Lib.hid (chC_2 h60 HK.out (okC_no HKg.out N hlt))
          go_wp2_with fail
          refine OU.out.mono ?_
          rintro e w3 ⟨rfl, rfl⟩
          go_wp2_with fail
          go_ret3
          exact ChsPost.no rfl HV.out (by decide) HB.out
        · obtain ⟨hm1, _⟩ := outB_out HKg.out
          have hm7 : ln g ≤ 7 := by omega
          have hm0 : 1 ≤ ln g := by omega
          have hmn : ln g + 1 ≤ n := by omega
          obtain ⟨ho1, ho2⟩ := stC_ord (X := X) (ln := ln) HXL.out HK.out g
          have HO1 := Lib.hid ho1
          have HO2 := Lib.hid ho2
          obtain ⟨hbd, _⟩ := stC_bd HXL.out HK.out g HOK.out
          have BD := Lib.hid (gmS_bd (stC_len1 xs X ln g) ho1 HKg.out hbd)
          obtain ⟨sc, hsc⟩ : ∃ sc, (stC xs X ln g).1 = sc := ⟨_, rfl⟩
          obtain ⟨nw, hnw⟩ : ∃ nw, (stC xs X ln g).2 = nw := ⟨_, rfl⟩
          have hscl := stC_len1 xs X ln g
          rw [hsc] at HR BD hscl
          rw [hnw] at HQ HO1 HO2 BD
          have HS := Lib.hid (show stC xs X ln (g + 1) = (gmS sc nw (X g) (ln g), nextL nw ((X g).getD 0 0)) by rw [stC, hsc, hnw])
          have HSL := Lib.hid hscl
          obtain ⟨b2, o2, hA, hb2l, hc2'⟩ := HIg.out.2 (by omega)
          have YC := Lib.hid hc2'
          have HA := Lib.hid hA
          obtain ⟨gn, hgn, hgn1, hgn2, hgn3, hgc⟩ := HQ.out.blk (by omega)
          subst hgn
          have NC := Lib.hid (fun i hi => (hgc i hi).1)
          have hne : ¬ gn = w.heap.size := by omega
          have hne' : ¬ w.heap.size = gn := by omega
          have hbne : ¬ b2 = w.heap.size := by omega
          clear ho1 ho2 hbd hsc hnw hscl hc2' hgc hm1 hA
          go_wp2_with fail
          refine OU.out.mono ?_
          rintro e w3 ⟨rfl, rfl⟩
          go_wp2_with fail
          go_loopw [34] (fun ii wi => ∃ i : Nat, i ≤ ln g ∧ ii = .int .i64 (i : Int) ∧ Hid (wi.rowIs w.heap.size 2 8 (icell .i64 (gmS sc nw (X g) i))) ∧ Hid (Out w.heap.size (w.heap.size + 1) wo wi)) (fun ii _ => ln g - (intOf ii).toNat)
          case atStart => exact ⟨0, Nat.zero_le _, rfl, HR, Lib.hid (Out.refl _ _ _)⟩
          case round =>
            obtain ⟨i, hi, rfl, HW, HOut⟩ := hrel
            by_cases hlt2 : i < ln g
            · have hi1 : i + 1 < n := by omega
              obtain ⟨x, y, hx, hy, hx8, hy8, hxy⟩ := gm_data HO1.out HKg.out hlt2
              obtain ⟨v, hv⟩ : ∃ v, (X g).getD i 0 = v := ⟨_, rfl⟩
              have hvb := outB_at HKg.out hlt2
              rw [hv] at hvb
              obtain ⟨hv1, hv2⟩ := hvb
              obtain ⟨bX, hbX⟩ : ∃ b, (gmS sc nw (X g) i).getD x 0 = b := ⟨_, rfl⟩
              obtain ⟨bY, hbY⟩ : ∃ b, (gmS sc nw (X g) i).getD y 0 = b := ⟨_, rfl⟩
              have bd1 := BD.out i (by omega) x hx8
              have bd2 := BD.out i (by omega) y hy8
              rw [hbX] at bd1
              rw [hbY] at bd2
              have bb1 : -2000000000 ≤ bX ∧ bX ≤ 2000000000 := by omega
              have bb2 : -2000000000 ≤ bY ∧ bY ≤ 2000000000 := by omega
              obtain ⟨q1, q2⟩ := bb1
              obtain ⟨q3, q4⟩ := bb2
              have hyx : ¬ y = x := fun e => hxy e.symm
              have n0 : wr.cell? ⟨gn, 0, none⟩ = some (.int .i64 (x : Int)) := by
                have := (World.cell?_of_block (a := ⟨gn, 0, none⟩) (HOut.out.block gn hgn3 (.inr (by omega)))).trans (NC.out 0 (by omega))
                rw [this, icell, hx]
              have n1 : wr.cell? ⟨gn, i + 1, none⟩ = some (.int .i64 (y : Int)) := by
                have := (World.cell?_of_block (a := ⟨gn, i + 1, none⟩) (HOut.out.block gn hgn3 (.inr (by omega)))).trans (NC.out (i + 1) (by omega))
                rw [this, icell, hy]
              have y0 : wr.cell? ⟨b2, o2 + i, none⟩ = some (.int .i64 v) := by
                have h1 := HB.out.cell (p := ⟨b2, o2 + i, none⟩) hb2l
                have h2 := (World.cell?_of_block (a := ⟨b2, o2 + i, none⟩) (HOut.out.block b2 (by have := HB.out.size; omega) (.inl hb2l))).trans (h1.trans (YC.out i hlt2))
                rw [h2, hv]
              have cX := HW.out.cell hx8
              have cY := HW.out.cell hy8
              rw [icell, hbX] at cX
              rw [icell, hbY] at cY
              have fX := HW.out.frozen x
              have fY := HW.out.frozen y
              have HF := Lib.hid (gm_cell HSL.out hx hy hx8 hy8 hxy hbX hbY hv)
              clear hx hy hv hbX hbY bd1 bd2
              rw [HA.out]
              go_wp2
              go_roundw
              case rel => exact ⟨i + 1, by omega, by go_num, Lib.hid (((HW.out.set x _).set y _).congr HF.out), Lib.hid ((HOut.out.set (Nat.le_refl _) (Nat.lt_add_one _) _).set (Nat.le_refl _) (Nat.lt_add_one _) _)⟩
              case measure => simp [intOf]; omega
            · obtain rfl : i = ln g := by omega
              have zi := HOut.out.size
              have hB2 := Out.below HB.out HOut.out (Nat.le_refl _)
              have NX := Lib.hid (nextOrder_any (some ⟨gn, 0, none⟩) (A g) n c2 (ln g) (C g) nw (X g) wr ((HQ.out.out HOut.out (.inr (Nat.le_refl _))).ints HO2.out) ((HIg.out.below hB2).more hB2.size) hc2 n2 n8 hm0 (by omega))
              have HB2 := Lib.hid hB2
              clear hB2
              go_wp2_with fail
              refine NX.out.mono ?_
              rintro e w4 ⟨a4, c4, hc4, rfl, hr4, hb4⟩
              have z4 := hb4.size
              have HR4 := Lib.hid hr4
              have HB4 := Lib.hid hb4
              clear hr4 hb4
              go_wp2_with fail
              go_roundw
              case rel =>
                refine ⟨a4, c4, g + 1, rfl, hc4, by omega, by go_num, Lib.hid (by rw [okC, HOK.out, HKg.out]; rfl), Lib.hid ?_, Lib.hid ?_, Lib.hid (HB2.out.trans (HB4.out.mono HB2.out.size))⟩
                · rw [HS.out]; exact rowIs_below HW.out HB4.out HW.out.lt
                · rw [HS.out]; exact HR4.out.wide (by have := HW.out.lt; omega) (Nat.le_refl _)
              case measure => simp [intOf]; omega
      · obtain rfl : g = N := by omega
        have HV := Lib.hid (chC_3 h60 HK.out HOK.out)
        have hN2 := (stC_ord (X := X) (ln := ln) HXL.out HK.out g).2
        have HN2 := Lib.hid hN2
        clear hN2
        go_wp2_with fail
        go_ret3
        exact ChsPost.yes rfl HV.out HN2.out (RowN.of_row HR.out (Nat.le_refl _) (Nat.lt_add_one _)) HQ.out ⟨Nat.le_refl _, by omega, HR.out.lt, Nat.le_refl _, .inl (Nat.le_refl _)⟩ HB.out

theorem grows_sh {w : World} {base n : Nat} {v : Value} {xs : List Int} (h : Grows w base v xs) (hl : xs.length = n) (h0 : 0 < n) : ∃ gl cap, v = .slice (some ⟨gl, 0, none⟩) n cap ∧ base ≤ gl ∧ RowN w base w.heap.size 2 (some ⟨gl, 0, none⟩) n (icell .i64 xs) ∧ n ≤ cap := by
  subst hl
  have h' := h
  obtain ⟨h1, ⟨h2, h3⟩ | ⟨g', cap', cur, h2, h3, h4, h5, _⟩⟩ := h
  · omega
  · subst h2
    have hr := (RowN.of_own h').congr (f' := icell .i64 xs) fun i hi => ints_getD .i64 xs (by omega)
    rw [Nat.mul_one] at hr
    exact ⟨g', cap', rfl, h3, hr, h5⟩
set_option maxRecDepth 16000 in
set_option maxHeartbeats 1600000 in
theorem spec_ChouetteScores_any (a : Option Addr) (n c : Nat) (xs : List Int) (a' : Option Addr) (N c' : Nat) (A : Nat → Option Addr) (ln C : Nat → Nat) (X : Nat → List Int) (w : World) (h : Ints w w.heap.size .i64 a n xs) (hg : Gms w w.heap.size a' N A ln C X) (hn : n ≤ 1048576) (hN : N ≤ 1048576) (hL : ∀ i, i < N → ln i ≤ 1048576) :
    Calls Try.prog 42 #[.slice a n c, .slice a' N c'] w fun e w' => ChsPost n xs N X ln w e w' := by
  by_cases h60 : 60 < N
  · have HV := Lib.hid (chC_0 (n := n) (order := xs) (X := X) (ln := ln) h60)
    go_enter Try.func42, Try.ntmps42
    go_wp2_with fail
    go_ret3
    exact ChsPost.no rfl HV.out (by decide) (Below.refl _ _)
  obtain ⟨K, hK⟩ : ∃ K, ordB n xs = K := ⟨_, rfl⟩
  have IO := Lib.hid (l21Order_any a n c _ xs w h (Nat.le_refl _) hn)
  rw [hK] at IO
  have HK := Lib.hid hK
  clear hK
  cases K
  · have HV := Lib.hid (chC_1 (X := X) (ln := ln) h60 HK.out)
    go_enter Try.func42, Try.ntmps42
    go_wp2_with fail
    refine IO.out.mono ?_
    rintro e w1 ⟨rfl, hb1⟩
    go_wp2_with fail
    go_ret3
    exact ChsPost.no rfl HV.out (by decide) hb1
  · obtain ⟨n2, n8, _⟩ := ordB_out HK.out
    obtain ⟨ba, oa, rfl, hba, hca⟩ := h.2 (by omega)
    have CA := Lib.hid hca
    have HG := Lib.hid hg
    have HLn := Lib.hid hL
    have HXL := Lib.hid h.1
    clear h hg hL hca
    go_enter Try.func42, Try.ntmps42
    go_wp2_with fail
    refine IO.out.mono ?_
    rintro e w1 ⟨rfl, hb1⟩
    have z1 := hb1.size
    have G1 := Lib.hid (Grows.new w1 w1.heap.size (Nat.le_refl _))
    have B1 := Lib.hid (hb1.alloc z1 (.cells #[] 2))
    have N1 := Lib.hid (fun i (hi : i < n) => show (w1.alloc (.cells #[] 2)).cell? ((⟨ba, oa, none⟩ : Addr).add i) = some (.int .i64 (xs.getD i 0)) by
      have e : (⟨ba, oa, none⟩ : Addr).add i = ⟨ba, oa + i, none⟩ := by by_cases h0 : i = 0 <;> simp [Addr.add, h0]
      rw [e]; exact (B1.out.cell (p := ⟨ba, oa + i, none⟩) hba).trans (CA.out i hi))
    clear hb1
    have mk := Lib.hid make_8
    go_wp2_with (at_builtin; refine app_grows rfl (.tmp 17) (.tmp 18) rfl rfl G1.out ⟨ba, oa, none⟩ xs n c rfl HXL.out.symm N1.out (by rw [List.length_nil]; omega) (by simp) ?_; intro v2 w2 hg2 hb2; obtain ⟨gl, cp, rfl, hgl, hr2, hcp⟩ := grows_sh hg2 (n := n) (by rw [List.nil_append, HXL.out]) (by omega); have hmk := mk.out w2)
    rw [List.nil_append] at hr2
    have z2 := hb2.size
    simp only [World.size_alloc] at z2
    have Q0 := Lib.hid hr2
    have B2 := Lib.hid ((B1.out.trans (hb2.mono z1)).alloc (by omega) (.cells (madeCells #[.int .i64 0] 8) 2))
    have R2 := Lib.hid (made8 w2)
    have Q2 := Lib.hid (Q0.out.below ((Below.refl w2.heap.size w2).alloc (Nat.le_refl _) (.cells (madeCells #[.int .i64 0] 8) 2)))
    clear hr2 hg2 hb2 hmk
    go_loopw [7, 9] (fun nv gi wr => ∃ (a2 : Option Addr) (c2 l2 u2 g : Nat), nv = .slice a2 n c2 ∧ n ≤ c2 ∧ g ≤ N ∧ gi = .int .i64 (g : Int) ∧ Hid (okC n X ln g = true) ∧ Hid (wr.rowIs w2.heap.size 2 8 (icell .i64 (stC xs X ln g).1)) ∧ Hid (RowN wr l2 u2 2 a2 n (icell .i64 (stC xs X ln g).2)) ∧ (w.heap.size ≤ l2 ∧ u2 ≤ wr.heap.size ∧ (u2 ≤ w2.heap.size ∨ w2.heap.size < l2)) ∧ Hid (Below w.heap.size w wr)) (fun _ gi _ => N - (intOf gi).toNat)
    case atStart => exact ⟨_, cp, w1.heap.size, w2.heap.size, 0, rfl, hcp, Nat.zero_le _, rfl, Lib.hid rfl, R2, Q2, ⟨z1, by simp, .inl (Nat.le_refl _)⟩, B2⟩
    case round =>
      obtain ⟨a2, c2, l2, u2, g, rfl, hc2, hgN, rfl, HOK, HR, HQ, ⟨hq1, hq2, hq3⟩, HB⟩ := hrel
      obtain ⟨wo, hwo⟩ : ∃ wo, wo = wr := ⟨_, rfl⟩
      subst hwo
      by_cases hlt : g < N
      · have hd : decide ((g : Int) < (N : Int)) = true := decide_eq_true (by omega)
        obtain ⟨b, off, hae, hbl, hcg⟩ := HG.out.1 (by omega)
        subst hae
        have GC := Lib.hid (hcg g hlt)
        have x0 := (HB.out.cell (p := ⟨b, off + g, none⟩) hbl).trans (hcg g hlt)
        have hIg := ((HG.out.2 g hlt).below HB.out).more HB.out.size
        have hl1 := HLn.out g hlt
        have hzb := HB.out.size
        obtain ⟨ho1, ho2⟩ := stC_ord (X := X) (ln := ln) HXL.out HK.out g
        obtain ⟨Kg, hKg⟩ : ∃ Kg, outB n (ln g) (X g) = Kg := ⟨_, rfl⟩
        have OU := Lib.hid (spec_IsChouette_any a2 (A g) n c2 (ln g) (C g) _ _ (stC xs X ln g).2 (X g) wo (HQ.out.ints ho2) hIg (Nat.le_refl _) (Nat.le_refl _) hn hl1)
        rw [hKg, ho1, Bool.true_and] at OU
        have HKg := Lib.hid hKg
        have HIg := Lib.hid (HG.out.2 g hlt)
        have HO1 := Lib.hid ho1
        have HO2 := Lib.hid ho2
        clear hcg hKg hIg ho1 ho2
        cases Kg
        · have HV := Lib.hid (chC_2 h60 HK.out (okC_no HKg.out N hlt))
          go_wp2_with fail
          refine OU.out.mono ?_
          rintro e w3 ⟨rfl, hb3⟩
          have HB3 := Lib.hid (HB.out.trans (hb3.mono hzb))
          clear hb3
          go_wp2_with fail
          go_ret3
          exact ChsPost.no rfl HV.out (by decide) HB3.out
        · obtain ⟨hm1, _⟩ := outB_out HKg.out
          have hm7 : ln g ≤ 7 := by omega
          have hm0 : 1 ≤ ln g := by omega
          have hmn : ln g + 1 ≤ n := by omega
          obtain ⟨hbd, _⟩ := stC_bd HXL.out HK.out g HOK.out
          have BD := Lib.hid (gmS_bd (stC_len1 xs X ln g) HO1.out HKg.out hbd)
          obtain ⟨sc, hsc⟩ : ∃ sc, (stC xs X ln g).1 = sc := ⟨_, rfl⟩
          obtain ⟨nw, hnw⟩ : ∃ nw, (stC xs X ln g).2 = nw := ⟨_, rfl⟩
          have hscl := stC_len1 xs X ln g
          rw [hsc] at HR BD hscl
          rw [hnw] at HQ HO1 HO2 BD
          have HS := Lib.hid (show stC xs X ln (g + 1) = (gmS sc nw (X g) (ln g), nextL nw ((X g).getD 0 0)) by rw [stC, hsc, hnw])
          have HSL := Lib.hid hscl
          obtain ⟨b2, o2, hA, hb2l, hc2'⟩ := HIg.out.2 (by omega)
          have YC := Lib.hid hc2'
          have HA := Lib.hid hA
          obtain ⟨gn, hgn, hgn1, hgn2, hgn3, hgc⟩ := HQ.out.blk (by omega)
          subst hgn
          have NC := Lib.hid (fun i hi => (hgc i hi).1)
          have hne : ¬ gn = w2.heap.size := by omega
          have hne' : ¬ w2.heap.size = gn := by omega
          have hbne : ¬ b2 = w2.heap.size := by omega
          have hbne2 : ¬ b = w2.heap.size := by omega
          clear hbd hsc hnw hscl hc2' hgc hm1 hA
          go_wp2_with fail
          refine OU.out.mono ?_
          rintro e w3 ⟨rfl, hb3⟩
          have z3 := hb3.size
          have HB3 := Lib.hid (HB.out.trans (hb3.mono hzb))
          have HR3 := Lib.hid (rowIs_below HR.out hb3 HR.out.lt)
          have HQ3 := Lib.hid (HQ.out.below hb3)
          have NC3 := Lib.hid (fun i hi => (hb3.cell (p := ⟨gn, i, none⟩) hgn3).trans (NC.out i hi))
          clear hb3 OU
          go_wp2_with fail
          go_loopw [10] (fun ii wi => ∃ i : Nat, i ≤ ln g ∧ ii = .int .i64 (i : Int) ∧ Hid (wi.rowIs w2.heap.size 2 8 (icell .i64 (gmS sc nw (X g) i))) ∧ Hid (Out w2.heap.size (w2.heap.size + 1) w3 wi)) (fun ii _ => ln g - (intOf ii).toNat)
          case atStart => exact ⟨0, Nat.zero_le _, rfl, HR3, Lib.hid (Out.refl _ _ _)⟩
          case round =>
            obtain ⟨i, hi, rfl, HW, HOut⟩ := hrel
            have x0 : wr.cell? ⟨b, off + g, none⟩ = some (.slice (A g) (ln g) (C g)) := by
              have h1 := HB3.out.cell (p := ⟨b, off + g, none⟩) hbl
              exact (World.cell?_of_block (a := ⟨b, off + g, none⟩) (HOut.out.block b (by have := HB3.out.size; omega) (by show b < _ ∨ _; omega))).trans (h1.trans GC.out)
            by_cases hlt2 : i < ln g
            · have hi1 : i + 1 < n := by omega
              obtain ⟨x, y, hx, hy, hx8, hy8, hxy⟩ := gm_data HO1.out HKg.out hlt2
              obtain ⟨v, hv⟩ : ∃ v, (X g).getD i 0 = v := ⟨_, rfl⟩
              have hvb := outB_at HKg.out hlt2
              rw [hv] at hvb
              obtain ⟨hv1, hv2⟩ := hvb
              obtain ⟨bX, hbX⟩ : ∃ b, (gmS sc nw (X g) i).getD x 0 = b := ⟨_, rfl⟩
              obtain ⟨bY, hbY⟩ : ∃ b, (gmS sc nw (X g) i).getD y 0 = b := ⟨_, rfl⟩
              have bd1 := BD.out i (by omega) x hx8
              have bd2 := BD.out i (by omega) y hy8
              rw [hbX] at bd1
              rw [hbY] at bd2
              have bb1 : -2000000000 ≤ bX ∧ bX ≤ 2000000000 := by omega
              have bb2 : -2000000000 ≤ bY ∧ bY ≤ 2000000000 := by omega
              obtain ⟨q1, q2⟩ := bb1
              obtain ⟨q3, q4⟩ := bb2
              have hyx : ¬ y = x := fun e => hxy e.symm
              have n0 : wr.cell? ⟨gn, 0, none⟩ = some (.int .i64 (x : Int)) := by
                have := (World.cell?_of_block (a := ⟨gn, 0, none⟩) (HOut.out.block gn (by omega) (by omega))).trans (NC3.out 0 (by omega))
                rw [this, icell, hx]
              have n1 : wr.cell? ⟨gn, i + 1, none⟩ = some (.int .i64 (y : Int)) := by
                have := (World.cell?_of_block (a := ⟨gn, i + 1, none⟩) (HOut.out.block gn (by omega) (by omega))).trans (NC3.out (i + 1) (by omega))
                rw [this, icell, hy]
              have y0 : wr.cell? ⟨b2, o2 + i, none⟩ = some (.int .i64 v) := by
                have h1 := HB3.out.cell (p := ⟨b2, o2 + i, none⟩) hb2l
                have h2 := (World.cell?_of_block (a := ⟨b2, o2 + i, none⟩) (HOut.out.block b2 (by have := HB3.out.size; omega) (by show b2 < _ ∨ _; omega))).trans (h1.trans (YC.out i hlt2))
                rw [h2, hv]
              rw [HA.out] at x0
              have cX := HW.out.cell hx8
              have cY := HW.out.cell hy8
              rw [icell, hbX] at cX
              rw [icell, hbY] at cY
              have fX := HW.out.frozen x
              have fY := HW.out.frozen y
              have HF := Lib.hid (gm_cell HSL.out hx hy hx8 hy8 hxy hbX hbY hv)
              clear hx hy hv hbX hbY bd1 bd2
              go_wp2
              go_region
              go_wp2
              go_region
              go_wp2
              go_roundw
              case rel => exact ⟨i + 1, by omega, by go_num, Lib.hid (((HW.out.set x _).set y _).congr HF.out).drew.drew, Lib.hid ((HOut.out.set (Nat.le_refl _) (Nat.lt_add_one _) _).set (Nat.le_refl _) (Nat.lt_add_one _) _).drew.drew⟩
              case measure => simp [intOf]; omega
            · obtain rfl : i = ln g := by omega
              have zi := HOut.out.size
              have hB2 := Out.below HB3.out HOut.out (by omega)
              have NX := Lib.hid (l21Next_any (some ⟨gn, 0, none⟩) (A g) n c2 (ln g) (C g) nw (X g) wr ((HQ3.out.out HOut.out (by omega)).ints HO2.out) ((HIg.out.below hB2).more hB2.size) hc2 n2 n8 hm0 (by omega))
              have HB2 := Lib.hid hB2
              clear hB2
              go_wp2_with fail
              refine NX.out.mono ?_
              rintro e w4 ⟨a4, c4, hc4, rfl, hr4, hb4⟩
              have z4 := hb4.size
              have HR4 := Lib.hid hr4
              have HB4 := Lib.hid hb4
              clear hr4 hb4
              go_wp2_with fail
              go_roundw
              case rel =>
                refine ⟨a4, c4, wr.heap.size, w4.heap.size, g + 1, rfl, hc4, by omega, by go_num, Lib.hid (by rw [okC, HOK.out, HKg.out]; rfl), Lib.hid ?_, Lib.hid ?_, ⟨HB2.out.size, Nat.le_refl _, .inr HW.out.lt⟩, Lib.hid (HB2.out.trans (HB4.out.mono HB2.out.size))⟩
                · rw [HS.out]; exact rowIs_below HW.out HB4.out HW.out.lt
                · rw [HS.out]; exact HR4.out
              case measure => simp [intOf]; omega
      · obtain rfl : g = N := by omega
        have HV := Lib.hid (chC_3 h60 HK.out HOK.out)
        have hN2 := (stC_ord (X := X) (ln := ln) HXL.out HK.out g).2
        have HN2 := Lib.hid hN2
        clear hN2
        go_wp2_with fail
        go_ret3
        exact ChsPost.yes rfl HV.out HN2.out (RowN.of_row HR.out (Nat.le_refl _) (Nat.lt_add_one _)) HQ.out ⟨by omega, by omega, HR.out.lt, by omega, by omega⟩ HB.out
end Go.Proofs.Ytocdiflkegbffaa
