/-
  allPlays of the program: the plays of a roll.
-/
import Derived.Test.YtjfmpnkbocilpaaHwD
namespace Go.Proofs.Ytjfmpnkbocilpaa
open Go.ChangeShapes Go.WideShapes Go.ChangeAt Go.RowKit
set_option linter.unusedVariables false

/-- a bound for what i orders may add -/
def bd (i : Nat) : Nat := if i = 0 then 0 else if i = 1 then 390625 else 781250
theorem bd_succ {i : Nat} (h : i < 2) : bd (i + 1) = bd i + 390625 := by
  obtain rfl | rfl : i = 0 ∨ i = 1 := by omega
  · rfl
  · rfl
theorem bd_le (i : Nat) : bd i ≤ 781250 := by unfold bd; split <;> (try split) <;> omega
set_option maxRecDepth 16000 in
set_option maxHeartbeats 6400000 in
theorem allPlays_any (P N : Nat) (c H s : Int) (a : Option Addr) (ca : Nat) (xs : List Int) (b : Option Addr) (cb : Nat) (ys : List Int) (A B : Int) (w : World) (h1 : Ints w w.heap.size .i64 a N xs) (h2 : Ints w w.heap.size .i64 b N ys) (hP0 : 1 ≤ P) (hP : P ≤ 24) (hN : N = P + 1) (hc : c ≤ 15) (hx : SV P c xs) (hy : SV P c ys) (hA1 : 1 ≤ A) (hA6 : A ≤ 6) (hB1 : 1 ≤ B) (hB6 : B ≤ 6) :
    Calls Try.prog 25 #[vrV P c H s, bdV a N ca b N cb, .agg #[.int .i64 A, .int .i64 B]] w fun e w' => ApPost P N H xs ys A B w e w' := by
  have hmm := @run_makeMap Try.prog
  have hb0 := (((Below.refl w.heap.size w).alloc (Nat.le_refl _) (.cells #[.int .i64 P, .int .i64 c, .int .i64 H, .int .i64 s] 30)).alloc (by simp) (.cells #[.slice a N ca, .slice b N cb] 32)).alloc (by simp; omega) (.cells #[.int .i64 A, .int .i64 B] 49)
  have v0' := ((vr4_new w (.int .i64 P) (.int .i64 c) (.int .i64 H) (.int .i64 s) 30).alloc (.cells #[.slice a N ca, .slice b N cb] 32)).alloc (.cells #[.int .i64 A, .int .i64 B] 49)
  have d0' := (pr_new (w.alloc (.cells #[.int .i64 P, .int .i64 c, .int .i64 H, .int .i64 s] 30)) (.slice a N ca) (.slice b N cb) 32).alloc (.cells #[.int .i64 A, .int .i64 B] 49)
  rw [World.size_alloc] at d0'
  obtain ⟨W0, hW0⟩ : ∃ W, ((w.alloc (.cells #[.int .i64 P, .int .i64 c, .int .i64 H, .int .i64 s] 30)).alloc (.cells #[.slice a N ca, .slice b N cb] 32)).alloc (.cells #[.int .i64 A, .int .i64 B] 49) = W := ⟨_, rfl⟩
  have zW : w.heap.size + 3 ≤ W0.heap.size := by rw [← hW0]; simp
  have rc := fun k => new_cell ((w.alloc (.cells #[.int .i64 P, .int .i64 c, .int .i64 H, .int .i64 s] 30)).alloc (.cells #[.slice a N ca, .slice b N cb] 32)) #[.int .i64 A, .int .i64 B] 49 k
  simp only [World.size_alloc] at rc
  rw [hW0] at hb0 v0' d0' rc
  have r0 := rc 0
  have r1 := rc 1
  clear rc
  have HW0 := Lib.hid hW0
  have HB0 := Lib.hid hb0
  have D0 := Lib.hid d0'
  have SQ := Lib.hid (sequences_any P N c H s a ca xs b cb ys A B W0 ((h1.below hb0).more hb0.size) ((h2.below hb0).more hb0.size) hP0 hP hN hc hx hy hA1 hA6 hB1 hB6)
  have ROK := Lib.hid (resF_ok (H := H) hP0 hP hx hy hA1 hB1)
  have RL := resF_len (P : Int) H xs ys A B
  have OL := ordF_len A B
  have AZ := Lib.hid (allF_zero (P := (P : Int)) (H := H) (own := xs) (oth := ys) (a := A) (b := B))
  have AE := Lib.hid (show allF P H xs ys A B = mrgF (mostF (resF P H xs ys A B)) (resF P H xs ys A B) from rfl)
  have I1 := Lib.hid (fun (W : World) (hb : Below w.heap.size w W) => (h1.below hb).more hb.size)
  have I2 := Lib.hid (fun (W : World) (hb : Below w.heap.size w W) => (h2.below hb).more hb.size)
  have XL := Lib.hid h1.len
  have YL := Lib.hid h2.len
  have HN := Lib.hid hN
  have hN1 : P < N := by omega
  have hN2 : N ≤ P + 1 := by omega
  obtain ⟨r, hr⟩ : ∃ r, resF P H xs ys A B = r := ⟨_, rfl⟩
  rw [hr] at ROK RL AZ AE
  have HR := Lib.hid hr
  obtain ⟨m, hm⟩ : ∃ m, r.length = m := ⟨_, rfl⟩
  have HM := Lib.hid hm
  have m1 : 0 < m := by omega
  have m2 : m ≤ 2 := by omega
  have SQ2 := Lib.hid (show Calls Try.prog 43 #[vrV P c H s, bdV a N ca b N cb, .agg #[.int .i64 A, .int .i64 B]] W0 fun e w' => AlPost N r W0 e w' from by have e := SQ.out; rw [hr] at e; exact e)
  have GOAL := Lib.hid (fun (e : Ending) (w' : World) (v : Value) (he : e = .returned (.tuple #[v, .bool (fitsF r)])) (hp : fitsF r = true → PlsO w' w.heap.size N v (mrgF (mostF r) r)) (hb : Below w.heap.size w w') => show ApPost P N H xs ys A B w e w' from by
    unfold ApPost
    rw [hr, AE.out]
    exact ⟨v, he, hp, hb⟩)
  clear hr hm OL RL h1 h2 hx hy hN hb0 v0' hW0 SQ
  obtain ⟨d0, d1⟩ := pr_cells d0'
  have vc := vr4_cells (show W0.rowIs w.heap.size 30 4 (vr4 (.int .i64 P) (.int .i64 c) (.int .i64 H) (.int .i64 s)) from by rw [← HW0.out]; exact ((vr4_new w (.int .i64 P) (.int .i64 c) (.int .i64 H) (.int .i64 s) 30).alloc _).alloc _)
  obtain ⟨v0, v1, v2, v3⟩ := vc
  clear d0'
  go_enter Try.func25, Try.ntmps25
  go_wp2_with fail
  rw [HW0.out]
  go_wp2_with fail
  refine SQ2.out.mono ?_
  rintro e w1 ⟨av, rfl, har, hb1⟩
  have z1 := hb1.size
  have D1 := Lib.hid (rowIs_below D0.out hb1 D0.out.lt)
  have B1 := Lib.hid (HB0.out.trans (hb1.mono HB0.out.size))
  have A1 := Lib.hid har
  clear hb1 r0 r1 v0 v1 v2 v3 d0 d1
  obtain ⟨ft, hft⟩ : ∃ ft, fitsF r = ft := ⟨_, rfl⟩
  rw [hft] at GOAL ⊢
  clear hft
  cases ft
  · go_wp2_with fail
    go_ret2
    exact GOAL.out _ _ (.slice none 0 0) rfl (fun h => by cases h) B1.out
  · have US := Lib.hid (used_any N w1.heap.size av r w1 har (by have := HM.out; omega) (fun x hx => (ROK.out x hx).cnt))
    have MG := Lib.hid (fun k (hk : k < r.length) => mostF_ge (rs_mem (r := r) hk))
    obtain ⟨n, hn⟩ : ∃ n, mostF r = n := ⟨_, rfl⟩
    rw [hn] at US AZ AE GOAL MG
    clear har hn
    obtain ⟨d0, d1⟩ := pr_cells D1.out
    go_wp2_with fail
    refine US.out.mono ?_
    rintro e w1' ⟨rfl, rfl⟩
    by_cases hn0 : n = 0
    · have HE := Lib.hid (show mrgF n r = sq0 xs ys from AE.out.symm.trans (AZ.out hn0))
      have hq : ((n : Int) == 0) = true := by rw [hn0]; rfl
      have CL := Lib.hid (cloneBoard_any a N ca xs b N cb ys w1 (I1.out _ B1.out) (I2.out _ B1.out) (by omega) (by omega) (by omega) (by omega))
      clear hn0
      go_wp2_with fail
      refine CL.out.mono ?_
      rintro e w3 ⟨gA, cA, gB, cB, rfl, hbd, hb3⟩
      have la := rown_lt hbd.a (by omega)
      have lb := rown_lt hbd.b (by omega)
      have B3 := B1.out.trans (hb3.mono B1.out.size)
      have PO := Lib.hid (PlsO.one (base := w.heap.size) (sa := none) (sc := 0) (cA := cA) (cB := cB) hbd XL.out YL.out la lb B3.size)
      have B4 := Lib.hid (B3.alloc B3.size (.cells #[.slice none 0 0, .slice (some ⟨gA, 0, none⟩) N cA, .slice (some ⟨gB, 0, none⟩) N cB] 70))
      clear hbd hb3 B3
      go_wp2_with fail
      go_ret2
      exact GOAL.out _ _ (.slice (some ⟨w3.heap.size, 0, none⟩) 1 1) rfl (fun _ => by rw [HE.out]; exact PO.out) B4.out
    · have hq : ((n : Int) == 0) = false := by rw [beq_eq_false_iff_ne]; omega
      have hq2 : ¬ (n : Int) = 0 := by omega
      obtain ⟨gV, cV, hv, hgV, hgVz, hce⟩ := A1.out
      rw [HM.out] at hv hce
      subst hv
      have CE := Lib.hid hce
      have M0 := Lib.hid (Ms.made w1)
      have BM := Lib.hid ((Below.refl w1.heap.size w1).alloc (Nat.le_refl _) (.map #[] 0))
      have zz : w.heap.size ≤ w1.heap.size := B1.out.size
      clear hce d0 d1
      go_wp2_with fail
      go_loopw [12, 38] (fun pv ix wr => ∃ (i : Nat) (v : Value) (M : Nat) (f : ByteArray → Bool), v = pv ∧ i ≤ m ∧ ix = .int .i64 i ∧ Hid (PlsO wr (w1.heap.size + 1) N v ((r.take i).foldl (mgR n) [])) ∧ Hid (Ms wr w1.heap.size M f) ∧ Hid (KmOk P c f ((r.take i).foldl (mgR n) [])) ∧ M ≤ bd i ∧ ((r.take i).foldl (mgR n) []).length ≤ bd i ∧ Hid (n = 1 → (r.take i).foldl (mgR n) [] = []) ∧ Hid (Below w1.heap.size w1 wr) ∧ w1.heap.size + 1 ≤ wr.heap.size) (fun _ ix _ => m - (intOf ix).toNat)
      case atStart => exact ⟨0, _, 0, _, rfl, Nat.zero_le _, rfl, Lib.hid (PlsO.nil _ _ _), M0, Lib.hid (KmOk.nil P c), Nat.zero_le _, Nat.zero_le _, Lib.hid (fun _ => rfl), BM, by simp⟩
      case round =>
        obtain ⟨i, v, M, f, rfl, hi, rfl, HO, HMp, HK, hM, hGL, HN1, HB, hz⟩ := hrel
        by_cases hlt : i < m
        · have hbs := bd_succ (i := i) (by omega)
          have hbl := bd_le i
          obtain ⟨u, c0', hs⟩ := CE.out i hlt
          have c0 := (HB.out.cell (p := ⟨gV, i, none⟩) hgV).trans c0'
          obtain ⟨gR, cR, lA, lc, hu, hgR, hgRz, cell, hPL⟩ := hs.at
          subst hu
          have hil : i < r.length := by have := HM.out; omega
          have HT := Lib.hid (mrg_take (n := n) hil)
          have hmg := MG.out i hil
          have XOK := Lib.hid (ROK.out _ (rs_mem hil))
          obtain ⟨x, hx⟩ : ∃ x, r.getD i rs0 = x := ⟨_, rfl⟩
          rw [hx] at HT hmg XOK cell hPL c0
          obtain ⟨GI, hGI⟩ : ∃ GI, (r.take i).foldl (mgR n) [] = GI := ⟨_, rfl⟩
          rw [hGI] at HO HK hGL HN1 HT
          obtain ⟨xL, xK, xF⟩ := x
          simp only at hmg cell hPL c0
          obtain ⟨nR, hnR⟩ : ∃ nR, xK + 1 = nR := ⟨_, rfl⟩
          rw [hnR] at c0
          have nR1 : nR = xK + 1 := hnR.symm
          have nR2 : xK < nR := by omega
          have nR3 : nR ≤ xK + 1 := by omega
          clear hs hx hGI hil c0' hnR nR1
          by_cases hKn : xK = n
          · have HS := Lib.hid (HT.out.trans (mgR_take (x := (xL, xK, xF)) hKn HN1.out))
            have hle : decide ((nR : Int) ≤ (n : Int)) = false := decide_eq_false (by omega)
            have hle2 : ¬ (nR : Int) ≤ (n : Int) := by omega
            have nn : (n : Int) < (nR : Int) := by omega
            subst hKn
            have cr := (HB.out.cell (p := ⟨gR, xK, none⟩) hgRz).trans cell
            obtain ⟨nL, hnL⟩ : ∃ nL, xL.length = nL := ⟨_, rfl⟩
            rw [hnL] at cr hPL
            have HNL := Lib.hid hnL
            have nLb : nL ≤ 390625 := by rw [← hnL]; exact XOK.out.len
            have PL := Lib.hid hPL
            have LEN := Lib.hid (fun j => mgF_len GI (xL.take j))
            have HSV := Lib.hid (fun j (hj : j < nL) => XOK.out.sv _ (getD_memP (l := xL) (k := j) (by rw [hnL]; exact hj)))
            have HMT := Lib.hid (fun j (hj : j < nL) => mgF_take (l := xL) (out := GI) (k := j) (by rw [hnL]; exact hj))
            have HTL := Lib.hid (fun j => show (xL.take j).length ≤ j by rw [List.length_take]; exact Nat.min_le_left _ _)
            have HO2 := Lib.hid (show PlsO wr (w1.heap.size + 1) N v (mgF GI (xL.take 0)) from HO.out)
            have HK2 := Lib.hid (show KmOk P c f (mgF GI (xL.take 0)) from HK.out)
            clear hnL hPL cell HT HO HK
            obtain ⟨wo, hwo⟩ : ∃ wo, wo = wr := ⟨_, rfl⟩
            subst hwo
            go_wp2_with fail
            go_loopw [12, 51] (fun pv ix wr => ∃ (j : Nat) (v : Value) (M : Nat) (f : ByteArray → Bool), v = pv ∧ j ≤ nL ∧ ix = .int .i64 j ∧ Hid (PlsO wr (w1.heap.size + 1) N v (mgF GI (xL.take j))) ∧ Hid (Ms wr w1.heap.size M f) ∧ Hid (KmOk P c f (mgF GI (xL.take j))) ∧ M ≤ bd i + j ∧ Hid (Below w1.heap.size w1 wr) ∧ w1.heap.size + 1 ≤ wr.heap.size) (fun _ ix _ => nL - (intOf ix).toNat)
            case atStart => exact ⟨0, v, M, f, rfl, Nat.zero_le _, rfl, HO2, HMp, HK2, by omega, HB, hz⟩
            case round =>
              obtain ⟨j, v', M', f', rfl, hj, rfl, HOj, HMj, HKj, hMj, HBj, hzj⟩ := hrel
              by_cases hlt2 : j < nL
              · obtain ⟨gL, px, hlA, hgL, hgLz, p0', p1', p2', hpx⟩ := PL.out.at hlt2
                have p0 := (HBj.out.cell (p := ⟨gL, j * 3, none⟩) hgL).trans p0'
                have p1 := (HBj.out.cell (p := ⟨gL, j * 3 + 1, none⟩) hgL).trans p1'
                have p2 := (HBj.out.cell (p := ⟨gL, j * 3 + 2, none⟩) hgL).trans p2'
                subst hlA
                obtain ⟨sv1, sv2, _⟩ := HSV.out j hlt2
                have MT := Lib.hid (HMT.out j hlt2)
                have LB : (mgF GI (xL.take j)).length ≤ bd i + j := by have := LEN.out j; have := HTL.out j; omega
                obtain ⟨p, hp⟩ : ∃ p, xL.getD j pl0 = p := ⟨_, rfl⟩
                rw [hp] at MT sv1 sv2 hpx
                obtain ⟨GJ, hGJ⟩ : ∃ GJ, mgF GI (xL.take j) = GJ := ⟨_, rfl⟩
                rw [hGJ] at HOj HKj LB MT
                have HKJ := Lib.hid HKj.out
                have KY := Lib.hid (HKj.out _ _ sv1 sv2)
                have KA := Lib.hid (HKj.out.add hc (p := p) sv1 sv2)
                have HYES := Lib.hid (fun h => MT.out.trans (mgS_yes (out := GJ) (p := p) h))
                have HNO := Lib.hid (fun h => MT.out.trans (mgS_no (out := GJ) (p := p) h))
                obtain ⟨ks, hks⟩ : ∃ ks, kyS p.own p.oth = ks := ⟨_, rfl⟩
                have ksz : ks.size ≤ maxLen := by rw [← hks, kyS_size, hpx.ol, hpx.tl]; unfold maxLen; omega
                rw [hks] at KY KA
                have PW := Lib.hid (fun (W : World) (hb : Below w1.heap.size w1 W) => (hpx.bel hb (Nat.le_refl _)).more hb.size)
                have BK := Lib.hid (fun (W : World) (hb : Below w1.heap.size w1 W) => show Calls Try.prog 46 #[bdV px.oa N px.oc px.ta N px.tc] W fun e w' => e = .returned (.string ks) ∧ Below W.heap.size W w' from by
                  rw [← hks]
                  exact boardKey_any px.oa N px.oc p.own px.ta N px.tc p.oth w1.heap.size W (hpx.own.below hb) (hpx.oth.below hb) hb.size (by omega) (by omega) (by omega) (by omega) (sv_bd sv1 hc hpx.ol) (sv_bd sv2 hc hpx.tl))
                obtain ⟨sa, sn, sc, oa, oc, ta, tc⟩ := px
                simp only at p0 p1 p2 BK
                have ba := HBj.out.alloc (by omega) (.cells #[.slice sa sn sc, .slice oa N oc, .slice ta N tc] 70)
                have BK1 := Lib.hid (BK.out _ ba)
                have Q1 := Lib.hid (th3_new wr (.slice sa sn sc) (.slice oa N oc) (.slice ta N tc) 70)
                have O1 := Lib.hid (HOj.out.alloc (.cells #[.slice sa sn sc, .slice oa N oc, .slice ta N tc] 70))
                have M1 := Lib.hid (HMj.out.alloc (.cells #[.slice sa sn sc, .slice oa N oc, .slice ta N tc] 70))
                have B1j := Lib.hid ba
                clear ba BK MT sv1 sv2 hks hp hGJ hpx p0' p1' p2' HOj HMj HKj HBj
                obtain ⟨q0, q1, q2⟩ := th3_cells Q1.out
                go_wp2_with fail
                refine BK1.out.mono ?_
                rintro e w5 ⟨rfl, hb5⟩
                have z5 := hb5.size
                simp only [World.size_alloc] at z5
                have Q5 := Lib.hid (rowIs_below Q1.out hb5 Q1.out.lt)
                have O5 := Lib.hid (O1.out.below hb5)
                have M5 := Lib.hid (M1.out.below hb5)
                have B5 := Lib.hid (B1j.out.trans (hb5.mono (by simp; omega)))
                have hget := M5.out.get ksz
                clear q0 q1 q2 Q1 O1 M1 B1j hb5 BK1
                cases hf : f' ks
                · obtain ⟨w6, hput, m6, hg6⟩ := M5.out.put ksz (by unfold maxLen; omega)
                  have z6 := hg6.size
                  have NS := M5.out.nosi
                  have Q6 := Lib.hid (row_by Q5.out hg6 (by simp; omega))
                  have O6 := Lib.hid (O5.out.grown hg6 (fun b e => by injection e with e; omega) NS)
                  have M6 := Lib.hid m6
                  have B6 := Lib.hid (grown_below' B5.out hg6 (fun b e => by injection e with e; omega) (by omega))
                  rw [hf] at hget KY
                  have HE := Lib.hid (HNO.out KY.out.symm)
                  clear hf KY HYES HNO Q5 O5 M5 B5 NS m6 hg6
                  have PC : (w6.alloc (.cells #[.slice sa sn sc, .slice oa N oc, .slice ta N tc] 70)).heap.size = w6.heap.size + 1 := by simp
                  have B7 := Lib.hid (B6.out.alloc (by omega) (.cells #[.slice sa sn sc, .slice oa N oc, .slice ta N tc] 70))
                  have PV := Lib.hid (PW.out _ B7.out)
                  have O7 := Lib.hid (O6.out.alloc (.cells #[.slice sa sn sc, .slice oa N oc, .slice ta N tc] 70))
                  have M7 := Lib.hid (M6.out.alloc (.cells #[.slice sa sn sc, .slice oa N oc, .slice ta N tc] 70))
                  obtain ⟨e0, e1, e2⟩ := th3_cells (th3_new w6 (.slice sa sn sc) (.slice oa N oc) (.slice ta N tc) 70)
                  have E0 := Lib.hid e0
                  have E1 := Lib.hid e1
                  have E2 := Lib.hid e2
                  have OI := Lib.hid O7.out.in
                  clear e0 e1 e2 PC O6 M6 B6
                  obtain ⟨q0, q1, q2⟩ := th3_cells Q6.out
                  go_wp2_with (first | (at_builtin; refine app_pl_at rfl (.tmp 64) (.tmp 66) rfl rfl O7.out w6.heap.size rfl ⟨sa, sn, sc, oa, oc, ta, tc⟩ p PV.out E0.out E1.out E2.out (by omega) (by simp; omega) ?_; intro gX capX wX hoX hgX hlX))
                  have zX := hgX.size
                  simp only [World.size_alloc] at zX
                  have OX : ∀ b, v'.ownBlock = some b → w1.heap.size + 1 ≤ b := fun b e => (OI.out b e).1
                  go_roundw
                  case rel => exact ⟨j + 1, _, M' + 1, _, rfl, by omega, by go_num, Lib.hid (by rw [HE.out]; exact hoX), Lib.hid (M7.out.grown hgX (fun e => by have := OX _ e; omega)), Lib.hid (by rw [HE.out]; exact KA.out), by omega, Lib.hid (grown_below' B7.out hgX (fun b e => by have := OX b e; omega) (by simp; omega)), by omega⟩
                  case measure => (simp [intOf]; try omega)
                · rw [hf] at hget KY
                  have HE := Lib.hid (HYES.out KY.out.symm)
                  have HK5 := Lib.hid (show KmOk P c f' GJ from fun xs ys h1 h2 => HKJ.out xs ys h1 h2)
                  clear hf KY HYES HNO KA
                  go_wp2_with fail
                  go_roundw
                  case rel => exact ⟨j + 1, v', M', f', rfl, by omega, by go_num, Lib.hid (by rw [HE.out]; exact O5.out), M5, Lib.hid (by rw [HE.out]; exact HK5.out), by omega, B5, by omega⟩
                  case measure => (simp [intOf]; try omega)
              · obtain rfl : j = nL := by omega
                have HJ := Lib.hid (show mgF GI (xL.take j) = (r.take (i + 1)).foldl (mgR xK) [] by
                  rw [List.take_of_length_le (by have := HNL.out; omega), HS.out])
                have LJ : (mgF GI (xL.take j)).length ≤ bd i + j := by have := LEN.out j; have := HTL.out j; omega
                have NE := Lib.hid (show mgF GI (xL.take j) ≠ [] by
                  rw [List.take_of_length_le (by have := HNL.out; omega)]
                  exact mgF_some XOK.out.ne)
                by_cases h1 : xK = 1
                · have hq1 : ((xK : Int) == 1) = true := by rw [h1]; rfl
                  have HF := Lib.hid (mrg_break h1 HJ.out.symm NE.out)
                  have BF := Lib.hid (B1.out.trans (HBj.out.mono zz))
                  clear h1
                  go_wp2_with fail
                  go_ret2
                  exact GOAL.out _ _ v' rfl (fun _ => by rw [HF.out]; exact HOj.out.lower (by omega)) BF.out
                · have hq1 : ((xK : Int) == 1) = false := by rw [beq_eq_false_iff_ne]; omega
                  have hq3 : ¬ (xK : Int) = 1 := by omega
                  have H1 := Lib.hid h1
                  clear h1
                  go_wp2_with fail
                  go_roundw
                  case rel => exact ⟨i + 1, v', M', f', rfl, by omega, by go_num, Lib.hid (by rw [← HJ.out]; exact HOj.out), HMj, Lib.hid (by rw [← HJ.out]; exact HKj.out), by omega, by rw [← HJ.out]; omega, Lib.hid (fun h => absurd h H1.out), HBj, hzj⟩
                  case measure => (simp [intOf]; try omega)
          · have HS := Lib.hid (HT.out.trans (mgR_skip (x := (xL, xK, xF)) hKn))
            have hle : decide ((nR : Int) ≤ (n : Int)) = true := decide_eq_true (by omega)
            have hle2 : (nR : Int) ≤ (n : Int) := by omega
            clear hKn
            go_wp2_with fail
            go_roundw
            case rel => exact ⟨i + 1, v, M, f, rfl, by omega, by go_num, Lib.hid (by rw [HS.out]; exact HO.out), HMp, Lib.hid (by rw [HS.out]; exact HK.out), by omega, by rw [HS.out]; omega, Lib.hid (fun h => by rw [HS.out]; exact HN1.out h), HB, hz⟩
            case measure => (simp [intOf]; try omega)
        · obtain rfl : i = m := by omega
          have HF := Lib.hid (show mrgF n r = (r.take i).foldl (mgR n) [] by unfold mrgF; rw [List.take_of_length_le (by have := HM.out; omega)])
          have BF := Lib.hid (B1.out.trans (HB.out.mono zz))
          go_wp2_with fail
          go_ret2
          exact GOAL.out _ _ v rfl (fun _ => by rw [HF.out]; exact HO.out.lower (by omega)) BF.out
end Go.Proofs.Ytjfmpnkbocilpaa
