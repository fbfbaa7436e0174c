/-
  The walk of the sum of a game of the program, and with it all chances.
-/
import Derived.Test.YtkioliioakmepaaMchL
namespace Go.Proofs.Ytkioliioakmepaa
open Go.ChangeShapes Go.WideShapes Go.ChangeAt Go.RowKit
set_option linter.unusedVariables false

theorem bnd_next {N k G : Nat} (hk : k + 1 ≤ 8) (h : N + 8 * G < 1000000000000000000) : N + k * G + G < 1000000000000000000 := by
  have := Nat.mul_le_mul_right G hk
  rw [Nat.succ_mul] at this
  omega
theorem bnd_next2 {N k G : Nat} (hk : k + 1 ≤ 8) : N + k * G + G ≤ N + 8 * G := by
  have := Nat.mul_le_mul_right G hk
  rw [Nat.succ_mul] at this
  omega
set_option maxRecDepth 16000 in
set_option maxHeartbeats 6400000 in
theorem mix_any (M : Mm) (hM : M.ok) (lo hi g t f n : Nat) (hL : Lie lo hi g t f) (hlo : lo ≤ hi) (hI : ImC M lo hi g t f n) : ImX M lo hi g t f n := by
  intro a b ph q N w hn ha hb ha9 hb9 q0 q2 hq hMw hT hz hN
  have hLc := hL
  obtain ⟨L1, L2, L3, L4, L5, L6, L7, L8, L9⟩ := hL
  have hqq : gp a b q = q := by rw [← hq]; exact gp_gp a b ph
  obtain ⟨r, hr⟩ : ∃ r, nx q = r := ⟨_, rfl⟩
  have AP := Lib.hid (fun (j : Nat) (hj : j < 4) (N' : Nat) (W : World) => after_pos M lo hi g t f n hLc hI a b q q r ((j : Int) + 1) N' W ha9 hb9 hqq hr (by omega) (by omega) (by omega))
  have AN := Lib.hid (fun (j : Nat) (hj : j < 4) (N' : Nat) (W : World) => after_neg M lo hi g t f n hLc hI a b q q r (-(j : Int) - 1) N' W ha9 hb9 hqq hr (by omega) (by omega) (by omega))
  obtain ⟨A, C, hsl, hsi⟩ := Mm.sl_ints hM hMw q
  have wok := Mm.wt_ok hM q
  obtain ⟨L, hLL⟩ : ∃ L, M.wt q = L := ⟨_, rfl⟩
  rw [hLL] at hsi wok
  obtain ⟨bb, off, hA, hbb, _⟩ := hsi.2 (by omega)
  subst hA
  obtain ⟨S, hS⟩ : ∃ S, psum L 4 = S := ⟨_, rfl⟩
  have HS := Lib.hid (show sum4 (M.wt q) = S by rw [hLL, ← hS, psum4])
  have HTOT := Lib.hid (fun (W : World) (h : Ints W lo .i64 (some ⟨bb, off, none⟩) 4 L) => hS ▸ total_any (some ⟨bb, off, none⟩) 4 C lo L W 16 h (fun i hi => by
    obtain ⟨_, y0, y1, y2, y3, _⟩ := wok
    match i, hi with
    | 0, _ => omega
    | 1, _ => omega
    | 2, _ => omega
    | 3, _ => omega) (by omega) (by omega) (by omega))
  have HSL := Lib.hid hsl
  have HLQ := Lib.hid hLL
  have HRQ := Lib.hid hr
  have HQ := Lib.hid hq
  have WOK := Lib.hid wok
  have HT := Lib.hid (hT.alloc (.cells #[.int .i64 0, .int .i64 0] 30))
  have HO := Lib.hid ((Out.refl lo hi w).alloc (.cells #[.int .i64 0, .int .i64 0] 30))
  have HM := Lib.hid hMw
  have R8 := Lib.hid (two_new w 0 0 30)
  have HSI := Lib.hid (hsi.out HO.out (Nat.le_refl _) (by omega))
  obtain ⟨T0, F0, g0, _, _, _⟩ := HT.out
  have G0 := Lib.hid g0
  clear hsl hsi hLL hr hq hqq wok hMw hT hI hS g0
  go_enter Try.func97, Try.ntmps97
  go_wp2_with fail
  refine (weights_any M g t f q _ G0.out).mono ?_
  rintro e w1 ⟨rfl, rfl⟩
  rw [HSL.out]
  go_wp2_with fail
  go_loopw [10, 11, 22] (fun s d i wr => ∃ (j : Nat) (num den T : Int), j ≤ 4 ∧ s = .int .i64 num ∧ d = .int .i64 den ∧ i = .int .i64 j ∧ 0 ≤ num ∧ num ≤ 144115188075855872 ∧ 1 ≤ den ∧ den ≤ 562949953421312 ∧ 0 ≤ T ∧ T ≤ 72057594037927936 ∧ Hid (D2 den) ∧ Hid (num * (SC / den) = T) ∧ Hid (M.acc a b q j = some T) ∧
    Hid (Tm M g t f (N + (2 * j) * gB n) wr) ∧ Hid (Out lo hi w wr) ∧ Hid (wr.rowIs w.heap.size 30 2 (two 0 0)) ∧ Hid (Ints wr lo .i64 (some ⟨bb, off, none⟩) 4 L)) (fun _ _ i _ => 4 - (intOf i).toNat)
  case atStart => exact ⟨0, 0, 1, 0, by omega, rfl, rfl, rfl, by omega, by omega, by omega, by omega, by omega, by omega, D2.one, Int.zero_mul _, rfl, Lib.hid (HT.out.mono (by omega)), HO, R8, HSI⟩
  case round =>
    obtain ⟨j, num, den, T, hj, rfl, rfl, rfl, n0, n1, d0, d1, t0, t1, hd2, hnd, hacc, htm, ho, rz, hsi⟩ := hrel
    by_cases hj4 : j < 4
    · have hcx := Ints.hid hsi.out j (by omega)
      obtain ⟨x, hx⟩ : ∃ x, L.getD j 0 = x := ⟨_, rfl⟩
      rw [hx] at hcx
      have x01 : 0 ≤ x ∧ x ≤ 16 := by
        rw [← hx]
        obtain ⟨_, y0, y1, y2, y3, _⟩ := WOK.out
        match j, hj4 with
        | 0, _ => exact y0
        | 1, _ => exact y1
        | 2, _ => exact y2
        | 3, _ => exact y3
      obtain ⟨x0, x1⟩ := x01
      have HX := Lib.hid (show (M.wt q).getD j 0 = x by rw [HLQ.out]; exact hx)
      have dj : decide ((j : Int) < 4) = true := decide_eq_true (by omega)
      clear hx
      by_cases hx0 : x = 0
      · have HN := Lib.hid (show M.acc a b q (j + 1) = some T by
          show stp ((M.wt q).getD j 0) _ _ _ = _
          rw [HX.out, hx0, stp_zero]; exact hacc.out)
        subst hx0
        go_wp2_with fail
        go_roundw
        case rel => exact ⟨j + 1, num, den, T, by omega, rfl, rfl, by go_num, n0, n1, d0, d1, t0, t1, hd2, hnd, HN, Lib.hid (htm.out.mono (by have := Nat.mul_le_mul_right (gB n) (show 2 * j ≤ 2 * (j + 1) by omega); omega)), ho, rz, hsi⟩
        case measure => simp [intOf]; omega
      · have ex : (x == 0) = false := by simpa using hx0
        obtain ⟨wo, hwo⟩ : ∃ wo, wo = wr := ⟨_, rfl⟩
        subst hwo
        have zr := ho.out.size
        have TP := Lib.hid (htm.out.alloc (.cells #[.int .i64 ((j : Int) + 1), .int .i64 (-(j : Int) - 1)] 2))
        have OP := Lib.hid (ho.out.alloc (.cells #[.int .i64 ((j : Int) + 1), .int .i64 (-(j : Int) - 1)] 2))
        have RP := Lib.hid (rz.out.alloc (.cells #[.int .i64 ((j : Int) + 1), .int .i64 (-(j : Int) - 1)] 2))
        have IP := Lib.hid (hsi.out.below ((Below.refl lo wo).alloc (by omega) (.cells #[.int .i64 ((j : Int) + 1), .int .i64 (-(j : Int) - 1)] 2)))
        have PP := Lib.hid (two_new wo ((j : Int) + 1) (-(j : Int) - 1) 2)
        have hwz : w.heap.size < wo.heap.size := rz.out.lt
        go_wp2_with fail
        clear hcx
        go_loopw [10, 11, 36] (fun s d i wx => ∃ (k : Nat) (num den U : Int), k ≤ 2 ∧ s = .int .i64 num ∧ d = .int .i64 den ∧ i = .int .i64 k ∧ 0 ≤ num ∧ num ≤ 144115188075855872 ∧ 1 ≤ den ∧ den ≤ 562949953421312 ∧ 0 ≤ U ∧ U ≤ 72057594037927936 + 9007199254740992 * k ∧ Hid (D2 den) ∧ Hid (num * (SC / den) = U) ∧ Hid (inS M a b q r x T j k U) ∧
          Hid (Tm M g t f (N + (2 * j + k) * gB n) wx) ∧ Hid (Out lo hi w wx) ∧ Hid (wx.rowIs w.heap.size 30 2 (two 0 0)) ∧ Hid (Ints wx lo .i64 (some ⟨bb, off, none⟩) 4 L) ∧ Hid (wx.rowIs wo.heap.size 2 2 (two ((j : Int) + 1) (-(j : Int) - 1)))) (fun _ _ i _ => 2 - (intOf i).toNat)
        case atStart => exact ⟨0, num, den, T, by omega, rfl, rfl, rfl, n0, n1, d0, d1, t0, by omega, hd2, hnd, rfl, TP, OP, RP, IP, PP⟩
        case round =>
          clear n0 n1 d0 d1 hd2 hnd htm ho rz hsi TP OP RP IP PP
          obtain ⟨k, num, den, U, hk, rfl, rfl, rfl, n0, n1, d0, d1, u0, u1, hd2, hnd, hin, htm, ho, rz, hsi, pp⟩ := hrel
          by_cases hk2 : k < 2
          · obtain ⟨pt, a', b', hpt, hcall, hnext, hnone, hb9', ha9'⟩ : ∃ (pt : Int) (a' b' : Nat), Hid (wr.cell? ⟨wo.heap.size, k, none⟩ = some (.int .i64 pt)) ∧
                Hid (Calls Try.prog 77 #[.pointer (some ⟨g, 0, none⟩), .int .i64 a, .int .i64 b, .int .i64 q, .int .i64 pt] wr fun e w' => TmPost M lo hi g t f (N + (2 * j + k) * gB n + gB n) a' b' r wr e w') ∧
                Hid (∀ c, M.ch a' b' r = some c → inS M a b q r x T j (k + 1) (U + x * c)) ∧ Hid (M.ch a' b' r = none → M.ch a b ph = none) ∧ a' ≤ 9 ∧ b' ≤ 9 := by
              have hMI := HM.out.out ho.out (by omega)
              have hsz := ho.out.size
              have hNN := bnd_next (N := N) (k := 2 * j + k) (G := gB n) (by omega) hN
              have eP : ((j : Int) + 1).toNat = j + 1 := by omega
              have eN : (-(-(j : Int) - 1)).toNat = j + 1 := by omega
              match k, hk2, hin, htm, hNN with
              | 0, _, hin, htm, hNN =>
                exact ⟨_, _, _, (two_cells pp.out).1, AP.out j hj4 _ wr hMI htm.out (by omega) hNN, (fun c hc => by rw [eP] at hc; exact hin.out.next1 hc), (fun hc => by rw [eP] at hc; exact Mm.ch_none ha hb HQ.out HRQ.out hj4 HX.out hx0 (.inl hc)), by omega, by omega⟩
              | 1, _, hin, htm, hNN =>
                exact ⟨_, _, _, (two_cells pp.out).2.1, AN.out j hj4 _ wr hMI htm.out (by omega) hNN, (fun c hc => by rw [eN] at hc; exact hin.out.next2 HRQ.out HX.out hacc.out hc), (fun hc => by rw [eN] at hc; exact Mm.ch_none ha hb HQ.out HRQ.out hj4 HX.out hx0 (.inr hc)), by omega, by omega⟩
            have hptc := hpt.out
            go_wp2_with fail
            refine hcall.out.mono ?_
            rintro e w4 ⟨p, d, ok, rfl, t4, o4, s4, n4⟩
            have oz := ho.out.size
            have z4 := o4.size
            have NB := Lib.hid (show N + (2 * j + k) * gB n + gB n ≤ N + 8 * gB n by have := bnd_next2 (k := 2 * j + k) (G := gB n) (N := N) (by omega); omega)
            have T4 := Lib.hid (t4.alloc (.cells #[.int .i64 p, .int .i64 d] 30))
            have O4 := Lib.hid ((ho.out.trans o4).alloc (.cells #[.int .i64 p, .int .i64 d] 30))
            have R4 := Lib.hid ((row_out rz.out o4 (by omega)).alloc (.cells #[.int .i64 p, .int .i64 d] 30))
            have P4 := Lib.hid ((row_out pp.out o4 (by omega)).alloc (.cells #[.int .i64 p, .int .i64 d] 30))
            have I4 := Lib.hid ((hsi.out.out o4 (Nat.le_refl _) (by omega)).below ((Below.refl lo w4).alloc (by omega) (.cells #[.int .i64 p, .int .i64 d] 30)))
            have B4 := Lib.hid (two_new w4 p d 30)
            have S4 := Lib.hid s4
            have N4 := Lib.hid n4
            obtain ⟨h0, h1, h2, h3⟩ := two_cells R4.out
            obtain ⟨b0, b1, _, _⟩ := two_cells B4.out
            clear t4 o4 s4 n4 hptc hpt hcall htm ho rz hsi pp
            cases ok
            · have NONE := Lib.hid (hnone.out (N4.out rfl))
              obtain ⟨e0, e1, _, _⟩ := two_cells (two_set R4.out 0 0)
              go_wp2_with fail
              refine bodyPost_ret (v := .tuple #[shV 0 0, .bool false]) (by simp [results, Try.results97, go_sem, e0, e1]) rfl ⟨0, 0, false, rfl, ?_, ?_, (fun h => by cases h), fun _ => NONE.out⟩
              · exact ((T4.out.mono NB.out).set (b := w.heap.size) (by omega) (by omega) (by omega) 0 (.int .i64 0)).set (b := w.heap.size) (by omega) (by omega) (by omega) 1 (.int .i64 0)
              · exact (O4.out.setNew (p := ⟨w.heap.size, 0, none⟩) (Nat.le_refl _) (.int .i64 0)).setNew (p := ⟨w.heap.size, 1, none⟩) (Nat.le_refl _) (.int .i64 0)
            · obtain ⟨c, hc, hp, hd⟩ := S4.out rfl
              obtain ⟨c0, c1⟩ := Mm.ch_bd hM hc
              obtain ⟨_, p0, pd, d0', d1', _, pdc⟩ := s_facts c0 c1
              have hD := D2.share c0 c1
              rw [← hp] at p0 pd pdc
              rw [← hd] at pd d0' d1' pdc hD
              have NX := Lib.hid (hnext.out c hc)
              have SC1 : SC = 562949953421312 := rfl
              have HDD := Lib.hid hD
              have dl := hD.le
              obtain ⟨m0, m1⟩ := mmul_bd x0 x1 (c := c) c0 (by omega)
              have xc : x * c ≤ 9007199254740992 := by have := Int.mul_le_mul x1 c1 c0 (by omega); omega
              have NNN := Lib.hid (show N + (2 * j + k) * gB n + gB n ≤ N + (2 * j + (k + 1)) * gB n from Nat.le_of_eq (by rw [← Nat.add_assoc (2 * j) k 1, Nat.add_mul (2 * j + k) 1 (gB n), Nat.one_mul, Nat.add_assoc]))
              have hU' : 0 ≤ U + x * c := by omega
              have hU2 : U + x * c ≤ 72057594037927936 + 9007199254740992 * (k + 1 : Nat) := by omega
              by_cases hle : d ≤ den
              · obtain ⟨e1, e2, e3, e4⟩ := same_den (x := x) hD hd2.out hle hnd.out pdc p0 x0
                obtain ⟨z, hz'⟩ : ∃ z, den / d = z := ⟨_, rfl⟩
                rw [hz'] at e1 e2 e3 e4
                have gq := hd2.out.qpos D2.sc hd2.out.le
                have e5 := le_grow e3 gq e2
                have e6 : num + x * p * z ≤ U + x * c := le_grow (by omega) gq e1
                have e7 : 0 ≤ x * p := Int.mul_nonneg x0 p0
                have z0 : 0 ≤ z := by rw [← hz']; exact Int.ediv_nonneg (by omega) (by omega)
                have z1 : z ≤ 562949953421312 := by rw [← hz']; exact Int.le_trans (Int.ediv_le_self _ (by omega)) d1
                have E1 := Lib.hid e1
                have wq : IntKind.i64.wrap (Int.tdiv den d) = z := by rw [Int.tdiv_eq_ediv_of_nonneg (by omega), hz']; exact IntWalk.i64_in _ (by omega)
                have wm : IntKind.i64.wrap (x * p) = x * p := IntWalk.i64_in _ (by omega)
                have wn : IntKind.i64.wrap (x * p * z) = x * p * z := IntWalk.i64_in _ (by omega)
                have ws : IntKind.i64.wrap (num + x * p * z) = num + x * p * z := IntWalk.i64_in _ (by omega)
                have dn : ¬ d = 0 := by omega
                have hg : decide (d > den) = false := decide_eq_false (by omega)
                have f0 : 0 ≤ num + x * p * z := by omega
                have f1 : num + x * p * z ≤ 144115188075855872 := by omega
                clear hc hp hd hD pdc SC1 hnd e1 e2 hz' hnext hnone
                go_wp2_with fail
                go_region
                go_wp2_with fail
                go_roundw
                case rel => exact ⟨k + 1, num + x * p * z, den, U + x * c, by omega, rfl, rfl, by go_num, f0, f1, d0, d1, hU', hU2, hd2, E1, NX, Lib.hid (T4.out.mono NNN.out).drew, Lib.hid O4.out.drew, Lib.hid R4.out.drew, Lib.hid (ints_drew I4.out), Lib.hid P4.out.drew⟩
                case measure => simp [intOf]; omega
              · obtain ⟨y, hy⟩ : ∃ y, d / den = y := ⟨_, rfl⟩
                have g1 := grow_den hD hd2.out (by omega) hnd.out
                rw [hy] at g1
                obtain ⟨e1, e2, e3, e4⟩ := same_den (x := x) hD hD (Int.le_refl _) g1 pdc p0 x0
                rw [Int.ediv_self (by omega)] at e1 e2 e3 e4
                have gq := hD.qpos D2.sc hD.le
                have y0 : 0 ≤ y := by rw [← hy]; exact Int.ediv_nonneg (by omega) (by omega)
                have y1 : y ≤ 562949953421312 := by rw [← hy]; exact Int.le_trans (Int.ediv_le_self _ (by omega)) dl
                have ny0 : 0 ≤ num * y := Int.mul_nonneg n0 y0
                have ny1 : num * y ≤ U := le_grow ny0 gq g1
                have e5 := le_grow e3 gq e2
                have e6 : num * y + x * p * 1 ≤ U + x * c := le_grow (by omega) gq e1
                have e7 : 0 ≤ x * p := Int.mul_nonneg x0 p0
                rw [Int.mul_one] at e1 e5 e6
                have E1 := Lib.hid e1
                have HD2 := Lib.hid hD
                obtain ⟨v, hv⟩ : ∃ v, num * y = v := ⟨_, rfl⟩
                rw [hv] at ny0 ny1 e6 E1
                have wy : IntKind.i64.wrap (Int.tdiv d den) = y := by rw [Int.tdiv_eq_ediv_of_nonneg (by omega), hy]; exact IntWalk.i64_in _ (by omega)
                have wv : IntKind.i64.wrap (num * y) = v := by rw [hv]; exact IntWalk.i64_in _ (by omega)
                have dd : d / d = 1 := Int.ediv_self (by omega)
                have wq : IntKind.i64.wrap (Int.tdiv d d) = 1 := by rw [Int.tdiv_eq_ediv_of_nonneg (by omega), dd]; exact IntWalk.i64_in _ (by omega)
                have wm : IntKind.i64.wrap (x * p) = x * p := IntWalk.i64_in _ (by omega)
                have wn : IntKind.i64.wrap (x * p * 1) = x * p := by rw [Int.mul_one]; exact wm
                have ws : IntKind.i64.wrap (v + x * p) = v + x * p := IntWalk.i64_in _ (by omega)
                have dn : ¬ d = 0 := by omega
                have dn2 : ¬ den = 0 := by omega
                have hg : decide (d > den) = true := decide_eq_true (by omega)
                have f0 : 0 ≤ v + x * p := by omega
                have f1 : v + x * p ≤ 144115188075855872 := by omega
                have dq0 : 1 ≤ d := by omega
                clear hc hp hd hD pdc SC1 hnd e1 e2 hnext hnone g1
                go_wp2_with fail
                go_region
                go_wp2_with fail
                go_roundw
                case rel => exact ⟨k + 1, v + x * p, d, U + x * c, by omega, rfl, rfl, by go_num, f0, f1, dq0, dl, hU', hU2, HD2, E1, NX, Lib.hid (T4.out.mono NNN.out).drew, Lib.hid O4.out.drew, Lib.hid R4.out.drew, Lib.hid (ints_drew I4.out), Lib.hid P4.out.drew⟩
                case measure => simp [intOf]; omega
          · obtain rfl : k = 2 := by omega
            have HACC := Lib.hid (show M.acc a b q (j + 1) = some U from hin.out)
            have tb := Mm.acc_bd hM (j + 1) (by omega) _ HACC.out
            have u2 : U ≤ 72057594037927936 := by
              have SC1 : SC = 562949953421312 := rfl
              refine Int.le_trans tb.2 ?_
              have : (32 * ((j + 1 : Nat) : Int)) * SC ≤ 128 * SC := Int.mul_le_mul_of_nonneg_right (by omega) (by decide)
              rw [SC1] at this; rw [SC1]; omega
            clear tb
            go_wp2_with fail
            go_roundw
            case rel => exact ⟨j + 1, num, den, U, by omega, rfl, rfl, by go_num, n0, n1, d0, d1, u0, u2, hd2, hnd, HACC, Lib.hid (htm.out.mono (by show N + (2 * j + 2) * gB n ≤ N + (2 * (j + 1)) * gB n; rw [Nat.mul_add 2 j 1]; exact Nat.le_refl _)), ho, rz, hsi⟩
            case measure => simp [intOf]; omega
    · obtain rfl : j = 4 := by omega
      obtain ⟨e0, e1, e2, e3, S1, S2, e4, e5⟩ := mix_end hM ha hb HQ.out HS.out hacc.out hd2.out hnd.out
      obtain ⟨Z, hZ⟩ : ∃ Z, den * 2 * S = Z := ⟨_, rfl⟩
      rw [hZ] at e1 e2 e3 e4 e5
      have E4 := Lib.hid e4
      have E5 := Lib.hid e5
      have WZ : IntKind.i64.wrap (den * 2 * S) = Z := by rw [hZ]; exact IntWalk.i64_in _ (by omega)
      obtain ⟨Tf, Ff, g1, _, _, _⟩ := htm.out
      have G1 := Lib.hid g1
      have hwz := rz.out.lt
      have oz := ho.out.size
      clear e4 e5 g1 hacc
      go_wp2_with fail
      refine (weights_any M g t f q _ G1.out).mono ?_
      rintro e w3 ⟨rfl, rfl⟩
      rw [HSL.out]
      go_wp2_with fail
      refine (HTOT.out _ hsi.out).mono ?_
      rintro e w3 ⟨rfl, rfl⟩
      go_wp2_with fail
      refine (makeShare_in num Z _ e0 e1 e2 (by omega)).mono ?_
      rintro e w4 ⟨rfl, hb4⟩
      obtain ⟨X, hX⟩ : ∃ X, loN num Z = X := ⟨_, rfl⟩
      obtain ⟨Y, hY⟩ : ∃ Y, loD num Z = Y := ⟨_, rfl⟩
      obtain ⟨K, hK⟩ : ∃ K, loB num Z = K := ⟨_, rfl⟩
      rw [hX, hY, hK] at E4 ⊢
      rw [hK] at E5
      have z4 := hb4.size
      have T4 := Lib.hid (htm.out.keep hb4 (by omega) (by omega) (by omega))
      have O4 := Lib.hid (ho.out.after hb4)
      have R4 := Lib.hid (rowIs_below rz.out hb4 rz.out.lt)
      obtain ⟨h0, h1, h2, h3⟩ := two_cells R4.out
      obtain ⟨k0, k1, _, _⟩ := two_cells (two_set R4.out X Y)
      clear hX hY hK hb4
      go_wp2_with fail
      refine bodyPost_ret (v := .tuple #[shV X Y, .bool K]) (by simp [results, Try.results97, go_sem, k0, k1]) rfl ⟨X, Y, K, rfl, ?_, ?_, E4.out, E5.out⟩
      · exact (T4.out.set (b := w.heap.size) (by omega) (by omega) (by omega) 0 (.int .i64 X)).set (b := w.heap.size) (by omega) (by omega) (by omega) 1 (.int .i64 Y)
      · exact (O4.out.setNew (p := ⟨w.heap.size, 0, none⟩) (Nat.le_refl _) (.int .i64 X)).setNew (p := ⟨w.heap.size, 1, none⟩) (Nat.le_refl _) (.int .i64 Y)
theorem chance_any (M : Mm) (hM : M.ok) (lo hi g t f : Nat) (hL : Lie lo hi g t f) (hlo : lo ≤ hi) : ∀ n, ImC M lo hi g t f n
  | 0 => fun a b ph N w hn _ _ _ _ _ hT _ _ => by
    obtain rfl : a = 0 := by omega
    exact chance_a0 M lo hi g t f N b ph w hT
  | n + 1 => fun a b ph N w hn ha9 hb9 p0 p2 hMw hT hz hN => by
    have hX := mix_any M hM lo hi g t f n hL hlo (chance_any M hM lo hi g t f hL hlo n)
    have eg : gB (n + 1) = 8 * gB n + 1 := rfl
    rw [eg] at hN ⊢
    rcases Nat.eq_zero_or_pos a with rfl | ha
    · refine (chance_a0 M lo hi g t f N b ph w hT).mono ?_
      rintro e w' ⟨x, y, ok, he, ht, h⟩
      exact ⟨x, y, ok, he, ht.mono (by omega), h⟩
    rcases Nat.eq_zero_or_pos b with rfl | hb
    · refine (chance_b0 M lo hi g t f N a ph w ha hT).mono ?_
      rintro e w' ⟨x, y, ok, he, ht, h⟩
      exact ⟨x, y, ok, he, ht.mono (by omega), h⟩
    obtain ⟨q, hq⟩ : ∃ q, gp a b ph = q := ⟨_, rfl⟩
    have q0 : 0 ≤ q ∧ q ≤ 2 := by rw [← hq]; unfold gp; split <;> omega
    have hcq : M.ch a b q = M.ch a b ph := by rw [← hq]; exact chV_gp
    obtain ⟨T, F, r1, r2, r3, hK⟩ := hT
    rcases hK a b q ha9 hb9 q0.1 q0.2 with ⟨k1, k2⟩ | ⟨c, k1, k2, k3⟩ | ⟨k1, ⟨x, y, k2⟩, k3⟩
    · have h := chance_new M lo hi g t f N n hL hX a b ph q w hn ha hb ha9 hb9 hq q0.1 q0.2 hMw hz (by omega) T F r1 r2 r3 hK k1
      rwa [Nat.add_assoc] at h
    · refine (chance_old M lo hi g t f N a b ph q w ha hb ha9 hb9 hq q0.1 q0.2 T F r1 r2 r3 hK _ _ _ k2 k3).mono ?_
      rintro e w' ⟨he, ht, ho⟩
      exact ⟨_, _, true, he, ht.mono (by omega), ho, fun _ => ⟨c, hcq ▸ k1, rfl, rfl⟩, (fun h => by cases h)⟩
    · refine (chance_old M lo hi g t f N a b ph q w ha hb ha9 hb9 hq q0.1 q0.2 T F r1 r2 r3 hK _ _ _ k2 k3).mono ?_
      rintro e w' ⟨he, ht, ho⟩
      exact ⟨_, _, false, he, ht.mono (by omega), ho, (fun h => by cases h), fun _ => hcq ▸ k1⟩
end Go.Proofs.Ytkioliioakmepaa
