/-
  l05Longest of the reference: the longest kept sequences of an order.
-/
import Derived.Test.YtjfmpnkbocilpaaHwX
import Derived.Test.YtjfmpnkbocilpaaHwW
namespace Go.Proofs.Ytjfmpnkbocilpaa
open Go.ChangeShapes Go.WideShapes Go.ChangeAt Go.RowKit
set_option linter.unusedVariables false

def LoPost (P N : Nat) (H : Int) (ds xs ys : List Int) (w : World) (e : Ending) (w' : World) : Prop :=
  ∃ (la : Option Addr) (lc : Nat), e = .returned (.tuple #[.slice la (lng P H ds (sq0 xs ys)).1.length lc, .int .i64 ((lng P H ds (sq0 xs ys)).2.1 : Nat), .bool (lng P H ds (sq0 xs ys)).2.2]) ∧ PlsR w' w'.heap.size N la (lng P H ds (sq0 xs ys)).1.length (lng P H ds (sq0 xs ys)).1 ∧ (∀ g o t, la = some ⟨g, o, t⟩ → w.heap.size ≤ g) ∧ Below w.heap.size w w'
theorem fin9 {w4 W : World} {l1 u1 l2 u2 N sc c3 c4 : Nat} {sa A B : Option Addr} {xs ys : List Int} (hb : Below w4.heap.size w4 W) (hA : RowN w4 l1 u1 2 A N (icell .i64 xs)) (hB : RowN w4 l2 u2 2 B N (icell .i64 ys)) (h1 : u1 ≤ w4.heap.size) (h2 : u2 ≤ w4.heap.size) (e1 : xs.length = N) (e2 : ys.length = N) : PvOk W W.heap.size N ⟨sa, 0, sc, A, c3, B, c4⟩ ⟨[], xs, ys⟩ :=
  ⟨⟨rfl, .inl rfl⟩, (hA.below hb).wide (Nat.zero_le _) (Nat.le_trans h1 hb.size), e1, (hB.below hb).wide (Nat.zero_le _) (Nat.le_trans h2 hb.size), e2⟩
set_option maxRecDepth 16000 in
set_option maxHeartbeats 6400000 in
theorem l05Longest_any (P N : Nat) (c H s : Int) (a : Option Addr) (ca : Nat) (xs : List Int) (b : Option Addr) (cb : Nat) (ys : List Int) (oa : Option Addr) (on oc : Nat) (ds : List Int) (w : World) (h1 : Ints w w.heap.size .i64 a N xs) (h2 : Ints w w.heap.size .i64 b N ys) (h3 : Ints w w.heap.size .i64 oa on ds) (hP0 : 1 ≤ P) (hP : P ≤ 24) (hN : N = P + 1) (hc : c ≤ 15) (hx : SV P c xs) (hy : SV P c ys) (hon : 0 < on) (hon4 : on ≤ 4) (hd : ∀ d ∈ ds, 1 ≤ d ∧ d ≤ 6) :
    Calls Try.prog 39 #[vrV P c H s, bdV a N ca b N cb, .slice oa on oc] w fun e w' => LoPost P N H ds xs ys w e w' := by
  have hb0 := (((Below.refl w.heap.size w).alloc (Nat.le_refl _) (.cells #[.int .i64 P, .int .i64 c, .int .i64 H, .int .i64 s] 30)).alloc (by simp) (.cells #[.slice a N ca, .slice b N cb] 32))
  have V0 := Lib.hid ((vr4_new w (.int .i64 P) (.int .i64 c) (.int .i64 H) (.int .i64 s) 30).alloc (.cells #[.slice a N ca, .slice b N cb] 32))
  have d0 := pr_new (w.alloc (.cells #[.int .i64 P, .int .i64 c, .int .i64 H, .int .i64 s] 30)) (.slice a N ca) (.slice b N cb) 32
  rw [World.size_alloc] at d0
  obtain ⟨W0, hW0⟩ : ∃ W, (w.alloc (.cells #[.int .i64 P, .int .i64 c, .int .i64 H, .int .i64 s] 30)).alloc (.cells #[.slice a N ca, .slice b N cb] 32) = W := ⟨_, rfl⟩
  have zW : w.heap.size + 1 < W0.heap.size := by rw [← hW0]; simp
  rw [hW0] at hb0 V0 d0
  have HW0 := Lib.hid hW0
  have HB0 := Lib.hid hb0
  have D0 := Lib.hid d0
  have I1 := Lib.hid (show Ints W0 W0.heap.size .i64 a N xs from (h1.below hb0).more hb0.size)
  have I2 := Lib.hid (show Ints W0 W0.heap.size .i64 b N ys from (h2.below hb0).more hb0.size)
  obtain ⟨go, oo, rfl, hgo, hco⟩ := h3.2 hon
  have CO := Lib.hid hco
  have DL := Lib.hid h3.len
  have HD := Lib.hid hd
  have HX := Lib.hid hx
  have HY := Lib.hid hy
  have XL := Lib.hid h1.len
  have YL := Lib.hid h2.len
  have HN := Lib.hid hN
  have hN1 : P < N := by omega
  have hN2 : N ≤ P + 1 := by omega
  obtain ⟨q0, q1⟩ := pr_cells d0
  clear h1 h2 h3 hco hd hx hy hN d0 hb0 hW0
  have OWN := Lib.hid (fun (A : Option Addr) (C : Nat) (zs : List Int) (W : World) (h : Ints W W.heap.size .i64 A N zs) => l02Own_any A N C zs W h (by omega) (by omega))
  have KB := Lib.hid (fun (W : World) (hb : Below W0.heap.size W0 W) => show W.cell? ⟨w.heap.size + 1, 0, none⟩ = some (.slice a N ca) ∧ W.cell? ⟨w.heap.size + 1, 1, none⟩ = some (.slice b N cb) from pr_cells (rowIs_below D0.out hb D0.out.lt))
  go_enter Try.func39, Try.ntmps39
  go_wp2_with fail
  rw [HW0.out]
  go_upto_region 1 with fail
  go_cut [9] (fun t wx => ∃ (g : Nat), t = .slice (some ⟨g, 0, none⟩) 1 1 ∧ PlsR wx wx.heap.size N (some ⟨g, 0, none⟩) 1 (sq0 xs ys) ∧ W0.heap.size ≤ g ∧ Below W0.heap.size W0 wx)
  case first =>
    go_region_held3 (fun w' => w'.cell? ⟨w.heap.size + 1, 0, none⟩ = some (.slice a N ca) ∧ w'.cell? ⟨w.heap.size + 1, 1, none⟩ = some (.slice b N cb))
      ((refine KB.out _ ?_; repeat' (first | exact Below.refl _ _ | (with_reducible exact hb4) | (with_reducible exact hb3) | (with_reducible refine below_dr ?_) | refine Below.alloc ?_ (by first | omega | (simp; done) | (simp; omega)) _)))
      (first
        | (go_at_call 56; refine (OWN.out a ca xs _ ?_).mono ?_
           · (refine Ints.more (I1.out.below (?_ : Below W0.heap.size W0 _)) ?_
              · (repeat' (first | exact Below.refl _ _ | (with_reducible refine below_dr ?_) | refine Below.alloc ?_ (by first | omega | (simp; done) | (simp; omega)) _))
              · (first | omega | (simp; done) | (simp; omega))); done
           rintro e w3 ⟨A, c3, rfl, _, hr3, hb3'⟩
           have hb3 : Below W0.heap.size W0 w3 := by
             refine Below.trans (b := _) ?_ (hb3'.mono (by first | omega | (simp; done) | (simp; omega)))
             repeat' (first | exact Below.refl _ _ | (with_reducible refine below_dr ?_) | refine Below.alloc ?_ (by first | omega | (simp; done) | (simp; omega)) _)
           have z3 := hb3.size)
        | (go_at_call 56; refine (OWN.out b cb ys _ ?_).mono ?_
           · (refine Ints.more (I2.out.below (?_ : Below W0.heap.size W0 _)) ?_
              · (repeat' (first | exact Below.refl _ _ | (with_reducible exact hb3) | (with_reducible refine below_dr ?_) | refine Below.alloc ?_ (by first | omega | (simp; done) | (simp; omega)) _))
              · (first | omega | (simp; done) | (simp; omega))); done
           rintro e w4 ⟨B, c4, rfl, _, hr4, hb4'⟩
           have hb34 : Below w3.heap.size w3 w4 := by
             refine Below.trans (b := _) ?_ (hb4'.mono (by first | omega | (simp; done) | (simp; omega)))
             repeat' (first | exact Below.refl _ _ | (with_reducible refine below_dr ?_) | refine Below.alloc ?_ (by first | omega | (simp; done) | (simp; omega)) _)
           have hb4 : Below W0.heap.size W0 w4 := hb3.trans (hb34.mono hb3.size)
           have z4 := hb34.size))
    all_goals
      go_wp2_with fail
      go_meet
      first
        | exact ⟨w4.heap.size, rfl, PlsR.one (x := ⟨some ⟨_, 0, none⟩, 0, 0, A, c3, B, c4⟩) (th3_new w4 _ _ _ _) (by simp) (fin9 ((Below.refl _ w4).alloc (Nat.le_refl _) _) (hr3.below hb34) hr4 z4 (Nat.le_refl _) XL.out YL.out), hb4.size, hb4.alloc hb4.size _⟩
        | exact ⟨w4.heap.size + 1, rfl, PlsR.one (x := ⟨some ⟨_, 0, none⟩, 0, 0, A, c3, B, c4⟩) (th3_new' _ _ _ _ _ _ (by simp)) (by simp) (fin9 (((Below.refl _ w4).alloc (Nat.le_refl _) _).alloc (by simp) _) (hr3.below hb34) hr4 z4 (Nat.le_refl _) XL.out YL.out), (by have := hb4.size; omega), (hb4.alloc hb4.size _).alloc (by have := hb4.size; simp; omega) _⟩
  case rest =>
    obtain ⟨gP, rfl, hP1, hgP, hbc⟩ := hcut
    have zc := hbc.size
    have VC := Lib.hid (rowIs_below V0.out hbc V0.out.lt)
    have BC := Lib.hid (HB0.out.trans (hbc.mono HB0.out.size))
    have PC := Lib.hid hP1
    clear hP1 hbc q0 q1 KB I1 I2 D0 V0
    go_wp2_with fail
    go_loopw [9, 10, 11] (fun lv fv ix wr => ∃ (j : Nat) (cur : List Pl) (f : Bool) (lA : Option Addr) (nC lc : Nat), lv = .slice lA nC lc ∧ Hid (cur.length = nC) ∧ j ≤ on ∧ ix = .int .i64 j ∧ fv = .bool f ∧ Hid (LgAt P H ds (sq0 xs ys) j cur f) ∧ Hid (PlsR wr wr.heap.size N lA nC cur) ∧ Hid (∀ g o t, lA = some ⟨g, o, t⟩ → w.heap.size ≤ g) ∧ Hid (PlsOk P c j cur) ∧ Hid (cur.length ≤ 25 ^ j) ∧ Hid (wr.rowIs w.heap.size 30 4 (vr4 (.int .i64 P) (.int .i64 c) (.int .i64 H) (.int .i64 s))) ∧ Hid (Below w.heap.size w wr) ∧ w.heap.size + 2 ≤ wr.heap.size) (fun _ _ ix _ => on - (intOf ix).toNat)
    case atStart => exact ⟨0, sq0 xs ys, true, _, 1, 1, rfl, Lib.hid rfl, Nat.zero_le _, rfl, rfl, Lib.hid LgAt.start, PC, Lib.hid (fun g o t e => by cases e; omega), Lib.hid (sq0_ok HX.out HY.out), Lib.hid (Nat.le_refl _), VC, BC, by omega⟩
    case round =>
      obtain ⟨j, cur, f, lA, nC, lc, rfl, HNC, hj, rfl, rfl, HLg, HPL, HLO, HOK, HLE, HV, HB, hz⟩ := hrel
      by_cases hlt : j < on
      · have CE := Lib.hid (fun (W : World) (hb : Below w.heap.size w W) => (hb.cell (p := ⟨go, oo + j, none⟩) (by show go < _; omega)).trans (CO.out j hlt))
        obtain ⟨die, hdie⟩ : ∃ die, ds.getD j 0 = die := ⟨_, rfl⟩
        rw [hdie] at CE
        have hjd : j < ds.length := by have := DL.out; omega
        have hdm : 1 ≤ die ∧ die ≤ 6 := by
          rw [← hdie]
          refine HD.out _ ?_
          rw [List.getD_eq_getElem?_getD, List.getElem?_eq_getElem hjd]; exact List.getElem_mem hjd
        have LS := Lib.hid (fun h => HLg.out.step hjd h)
        have LP := Lib.hid (fun h => HLg.out.stop hjd h)
        rw [hdie] at LS LP
        have NL := nxL_len (P : Int) H die cur
        have NK := Lib.hid (nxL_ok (P := (P : Int)) (H := H) (die := die) (by omega) hdm.1 HOK.out)
        have hle : nC ≤ 15625 := by rw [← HNC.out]; exact Nat.le_trans HLE.out (pow25 (by omega))
        have G1 := Lib.hid (l05Next_any P N c H s lA nC lc cur die j wr.drew (show PlsR wr.drew wr.drew.heap.size N lA nC cur from HPL.out.bel (below_drewN (Below.refl _ wr) 1) (Nat.le_refl _)) hP0 hP HN.out hc hdm.1 hdm.2 hle HOK.out (by omega))
        have Vd := Lib.hid (show wr.drew.rowIs w.heap.size 30 4 (vr4 (.int .i64 P) (.int .i64 c) (.int .i64 H) (.int .i64 s)) from HV.out)
        have Bd := Lib.hid (show Below w.heap.size w wr.drew from below_drewN HB.out 1)
        have NLE := Lib.hid (show (nxL P H die cur).length ≤ 25 ^ (j + 1) by
          have h2 : cur.length * ((P : Int).toNat + 1) ≤ 25 ^ j * 25 := Nat.mul_le_mul HLE.out (by rw [Int.toNat_natCast]; omega)
          rw [Nat.pow_succ]; omega)
        obtain ⟨nxt, hnxt⟩ : ∃ nxt, nxL P H die cur = nxt := ⟨_, rfl⟩
        rw [hnxt] at LS LP NK G1 NLE
        obtain ⟨m2, hm2⟩ : ∃ m2, nxt.length = m2 := ⟨_, rfl⟩
        have HM2 := Lib.hid hm2
        have m2b : m2 ≤ 390625 := by rw [← hm2]; exact Nat.le_trans NLE.out (pow25' (by omega))
        rw [hm2] at LS LP
        clear hdie hnxt hm2 NL HLg hjd
        obtain ⟨v0, v1, v2, v3⟩ := vr4_cells HV.out
        have cd := CE.out _ HB.out
        go_wp2_with fail
        go_region_held3 (fun w' => w'.cell? ⟨w.heap.size, 0, none⟩ = some (.int .i64 P) ∧ w'.cell? ⟨w.heap.size, 1, none⟩ = some (.int .i64 c) ∧ w'.cell? ⟨w.heap.size, 2, none⟩ = some (.int .i64 H) ∧ w'.cell? ⟨w.heap.size, 3, none⟩ = some (.int .i64 s) ∧ w'.cell? ⟨go, oo + j, none⟩ = some (.int .i64 die))
          (first | go_keep)
          (first
            | (go_at_call 57; (with_reducible refine G1.out.mono ?_); rintro e w2 ⟨v2', rfl, hs2, hb2⟩; obtain ⟨a2, c2', hv2, hr2⟩ := hs2.out; rw [HM2.out] at hv2 hr2; have LO2 := Lib.hid (show ∀ g o t, a2 = some ⟨g, o, t⟩ → w.heap.size ≤ g from fun g o t e => by have h := hs2.in g (by rw [hv2, e]; rfl); have h1 : wr.heap.size ≤ g := h.1; omega); have R2 := Lib.hid hr2; have V2 := Lib.hid (rowIs_below Vd.out hb2 Vd.out.lt); have B2 := Lib.hid (Bd.out.trans (hb2.mono Bd.out.size)); have z2 : wr.heap.size ≤ w2.heap.size := hb2.size; have L2 := Lib.hid ((HPL.out.bel (below_drewN (Below.refl _ wr) 1) (Nat.le_refl _)).bel hb2 (Nat.le_refl _)); obtain ⟨x0, x1, x2, x3⟩ := vr4_cells V2.out; have x4 := CE.out _ B2.out; clear hs2 hb2 hr2; subst hv2))
        clear v0 v1 v2 v3 cd x0 x1 x2 x3 x4
        by_cases hm0 : m2 = 0
        · have HE := Lib.hid (LP.out hm0)
          have hq : ((m2 : Int) == 0) = true := by rw [hm0]; rfl
          have hd3 : decide ((m2 : Int) ≤ 3000) = true := decide_eq_true (by omega)
          have hd4 : (m2 : Int) ≤ 3000 := by omega
          have HM0 := Lib.hid hm0
          clear hm0
          cases f
          all_goals
            go_wp2_with fail
            go_ret3
            refine ⟨lA, lc, ?_, ?_, HLO.out, B2.out⟩
            · rw [HE.out]; show _ = Ending.returned (.tuple #[.slice lA cur.length lc, .int .i64 ((j : Nat) : Int), .bool _]); rw [HNC.out]; rfl
            · rw [HE.out]; show PlsR _ _ N lA cur.length cur; rw [HNC.out]; exact L2.out.more z2
        · have HS := Lib.hid (LS.out hm0)
          have hq : ((m2 : Int) == 0) = false := by rw [beq_eq_false_iff_ne]; omega
          have hm1 : ¬ (m2 : Int) = 0 := by omega
          clear hm0
          have cases4 : ∃ f' : Bool, (f && decide (m2 ≤ 3000)) = f' ∧ ((f = false ∧ f' = false) ∨ (f = true ∧ decide ((m2 : Int) ≤ 3000) = f' ∧ ((f' = true ∧ (m2 : Int) ≤ 3000) ∨ (f' = false ∧ ¬ (m2 : Int) ≤ 3000)))) := by
            cases f
            · exact ⟨false, rfl, .inl ⟨rfl, rfl⟩⟩
            · by_cases h : m2 ≤ 3000
              · exact ⟨true, by simp [h], .inr ⟨rfl, decide_eq_true (by omega), .inl ⟨rfl, by omega⟩⟩⟩
              · exact ⟨false, by simp [h], .inr ⟨rfl, decide_eq_false (by omega), .inr ⟨rfl, by omega⟩⟩⟩
          obtain ⟨f', hf', hcs⟩ := cases4
          rw [hf'] at HS
          clear hf'
          rcases hcs with ⟨rfl, rfl⟩ | ⟨rfl, hd3, ⟨rfl, hd4⟩ | ⟨rfl, hd4⟩⟩
          all_goals
            go_wp2_with fail
            go_roundw
            case rel => exact ⟨j + 1, nxt, _, a2, m2, c2', rfl, HM2, by omega, by go_num, rfl, HS, R2, LO2, NK, NLE, V2, B2, by omega⟩
            case measure => (simp [intOf]; try omega)
      · obtain rfl : j = on := by omega
        have HE := Lib.hid (HLg.out.fin DL.out.symm)
        go_wp2_with fail
        go_ret3
        refine ⟨lA, lc, ?_, ?_, HLO.out, HB.out⟩
        · rw [HE.out]; show _ = Ending.returned (.tuple #[.slice lA cur.length lc, .int .i64 ((j : Nat) : Int), .bool f]); rw [HNC.out]; rfl
        · rw [HE.out]; show PlsR _ _ N lA cur.length cur; rw [HNC.out]; exact HPL.out
end Go.Proofs.Ytjfmpnkbocilpaa
