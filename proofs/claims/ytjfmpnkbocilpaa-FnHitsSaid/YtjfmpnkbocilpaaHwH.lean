/-
  HitWeight of both packages.
-/
import Derived.Test.YtjfmpnkbocilpaaHwAl
import Derived.Test.YtjfmpnkbocilpaaHwBl
import Derived.Test.YtjfmpnkbocilpaaHwI
import Derived.Test.YtjfmpnkbocilpaaFeatW
namespace Go.Proofs.Ytjfmpnkbocilpaa
open Go.ChangeShapes Go.WideShapes Go.ChangeAt Go.RowKit
set_option linter.unusedVariables false

theorem mrg_len {n K : Nat} : ∀ {r : List Rs} {out : List Pl}, (∀ x ∈ r, x.1.length ≤ K) → (r.foldl (mgR n) out).length ≤ out.length + r.length * K
  | [], out, _ => by simp
  | x :: r, out, h => by
    have h1 := mrg_len (n := n) (K := K) (r := r) (out := mgR n out x) (fun y hy => h y (List.mem_cons_of_mem _ hy))
    have h2 := h x List.mem_cons_self
    have h3 : (mgR n out x).length ≤ out.length + K := by
      unfold mgR
      split
      · omega
      · have := mgF_len out x.1; omega
    rw [List.foldl_cons, List.length_cons, Nat.succ_mul]
    omega
/-- what is known of the plays of a roll -/
theorem allF_ok {P : Nat} {H c A B : Int} {xs ys : List Int} (hP0 : 1 ≤ P) (hP : P ≤ 24) (hx : SV P c xs) (hy : SV P c ys) (hA1 : 1 ≤ A) (hB1 : 1 ≤ B) : (∀ p ∈ allF P H xs ys A B, p.st.length ≤ 1000) ∧ (allF P H xs ys A B).length ≤ 8000000 := by
  have hr := resF_ok (H := H) hP0 hP hx hy hA1 hB1
  refine ⟨fun p hp => ?_, ?_⟩
  · have := mrgF_sub (I := fun p => p.st.length ≤ 1000) (fun x hx p hp => by have := ((hr x hx).sv p hp).2.2; omega) p hp
    exact this
  · have h := mrg_len (n := mostF (resF P H xs ys A B)) (K := 390625) (r := resF P H xs ys A B) (out := []) (fun x hx => (hr x hx).len)
    have h2 : (resF (P : Int) H xs ys A B).length ≤ 2 := by rw [resF_len]; have := ordF_len A B; omega
    have h3 : (resF (P : Int) H xs ys A B).length * 390625 ≤ 2 * 390625 := Nat.mul_le_mul_right _ h2
    have h4 : 2 * 390625 = 781250 := by decide
    rw [h4] at h3
    rw [List.length_nil, Nat.zero_add] at h
    show (mrgF _ _).length ≤ _
    unfold mrgF
    omega
def hwV (p c H s : Int) (n : Nat) (xs : List Int) (m : Nat) (ys : List Int) : Value :=
  if boardB p c H s n xs m ys = true then (if okK p H xs ys (rlA s.toNat) (rlA s.toNat).length = true then .tuple #[.int .i64 (wtK (hitF p H xs ys) (rlA s.toNat) (rlA s.toNat).length), .int .i64 0] else .tuple #[.int .i64 0, .int .i64 3]) else .tuple #[.int .i64 0, .int .i64 1]
theorem hwV_no {p c H s : Int} {n : Nat} {xs : List Int} {m : Nat} {ys : List Int} (h : boardB p c H s n xs m ys = false) : hwV p c H s n xs m ys = .tuple #[.int .i64 0, .int .i64 1] := by rw [hwV, h]; rfl
theorem hwV_bad {p c H s : Int} {n : Nat} {xs : List Int} {m : Nat} {ys : List Int} (h : boardB p c H s n xs m ys = true) (h2 : okK p H xs ys (rlA s.toNat) (rlA s.toNat).length = false) : hwV p c H s n xs m ys = .tuple #[.int .i64 0, .int .i64 3] := by rw [hwV, h, h2]; rfl
theorem hwV_yes {p c H s : Int} {n : Nat} {xs : List Int} {m : Nat} {ys : List Int} (h : boardB p c H s n xs m ys = true) (h2 : okK p H xs ys (rlA s.toNat) (rlA s.toNat).length = true) : hwV p c H s n xs m ys = .tuple #[.int .i64 (wtK (hitF p H xs ys) (rlA s.toNat) (rlA s.toNat).length), .int .i64 0] := by rw [hwV, h, h2]; rfl
/-- what a valid board says -/
theorem boardB_sv {p c H s : Int} {n : Nat} {xs : List Int} {m : Nat} {ys : List Int} (l1 : xs.length = n) (l2 : ys.length = m) (hb : boardB p c H s n xs m ys = true) :
    ∃ P S : Nat, p = (P : Int) ∧ s = (S : Int) ∧ 1 ≤ P ∧ P ≤ 24 ∧ n = P + 1 ∧ m = P + 1 ∧ c ≤ 15 ∧ S ≤ 6 ∧ SV P c xs ∧ SV P c ys ∧ vrB p c H s = true := by
  simp only [boardB, Bool.and_eq_true] at hb
  obtain ⟨hv, ho, hu, _⟩ := hb
  obtain ⟨⟨p1, p2⟩, ⟨q1, q2⟩, _, ⟨s1, s2⟩⟩ := vrB_true.1 hv
  obtain ⟨en, hx, _, sx⟩ := sideB_out ho
  obtain ⟨em, hy, _, sy⟩ := sideB_out hu
  obtain ⟨P, rfl⟩ := Int.eq_ofNat_of_zero_le (show 0 ≤ p by omega)
  obtain ⟨S, rfl⟩ := Int.eq_ofNat_of_zero_le (show 0 ≤ s by omega)
  subst l1
  subst l2
  exact ⟨P, S, rfl, rfl, by omega, by omega, by omega, by omega, by omega, by omega, ⟨by rw [Int.toNat_natCast]; omega, fun i hi => (hx i hi).1, sx⟩, ⟨by rw [Int.toNat_natCast]; omega, fun i hi => (hy i hi).1, sy⟩, hv⟩

set_option maxRecDepth 16000 in
set_option maxHeartbeats 1600000 in
theorem impl_HitWeight_yes (P c H : Int) (S Pn : Nat) (a : Option Addr) (n ca : Nat) (xs : List Int) (b : Option Addr) (cb : Nat) (ys : List Int) (B : Nat) (w : World) (h1 : Ints w B .i64 a n xs) (h2 : Ints w B .i64 b n ys) (hB : B ≤ w.heap.size) (hv : boardB P c H S n xs n ys = true) (hP : P = Pn) (hP0 : 1 ≤ Pn) (hP24 : Pn ≤ 24) (hn : n = Pn + 1) (hc : c ≤ 15) (hS : S ≤ 6) (hx : SV P c xs) (hy : SV P c ys) (hvr : vrB P c H S = true) :
    Calls Try.prog 9 #[vrV P c H S, bdV a n ca b n cb] w fun e w' => e = .returned (hwV P c H S n xs n ys) ∧ Below w.heap.size w w' := by
  have hb0 := ((Below.refl w.heap.size w).alloc (Nat.le_refl _) (.cells #[.int .i64 P, .int .i64 c, .int .i64 H, .int .i64 S] 30)).alloc (by simp) (.cells #[.slice a n ca, .slice b n cb] 32)
  have v0' := (vr4_new w (.int .i64 P) (.int .i64 c) (.int .i64 H) (.int .i64 S) 30).alloc (.cells #[.slice a n ca, .slice b n cb] 32)
  have d0' := pr_new (w.alloc (.cells #[.int .i64 P, .int .i64 c, .int .i64 H, .int .i64 S] 30)) (.slice a n ca) (.slice b n cb) 32
  rw [World.size_alloc] at d0'
  obtain ⟨W0, hW0⟩ : ∃ W, (w.alloc (.cells #[.int .i64 P, .int .i64 c, .int .i64 H, .int .i64 S] 30)).alloc (.cells #[.slice a n ca, .slice b n cb] 32) = W := ⟨_, rfl⟩
  have zW : w.heap.size + 2 ≤ W0.heap.size := by rw [← hW0]; simp
  rw [hW0] at hb0 v0' d0'
  have HW0 := Lib.hid hW0
  have HB0 := Lib.hid hb0
  have V0 := Lib.hid v0'
  have D0 := Lib.hid d0'
  have IB := Lib.hid (impl_IsBoard_any P c H S a n ca xs b n cb ys B W0 (h1.below (hb0.mono hB)) (h2.below (hb0.mono hB)) (by omega) (by omega) (by omega))
  rw [hv] at IB
  have AR := Lib.hid (fun W => AllRolls_any P c H S W hvr hS)
  have HV := Lib.hid hv
  subst hP
  have AP := Lib.hid (fun (A R : Int) (W : World) (hb : Below w.heap.size w W) (q1 : 1 ≤ R) (q2 : R ≤ A) (q3 : A ≤ S) => allPlays_any Pn n c H S a ca xs b cb ys A R W ((h1.below (hb.mono hB)).more (Nat.le_trans hB hb.size)) ((h2.below (hb.mono hB)).more (Nat.le_trans hB hb.size)) hP0 hP24 hn hc hx hy (by omega) (by omega) q1 (by omega))
  have hnP : Pn < n := by omega
  have hnP2 : n ≤ Pn + 1 := by omega
  have AK := Lib.hid (fun (A R : Int) (q1 : 1 ≤ R) (q2 : R ≤ A) => allF_ok (H := H) (A := A) (B := R) hP0 hP24 hx hy (by omega) q1)
  have RW := Lib.hid (fun (A R : Int) (W : World) (q1 : 1 ≤ R) (q2 : R ≤ A) (q3 : A ≤ S) => RollWeight_any Pn c H S A R W hvr q1 q2 q3)
  have RM := Lib.hid (fun k (hk : k < (rlA S).length) => rlA_mem (rl_mem hk))
  have RL21 := rlA_len6 hS
  obtain ⟨rl, hrl⟩ : ∃ rl, rlA S = rl := ⟨_, rfl⟩
  rw [hrl] at AR RM RL21
  have HRL := Lib.hid hrl
  obtain ⟨L, hL⟩ : ∃ L, rl.length = L := ⟨_, rfl⟩
  have HL := Lib.hid hL
  rw [hL] at RM RL21
  have KNO := Lib.hid (fun k (hk : k < L) (h : fitsF (resF (Pn : Int) H xs ys (rl.getD k (0, 0)).1 (rl.getD k (0, 0)).2) = false) => okK_no h L hk)
  have WB := Lib.hid (wtK_bd (hitF (Pn : Int) H xs ys) rl)
  have HWB := Lib.hid (fun (h : okK (Pn : Int) H xs ys rl L = false) => hwV_bad (p := Pn) (c := c) (H := H) (s := S) (n := n) (m := n) hv (by rw [Int.toNat_natCast, hrl, hL]; exact h))
  have HWY := Lib.hid (fun (h : okK (Pn : Int) H xs ys rl L = true) => hwV_yes (p := Pn) (c := c) (H := H) (s := S) (n := n) (m := n) hv (by rw [Int.toNat_natCast, hrl, hL]; exact h))
  rw [Int.toNat_natCast, hrl, hL] at HWY
  clear hv hvr h1 h2 hx hy hn hb0 v0' d0' hW0 hrl hL
  obtain ⟨v0, v1, v2, v3⟩ := vr4_cells V0.out
  obtain ⟨d0, d1⟩ := pr_cells D0.out
  go_enter Try.func9, Try.ntmps9
  go_wp2_with fail
  rw [HW0.out]
  go_wp2_with fail
  refine IB.out.mono ?_
  rintro e w1 ⟨rfl, hb1⟩
  have V1 := Lib.hid (rowIs_below V0.out hb1 V0.out.lt)
  have D1 := Lib.hid (rowIs_below D0.out hb1 D0.out.lt)
  have B1 := Lib.hid (HB0.out.trans (hb1.mono HB0.out.size))
  clear hb1 v0 v1 v2 v3 d0 d1
  obtain ⟨v0, v1, v2, v3⟩ := vr4_cells V1.out
  go_wp2_with fail
  refine (AR.out _).mono ?_
  rintro e w2 ⟨rv, rfl, hro, hb2⟩
  obtain ⟨rA, rC, hrv, hrr⟩ := hro.out
  rw [HL.out] at hrv hrr
  subst hrv
  have V2 := Lib.hid (rowIs_below V1.out hb2 V1.out.lt)
  have D2 := Lib.hid (rowIs_below D1.out hb2 D1.out.lt)
  have B2 := Lib.hid (B1.out.trans (hb2.mono B1.out.size))
  have R2 := Lib.hid hrr
  clear hro hrr hb2 v0 v1 v2 v3
  go_wp2_with fail
  go_loopw [6, 18] (fun sv ix wr => ∃ (k : Nat) (u : Int), k ≤ L ∧ ix = .int .i64 k ∧ sv = .int .i64 u ∧ Hid (wtK (hitF (Pn : Int) H xs ys) rl k = u) ∧ Hid (okK (Pn : Int) H xs ys rl k = true) ∧ Hid (RlR wr w2.heap.size rA L rl) ∧ Hid (wr.rowIs w.heap.size 30 4 (vr4 (.int .i64 Pn) (.int .i64 c) (.int .i64 H) (.int .i64 S))) ∧ Hid (wr.rowIs (w.heap.size + 1) 32 2 (pr (.slice a n ca) (.slice b n cb))) ∧ Hid (Below w.heap.size w wr) ∧ w2.heap.size ≤ wr.heap.size) (fun _ ix _ => L - (intOf ix).toNat)
  case atStart => exact ⟨0, 0, Nat.zero_le _, rfl, rfl, Lib.hid rfl, Lib.hid rfl, R2, V2, D2, B2, Nat.le_refl _⟩
  case round =>
    obtain ⟨k, u, hk, rfl, rfl, HU, HOK, HR, HVr, HDr, HB, hz⟩ := hrel
    have ub := WB.out k
    rw [HU.out] at ub
    by_cases hlt : k < L
    · obtain ⟨gr, hrA, hgr, hgrz, c0, c1⟩ := HR.out.at hlt
      subst hrA
      obtain ⟨p1, p2, p3⟩ := RM.out k hlt
      have KN := Lib.hid (KNO.out k hlt)
      have HOS := Lib.hid (show okK (Pn : Int) H xs ys rl (k + 1) = (okK (Pn : Int) H xs ys rl k && fitsF (resF (Pn : Int) H xs ys (rl.getD k (0, 0)).1 (rl.getD k (0, 0)).2)) from rfl)
      have HWS := Lib.hid (show wtK (hitF (Pn : Int) H xs ys) rl (k + 1) = if hitP (allF (Pn : Int) H xs ys (rl.getD k (0, 0)).1 (rl.getD k (0, 0)).2) = true then wtK (hitF (Pn : Int) H xs ys) rl k + wtF (rl.getD k (0, 0)) else wtK (hitF (Pn : Int) H xs ys) rl k from rfl)
      rw [HU.out] at HWS
      rw [HOK.out, Bool.true_and] at HOS
      obtain ⟨pr0, hpr⟩ : ∃ q, rl.getD k (0, 0) = q := ⟨_, rfl⟩
      rw [hpr] at c0 c1 p1 p2 p3 KN HOS HWS
      obtain ⟨A, R⟩ := pr0
      simp only at c0 c1 p1 p2 p3 KN HOS HWS
      have wb := wtF_bd (A, R)
      obtain ⟨ak1, ak2⟩ := AK.out A R p1 p2
      have AK1 := Lib.hid ak1
      have AK2 := Lib.hid ak2
      clear ak1 ak2 hpr
      have ba := HB.out.alloc HB.out.size (.cells #[.int .i64 A, .int .i64 R] 49)
      have V3 := Lib.hid (HVr.out.alloc (.cells #[.int .i64 A, .int .i64 R] 49))
      have D3 := Lib.hid (HDr.out.alloc (.cells #[.int .i64 A, .int .i64 R] 49))
      have B3 := Lib.hid ba
      have Q3 := Lib.hid (pr_new wr (.int .i64 A) (.int .i64 R) 49)
      have R3 := Lib.hid (HR.out.bel ((Below.refl wr.heap.size wr).alloc (Nat.le_refl _) (.cells #[.int .i64 A, .int .i64 R] 49)) hz)
      have AP3 := Lib.hid (AP.out A R _ ba p1 p2 p3)
      have hzo : w.heap.size ≤ wr.heap.size := HB.out.size
      clear ba HVr HDr HR HB
      obtain ⟨v0, v1, v2, v3⟩ := vr4_cells V3.out
      obtain ⟨d0, d1⟩ := pr_cells D3.out
      obtain ⟨q0, q1⟩ := pr_cells Q3.out
      go_wp2_with fail
      refine AP3.out.mono ?_
      rintro e w4 ⟨v4, rfl, hpl, hb4⟩
      have z4 := hb4.size
      simp only [World.size_alloc] at z4
      have V4 := Lib.hid (rowIs_below V3.out hb4 V3.out.lt)
      have D4 := Lib.hid (rowIs_below D3.out hb4 D3.out.lt)
      have Q4 := Lib.hid (rowIs_below Q3.out hb4 Q3.out.lt)
      have R4 := Lib.hid (R3.out.bel hb4 (by simp; omega))
      have B4 := Lib.hid (B3.out.trans (hb4.mono B3.out.size))
      have PL4 := Lib.hid hpl
      clear hpl hb4 v0 v1 v2 v3 d0 d1 q0 q1 V3 D3 Q3 R3 B3 AP3
      obtain ⟨ft, hft⟩ : ∃ ft, fitsF (resF (Pn : Int) H xs ys A R) = ft := ⟨_, rfl⟩
      rw [hft] at PL4 KN HOS ⊢
      clear hft
      cases ft
      · have HE := Lib.hid (HWB.out (KN.out (by first | rfl | trivial)))
        go_wp2_with fail
        go_ret2
        exact ⟨by rw [HE.out]; rfl, B4.out⟩
      · obtain ⟨aP, cP, hvP, hPR⟩ := (PL4.out (by first | rfl | trivial)).out
        subst hvP
        have HT := Lib.hid (hits_any n w4.heap.size aP _ cP _ w4 hPR (Nat.le_refl _) AK2.out AK1.out)
        obtain ⟨ht, hht⟩ : ∃ ht, hitP (allF (Pn : Int) H xs ys A R) = ht := ⟨_, rfl⟩
        rw [hht] at HT HWS
        obtain ⟨nP, hnP⟩ : ∃ nP, (allF (Pn : Int) H xs ys A R).length = nP := ⟨_, rfl⟩
        rw [hnP] at HT ⊢
        clear hPR hht hnP PL4 KN AK1 AK2
        go_wp2_with fail
        refine HT.out.mono ?_
        rintro e w5 ⟨rfl, hb5⟩
        have z5 := hb5.size
        have V5 := Lib.hid (rowIs_below V4.out hb5 V4.out.lt)
        have D5 := Lib.hid (rowIs_below D4.out hb5 D4.out.lt)
        have R5 := Lib.hid (R4.out.bel hb5 (by omega))
        have B5 := Lib.hid (B4.out.trans (hb5.mono B4.out.size))
        have Q5 := Lib.hid (rowIs_below Q4.out hb5 Q4.out.lt)
        cases ht
        · have HU2 := Lib.hid (show wtK (hitF (Pn : Int) H xs ys) rl (k + 1) = u from HWS.out)
          clear hb5
          go_wp2_with fail
          go_roundw
          case rel => exact ⟨k + 1, u, by omega, by go_num, rfl, HU2, HOS, R5, V5, D5, B5, by omega⟩
          case measure => (simp [intOf]; try omega)
        · have HU2 := Lib.hid (show wtK (hitF (Pn : Int) H xs ys) rl (k + 1) = u + wtF (A, R) from HWS.out)
          obtain ⟨tt, htt⟩ : ∃ tt, wtF (A, R) = tt := ⟨_, rfl⟩
          rw [htt] at HU2 wb
          have WT := Lib.hid htt
          have wu : IntKind.i64.wrap (u + tt) = u + tt := IntWalk.i64_in _ (by omega)
          clear hb5 htt
          obtain ⟨v0, v1, v2, v3⟩ := vr4_cells V5.out
          obtain ⟨q0, q1⟩ := pr_cells Q5.out
          go_wp2_with fail
          refine (RW.out A R _ p1 p2 p3).mono ?_
          rw [WT.out]
          rintro e w6 ⟨rfl, hb6⟩
          have z6 := hb6.size
          have V6 := Lib.hid (rowIs_below V5.out hb6 V5.out.lt)
          have D6 := Lib.hid (rowIs_below D5.out hb6 D5.out.lt)
          have R6 := Lib.hid (R5.out.bel hb6 (by omega))
          have B6 := Lib.hid (B5.out.trans (hb6.mono B5.out.size))
          clear hb6
          go_wp2_with fail
          go_roundw
          case rel => exact ⟨k + 1, u + tt, by omega, by go_num, rfl, HU2, HOS, R6, V6, D6, B6, by omega⟩
          case measure => (simp [intOf]; try omega)
    · obtain rfl : k = L := by omega
      have HE := Lib.hid (HWY.out HOK.out)
      go_wp2_with fail
      go_ret2
      exact ⟨by rw [HE.out, HU.out]; rfl, HB.out⟩
theorem impl_HitWeight_any (p c H s : Int) (a : Option Addr) (n ca : Nat) (xs : List Int) (b : Option Addr) (m cb : Nat) (ys : List Int) (B : Nat) (w : World) (h1 : Ints w B .i64 a n xs) (h2 : Ints w B .i64 b m ys) (hB : B ≤ w.heap.size) (hn : n ≤ 1048576) (hm : m ≤ 1048576) :
    Calls Try.prog 9 #[vrV p c H s, bdV a n ca b m cb] w fun e w' => e = .returned (hwV p c H s n xs m ys) ∧ Below w.heap.size w w' := by
  cases hv : boardB p c H s n xs m ys
  · have HE := Lib.hid (hwV_no hv)
    have hb0 := ((Below.refl w.heap.size w).alloc (Nat.le_refl _) (.cells #[.int .i64 p, .int .i64 c, .int .i64 H, .int .i64 s] 30)).alloc (by simp) (.cells #[.slice a n ca, .slice b m cb] 32)
    have V0 := Lib.hid ((vr4_new w (.int .i64 p) (.int .i64 c) (.int .i64 H) (.int .i64 s) 30).alloc (.cells #[.slice a n ca, .slice b m cb] 32))
    have d0' := pr_new (w.alloc (.cells #[.int .i64 p, .int .i64 c, .int .i64 H, .int .i64 s] 30)) (.slice a n ca) (.slice b m cb) 32
    rw [World.size_alloc] at d0'
    have IB := Lib.hid (impl_IsBoard_any p c H s a n ca xs b m cb ys B _ (h1.below (hb0.mono hB)) (h2.below (hb0.mono hB)) (by simp; omega) hn hm)
    rw [hv] at IB
    have HB0 := Lib.hid hb0
    clear hv h1 h2 hb0
    obtain ⟨v0, v1, v2, v3⟩ := vr4_cells V0.out
    obtain ⟨d0, d1⟩ := pr_cells d0'
    clear d0'
    go_enter Try.func9, Try.ntmps9
    go_wp2_with fail
    refine IB.out.mono ?_
    rintro e w1 ⟨rfl, hb1⟩
    have B1 := Lib.hid (HB0.out.trans (hb1.mono HB0.out.size))
    clear hb1
    go_wp2_with fail
    go_ret2
    exact ⟨by rw [HE.out]; rfl, B1.out⟩
  · obtain ⟨P, S, rfl, rfl, q1, q2, q3, q4, q5, q6, q7, q8, q9⟩ := boardB_sv h1.len h2.len hv
    obtain rfl : m = n := by omega
    exact impl_HitWeight_yes P c H S P a m ca xs b cb ys B w h1 h2 hB hv rfl q1 q2 q3 q5 q6 q7 q8 q9

set_option maxRecDepth 16000 in
set_option maxHeartbeats 1600000 in
theorem spec_HitWeight_yes (P c H : Int) (S Pn : Nat) (a : Option Addr) (n ca : Nat) (xs : List Int) (b : Option Addr) (cb : Nat) (ys : List Int) (B : Nat) (w : World) (h1 : Ints w B .i64 a n xs) (h2 : Ints w B .i64 b n ys) (hB : B ≤ w.heap.size) (hv : boardB P c H S n xs n ys = true) (hP : P = Pn) (hP0 : 1 ≤ Pn) (hP24 : Pn ≤ 24) (hn : n = Pn + 1) (hc : c ≤ 15) (hS : S ≤ 6) (hx : SV P c xs) (hy : SV P c ys) (hvr : vrB P c H S = true) :
    Calls Try.prog 6 #[vrV P c H S, bdV a n ca b n cb] w fun e w' => e = .returned (hwV P c H S n xs n ys) ∧ Below w.heap.size w w' := by
  have hb0 := ((Below.refl w.heap.size w).alloc (Nat.le_refl _) (.cells #[.int .i64 P, .int .i64 c, .int .i64 H, .int .i64 S] 30)).alloc (by simp) (.cells #[.slice a n ca, .slice b n cb] 32)
  have v0' := (vr4_new w (.int .i64 P) (.int .i64 c) (.int .i64 H) (.int .i64 S) 30).alloc (.cells #[.slice a n ca, .slice b n cb] 32)
  have d0' := pr_new (w.alloc (.cells #[.int .i64 P, .int .i64 c, .int .i64 H, .int .i64 S] 30)) (.slice a n ca) (.slice b n cb) 32
  rw [World.size_alloc] at d0'
  obtain ⟨W0, hW0⟩ : ∃ W, (w.alloc (.cells #[.int .i64 P, .int .i64 c, .int .i64 H, .int .i64 S] 30)).alloc (.cells #[.slice a n ca, .slice b n cb] 32) = W := ⟨_, rfl⟩
  have zW : w.heap.size + 2 ≤ W0.heap.size := by rw [← hW0]; simp
  rw [hW0] at hb0 v0' d0'
  have HW0 := Lib.hid hW0
  have HB0 := Lib.hid hb0
  have V0 := Lib.hid v0'
  have D0 := Lib.hid d0'
  have IB := Lib.hid (spec_IsBoard_any P c H S a n ca xs b n cb ys B W0 (h1.below (hb0.mono hB)) (h2.below (hb0.mono hB)) (by omega) (by omega) (by omega))
  rw [hv] at IB
  have AR := Lib.hid (fun W => l07All_any P c H S W hvr hS)
  have HV := Lib.hid hv
  subst hP
  have AP := Lib.hid (fun (A R : Int) (W : World) (hb : Below w.heap.size w W) (q1 : 1 ≤ R) (q2 : R ≤ A) (q3 : A ≤ S) => l05All_any Pn n c H S a ca xs b cb ys A R W ((h1.below (hb.mono hB)).more (Nat.le_trans hB hb.size)) ((h2.below (hb.mono hB)).more (Nat.le_trans hB hb.size)) hP0 hP24 hn hc hx hy (by omega) (by omega) q1 (by omega))
  have hnP : Pn < n := by omega
  have hnP2 : n ≤ Pn + 1 := by omega
  have AK := Lib.hid (fun (A R : Int) (q1 : 1 ≤ R) (q2 : R ≤ A) => allF_ok (H := H) (A := A) (B := R) hP0 hP24 hx hy (by omega) q1)
  have RM := Lib.hid (fun k (hk : k < (rlA S).length) => rlA_mem (rl_mem hk))
  have RL21 := rlA_len6 hS
  obtain ⟨rl, hrl⟩ : ∃ rl, rlA S = rl := ⟨_, rfl⟩
  rw [hrl] at AR RM RL21
  have HRL := Lib.hid hrl
  obtain ⟨L, hL⟩ : ∃ L, rl.length = L := ⟨_, rfl⟩
  have HL := Lib.hid hL
  rw [hL] at RM RL21
  have KNO := Lib.hid (fun k (hk : k < L) (h : fitsF (resF (Pn : Int) H xs ys (rl.getD k (0, 0)).1 (rl.getD k (0, 0)).2) = false) => okK_no h L hk)
  have WB := Lib.hid (wtK_bd (hitF (Pn : Int) H xs ys) rl)
  have HWB := Lib.hid (fun (h : okK (Pn : Int) H xs ys rl L = false) => hwV_bad (p := Pn) (c := c) (H := H) (s := S) (n := n) (m := n) hv (by rw [Int.toNat_natCast, hrl, hL]; exact h))
  have HWY := Lib.hid (fun (h : okK (Pn : Int) H xs ys rl L = true) => hwV_yes (p := Pn) (c := c) (H := H) (s := S) (n := n) (m := n) hv (by rw [Int.toNat_natCast, hrl, hL]; exact h))
  rw [Int.toNat_natCast, hrl, hL] at HWY
  clear hv hvr h1 h2 hx hy hn hb0 v0' d0' hW0 hrl hL
  obtain ⟨v0, v1, v2, v3⟩ := vr4_cells V0.out
  obtain ⟨d0, d1⟩ := pr_cells D0.out
  go_enter Try.func6, Try.ntmps6
  go_wp2_with fail
  rw [HW0.out]
  go_wp2_with fail
  refine IB.out.mono ?_
  rintro e w1 ⟨rfl, hb1⟩
  have V1 := Lib.hid (rowIs_below V0.out hb1 V0.out.lt)
  have D1 := Lib.hid (rowIs_below D0.out hb1 D0.out.lt)
  have B1 := Lib.hid (HB0.out.trans (hb1.mono HB0.out.size))
  clear hb1 v0 v1 v2 v3 d0 d1
  obtain ⟨v0, v1, v2, v3⟩ := vr4_cells V1.out
  go_wp2_with fail
  refine (AR.out _).mono ?_
  rintro e w2 ⟨rv, rfl, hro, hb2⟩
  obtain ⟨rA, rC, hrv, hrr⟩ := hro.out
  rw [HL.out] at hrv hrr
  subst hrv
  have V2 := Lib.hid (rowIs_below V1.out hb2 V1.out.lt)
  have D2 := Lib.hid (rowIs_below D1.out hb2 D1.out.lt)
  have B2 := Lib.hid (B1.out.trans (hb2.mono B1.out.size))
  have R2 := Lib.hid hrr
  clear hro hrr hb2 v0 v1 v2 v3
  go_wp2_with fail
  go_loopw [6, 8] (fun sv ix wr => ∃ (k : Nat) (u : Int), k ≤ L ∧ ix = .int .i64 k ∧ sv = .int .i64 u ∧ Hid (wtK (hitF (Pn : Int) H xs ys) rl k = u) ∧ Hid (okK (Pn : Int) H xs ys rl k = true) ∧ Hid (RlR wr w2.heap.size rA L rl) ∧ Hid (wr.rowIs w.heap.size 30 4 (vr4 (.int .i64 Pn) (.int .i64 c) (.int .i64 H) (.int .i64 S))) ∧ Hid (wr.rowIs (w.heap.size + 1) 32 2 (pr (.slice a n ca) (.slice b n cb))) ∧ Hid (Below w.heap.size w wr) ∧ w2.heap.size ≤ wr.heap.size) (fun _ ix _ => L - (intOf ix).toNat)
  case atStart => exact ⟨0, 0, Nat.zero_le _, rfl, rfl, Lib.hid rfl, Lib.hid rfl, R2, V2, D2, B2, Nat.le_refl _⟩
  case round =>
    obtain ⟨k, u, hk, rfl, rfl, HU, HOK, HR, HVr, HDr, HB, hz⟩ := hrel
    have ub := WB.out k
    rw [HU.out] at ub
    by_cases hlt : k < L
    · obtain ⟨gr, hrA, hgr, hgrz, c0, c1⟩ := HR.out.at hlt
      subst hrA
      obtain ⟨p1, p2, p3⟩ := RM.out k hlt
      have KN := Lib.hid (KNO.out k hlt)
      have HOS := Lib.hid (show okK (Pn : Int) H xs ys rl (k + 1) = (okK (Pn : Int) H xs ys rl k && fitsF (resF (Pn : Int) H xs ys (rl.getD k (0, 0)).1 (rl.getD k (0, 0)).2)) from rfl)
      have HWS := Lib.hid (show wtK (hitF (Pn : Int) H xs ys) rl (k + 1) = if hitP (allF (Pn : Int) H xs ys (rl.getD k (0, 0)).1 (rl.getD k (0, 0)).2) = true then wtK (hitF (Pn : Int) H xs ys) rl k + wtF (rl.getD k (0, 0)) else wtK (hitF (Pn : Int) H xs ys) rl k from rfl)
      rw [HU.out] at HWS
      rw [HOK.out, Bool.true_and] at HOS
      obtain ⟨pr0, hpr⟩ : ∃ q, rl.getD k (0, 0) = q := ⟨_, rfl⟩
      rw [hpr] at c0 c1 p1 p2 p3 KN HOS HWS
      obtain ⟨A, R⟩ := pr0
      simp only at c0 c1 p1 p2 p3 KN HOS HWS
      have wb := wtF_bd (A, R)
      obtain ⟨ak1, ak2⟩ := AK.out A R p1 p2
      have AK1 := Lib.hid ak1
      have AK2 := Lib.hid ak2
      have HPR := Lib.hid hpr
      clear ak1 ak2 hpr
      have Vd := Lib.hid (show wr.drew.rowIs w.heap.size 30 4 (vr4 (.int .i64 Pn) (.int .i64 c) (.int .i64 H) (.int .i64 S)) from HVr.out)
      have Dd := Lib.hid (show wr.drew.rowIs (w.heap.size + 1) 32 2 (pr (.slice a n ca) (.slice b n cb)) from HDr.out)
      have Bd := Lib.hid (show Below w.heap.size w wr.drew from below_drewN HB.out 1)
      have Rd := Lib.hid (show RlR wr.drew w2.heap.size (some ⟨gr, 0, none⟩) L rl from HR.out.bel (below_drewN (Below.refl _ wr) 1) hz)
      have AP3 := Lib.hid (AP.out A R _ Bd.out p1 p2 p3)
      have C0 := Lib.hid c0
      have C1 := Lib.hid c1
      obtain ⟨v0, v1, v2, v3⟩ := vr4_cells HVr.out
      obtain ⟨d0, d1⟩ := pr_cells HDr.out
      have hzo : w.heap.size ≤ wr.heap.size := HB.out.size
      go_wp2_with fail
      go_region_held3 (fun w' => w'.cell? ⟨w.heap.size, 0, none⟩ = some (.int .i64 Pn) ∧ w'.cell? ⟨w.heap.size, 1, none⟩ = some (.int .i64 c) ∧ w'.cell? ⟨w.heap.size, 2, none⟩ = some (.int .i64 H) ∧ w'.cell? ⟨w.heap.size, 3, none⟩ = some (.int .i64 S) ∧ w'.cell? ⟨w.heap.size + 1, 0, none⟩ = some (.slice a n ca) ∧ w'.cell? ⟨w.heap.size + 1, 1, none⟩ = some (.slice b n cb) ∧ w'.cell? ⟨gr, k * 2, none⟩ = some (.int .i64 A) ∧ w'.cell? ⟨gr, k * 2 + 1, none⟩ = some (.int .i64 R))
        (first | go_keep)
        (first
          | (go_at_call 19; (with_reducible refine AP3.out.mono ?_); rintro e w4 ⟨v4, rfl, hpl, hb4⟩; have z4 : wr.heap.size ≤ w4.heap.size := hb4.size; have V4 := Lib.hid (rowIs_below Vd.out hb4 Vd.out.lt); have D4 := Lib.hid (rowIs_below Dd.out hb4 Dd.out.lt); have B4 := Lib.hid (Bd.out.trans (hb4.mono Bd.out.size)); have R4 := Lib.hid (Rd.out.bel hb4 hz); have PL4 := Lib.hid hpl; have y6 := (hb4.cell (p := ⟨gr, k * 2, none⟩) hgrz).trans (show wr.drew.cell? ⟨gr, k * 2, none⟩ = some (.int .i64 A) from C0.out); have y7 := (hb4.cell (p := ⟨gr, k * 2 + 1, none⟩) hgrz).trans (show wr.drew.cell? ⟨gr, k * 2 + 1, none⟩ = some (.int .i64 R) from C1.out); obtain ⟨y0, y1, y2, y3⟩ := vr4_cells V4.out; obtain ⟨y4, y5⟩ := pr_cells D4.out; clear hpl hb4))
      clear v0 v1 v2 v3 d0 d1 y0 y1 y2 y3 y4 y5 y6 y7 HVr HDr HR HB Vd Dd Bd Rd AP3
      obtain ⟨ft, hft⟩ : ∃ ft, fitsF (resF (Pn : Int) H xs ys A R) = ft := ⟨_, rfl⟩
      rw [hft] at PL4 KN HOS ⊢
      clear hft
      cases ft
      · have HE := Lib.hid (HWB.out (KN.out (by first | rfl | trivial)))
        go_wp2_with fail
        go_ret2
        exact ⟨by rw [HE.out]; rfl, B4.out⟩
      · obtain ⟨aP, cP, hvP, hPR⟩ := (PL4.out (by first | rfl | trivial)).out
        subst hvP
        have HT := Lib.hid (l22Hits_any n w4.heap.size aP _ cP _ w4 hPR (Nat.le_refl _) AK2.out AK1.out)
        obtain ⟨ht, hht⟩ : ∃ ht, hitP (allF (Pn : Int) H xs ys A R) = ht := ⟨_, rfl⟩
        rw [hht] at HT HWS
        obtain ⟨nP, hnP⟩ : ∃ nP, (allF (Pn : Int) H xs ys A R).length = nP := ⟨_, rfl⟩
        rw [hnP] at HT ⊢
        clear hPR hht hnP PL4 KN AK1 AK2
        go_wp2_with fail
        refine HT.out.mono ?_
        rintro e w5 ⟨rfl, hb5⟩
        have z5 := hb5.size
        have V5 := Lib.hid (rowIs_below V4.out hb5 V4.out.lt)
        have D5 := Lib.hid (rowIs_below D4.out hb5 D4.out.lt)
        have R5 := Lib.hid (R4.out.bel hb5 (by omega))
        have B5 := Lib.hid (B4.out.trans (hb5.mono B4.out.size))
        cases ht
        · have HU2 := Lib.hid (show wtK (hitF (Pn : Int) H xs ys) rl (k + 1) = u from HWS.out)
          clear hb5
          go_wp2_with fail
          go_roundw
          case rel => exact ⟨k + 1, u, by omega, by go_num, rfl, HU2, HOS, R5, V5, D5, B5, by omega⟩
          case measure => (simp [intOf]; try omega)
        · have HU2 := Lib.hid (show wtK (hitF (Pn : Int) H xs ys) rl (k + 1) = u + wtF (A, R) from HWS.out)
          obtain ⟨tt, htt⟩ : ∃ tt, wtF (A, R) = tt := ⟨_, rfl⟩
          rw [htt] at HU2 wb
          have WT := Lib.hid htt
          have wu : IntKind.i64.wrap (u + tt) = u + tt := IntWalk.i64_in _ (by omega)
          clear hb5 htt
          obtain ⟨gr', e', _, _, c0', c1'⟩ := R5.out.at hlt
          injection e' with e'
          injection e' with e'
          subst e'
          have c0'' : w5.cell? ⟨gr, k * 2, none⟩ = some (.int .i64 A) := c0'.trans (by rw [HPR.out])
          have c1'' : w5.cell? ⟨gr, k * 2 + 1, none⟩ = some (.int .i64 R) := c1'.trans (by rw [HPR.out])
          clear c0' c1'
          go_wp2_with fail
          refine (l07Weight_any A R _).mono ?_
          rw [WT.out]
          rintro e w6 ⟨rfl, hb6⟩
          have z6 := hb6.size
          have V6 := Lib.hid (rowIs_below V5.out hb6 V5.out.lt)
          have D6 := Lib.hid (rowIs_below D5.out hb6 D5.out.lt)
          have R6 := Lib.hid (R5.out.bel hb6 (by omega))
          have B6 := Lib.hid (B5.out.trans (hb6.mono B5.out.size))
          clear hb6
          go_wp2_with fail
          go_roundw
          case rel => exact ⟨k + 1, u + tt, by omega, by go_num, rfl, HU2, HOS, R6, V6, D6, B6, by omega⟩
          case measure => (simp [intOf]; try omega)
    · obtain rfl : k = L := by omega
      have HE := Lib.hid (HWY.out HOK.out)
      go_wp2_with fail
      go_ret2
      exact ⟨by rw [HE.out, HU.out]; rfl, HB.out⟩
theorem spec_HitWeight_any (p c H s : Int) (a : Option Addr) (n ca : Nat) (xs : List Int) (b : Option Addr) (m cb : Nat) (ys : List Int) (B : Nat) (w : World) (h1 : Ints w B .i64 a n xs) (h2 : Ints w B .i64 b m ys) (hB : B ≤ w.heap.size) (hn : n ≤ 1048576) (hm : m ≤ 1048576) :
    Calls Try.prog 6 #[vrV p c H s, bdV a n ca b m cb] w fun e w' => e = .returned (hwV p c H s n xs m ys) ∧ Below w.heap.size w w' := by
  cases hv : boardB p c H s n xs m ys
  · have HE := Lib.hid (hwV_no hv)
    have hb0 := ((Below.refl w.heap.size w).alloc (Nat.le_refl _) (.cells #[.int .i64 p, .int .i64 c, .int .i64 H, .int .i64 s] 30)).alloc (by simp) (.cells #[.slice a n ca, .slice b m cb] 32)
    have V0 := Lib.hid ((vr4_new w (.int .i64 p) (.int .i64 c) (.int .i64 H) (.int .i64 s) 30).alloc (.cells #[.slice a n ca, .slice b m cb] 32))
    have d0' := pr_new (w.alloc (.cells #[.int .i64 p, .int .i64 c, .int .i64 H, .int .i64 s] 30)) (.slice a n ca) (.slice b m cb) 32
    rw [World.size_alloc] at d0'
    have IB := Lib.hid (spec_IsBoard_any p c H s a n ca xs b m cb ys B _ (h1.below (hb0.mono hB)) (h2.below (hb0.mono hB)) (by simp; omega) hn hm)
    rw [hv] at IB
    have HB0 := Lib.hid hb0
    clear hv h1 h2 hb0
    obtain ⟨v0, v1, v2, v3⟩ := vr4_cells V0.out
    obtain ⟨d0, d1⟩ := pr_cells d0'
    clear d0'
    go_enter Try.func6, Try.ntmps6
    go_wp2_with fail
    refine IB.out.mono ?_
    rintro e w1 ⟨rfl, hb1⟩
    have B1 := Lib.hid (HB0.out.trans (hb1.mono HB0.out.size))
    clear hb1
    go_wp2_with fail
    go_ret2
    exact ⟨by rw [HE.out]; rfl, B1.out⟩
  · obtain ⟨P, S, rfl, rfl, q1, q2, q3, q4, q5, q6, q7, q8, q9⟩ := boardB_sv h1.len h2.len hv
    obtain rfl : m = n := by omega
    exact spec_HitWeight_yes P c H S P a m ca xs b cb ys B w h1 h2 hB hv rfl q1 q2 q3 q5 q6 q7 q8 q9

end Go.Proofs.Ytjfmpnkbocilpaa
