/-
  For FnHits: the draw, DancingWeight, RollTotal; boards without contact.
-/
import Derived.Test.YtjfmpnkbocilpaaDrX
import Derived.Test.YtjfmpnkbocilpaaHwH
import Derived.Test.YtjfmpnkbocilpaaFeatC
namespace Go.Proofs.Ytjfmpnkbocilpaa
open Go.ChangeShapes Go.WideShapes Go.ChangeAt Go.RowKit
set_option linter.unusedVariables false

theorem wtK_zero' {g : Int × Int → Bool} {l : List (Int × Int)} : ∀ {k : Nat}, (∀ i, i < k → g (l.getD i (0, 0)) = false) → wtK g l k = 0
  | 0, _ => rfl
  | k + 1, h => by
    unfold wtK
    rw [h k (by omega), if_neg (by simp)]
    exact wtK_zero' fun i hi => h i (by omega)
theorem lastP_ge {xs : List Int} {i : Nat} (h : 0 < xs.getD i 0) : ∀ n, i < n → (i : Int) ≤ lastP xs n
  | 0, hi => absurd hi (by omega)
  | n + 1, hi => by
    by_cases c : 0 < xs.getD n 0
    · rw [lastP_1 c]; omega
    · rw [lastP_0 c]
      by_cases e : i = n
      · subst e; exact absurd h c
      · exact lastP_ge h n (by omega)
theorem noC_of {P n m : Nat} {xs ys : List Int} (h1 : xs.length = n) (h2 : ys.length = m) (h : contB P n xs m ys = false) : noC P xs ys := by
  intro i j hi hj
  have hc : ¬ (P : Int) ≤ lastP xs n + lastP ys m := of_decide_eq_false h
  have li : i < n := by
    rcases Nat.lt_or_ge i n with q | q
    · exact q
    · rw [List.getD_eq_getElem?_getD, List.getElem?_eq_none (by omega)] at hi
      exact absurd hi (by simp)
  have lj : j < m := by
    rcases Nat.lt_or_ge j m with q | q
    · exact q
    · rw [List.getD_eq_getElem?_getD, List.getElem?_eq_none (by omega)] at hj
      exact absurd hj (by simp)
  have a := lastP_ge hi n li
  have b := lastP_ge hj m lj
  omega
theorem hits_zero {P n m S : Nat} {H c : Int} {xs ys : List Int} (hP : 1 ≤ P) (h1 : xs.length = n) (h2 : ys.length = m) (hx : SV P c xs) (h : contB P n xs m ys = false) : wtK (hitF P H xs ys) (rlA S) (rlA S).length = 0 := by
  refine wtK_zero' fun i hi => ?_
  obtain ⟨a, b, _⟩ := rlA_mem (rl_mem hi)
  obtain ⟨q, hq⟩ : ∃ q, (rlA S).getD i (0, 0) = q := ⟨_, rfl⟩
  rw [hq] at a b ⊢
  obtain ⟨A, R⟩ := q
  simp only at a b
  exact hit_none (P := (P : Int)) (c := c) (by omega) (by omega) (by omega) hx (noC_of h1 h2 h)
set_option maxRecDepth 16000 in
set_option maxHeartbeats 1600000 in
theorem DrawHitWeight_any (a : Option Addr) (n cc : Nat) (xs : List Int) (w : World) (h : IntsArg w .u8 a n xs) (hn : n ≤ 4096) :
    Calls Try.prog 12 #[.slice a n cc] w fun e w' => DvPost w e w' := by
  have hb0 := (((Below.refl w.heap.size w).alloc (Nat.le_refl _) (.cells #[.int .i64 0, .int .i64 0, .int .i64 0, .int .i64 0] 30)).alloc (by simp) (.cells #[.slice none 0 0, .slice none 0 0] 32))
  have R0 := Lib.hid ((vr4_new w (.int .i64 0) (.int .i64 0) (.int .i64 0) (.int .i64 0) 30).alloc (.cells #[.slice none 0 0, .slice none 0 0] 32))
  have Q0 := Lib.hid (pr_new (w.alloc (.cells #[.int .i64 0, .int .i64 0, .int .i64 0, .int .i64 0] 30)) (.slice none 0 0) (.slice none 0 0) 32)
  rw [World.size_alloc] at Q0
  obtain ⟨W0, hW0⟩ : ∃ W, (w.alloc (.cells #[.int .i64 0, .int .i64 0, .int .i64 0, .int .i64 0] 30)).alloc (.cells #[.slice none 0 0, .slice none 0 0] 32) = W := ⟨_, rfl⟩
  have zW : W0.heap.size = w.heap.size + 1 + 1 := by rw [← hW0]; simp
  have h2 : IntsArg W0 .u8 a n xs := by rw [← hW0]; exact ⟨(h.1.below hb0).more hb0.size, h.2.1, h.2.2⟩
  rw [hW0] at R0 Q0 hb0
  have HB0 := Lib.hid hb0
  have FR := Lib.hid (from_dr a n cc xs W0 h2 hn)
  have HW0 := Lib.hid hW0
  have zw1 : w.heap.size + 1 < W0.heap.size := by omega
  have n1 : w.heap.size ≠ w.heap.size + 1 := by omega
  clear h h2 hb0 hW0 zW
  go_enter Try.func12, Try.ntmps12
  go_wp2_with fail
  rw [HW0.out]
  refine FR.out.mono ?_
  rintro e w1 ⟨rfl, hd1⟩
  have R1 := Lib.hid (rowIs_below R0.out hd1.below R0.out.lt)
  have Q1 := Lib.hid (rowIs_below Q0.out hd1.below Q0.out.lt)
  have D1 := Lib.hid hd1
  have z1 := hd1.below.size
  clear hd1
  go_wp2_with fail
  refine (l22Draw_dr W0 W0.heap.size a n cc xs w1 D1.out).mono ?_
  rintro e w2 ⟨p, c, h, s, A, m, d, ys, B, q, f, zs, rfl, hm, hq, hA, hB, hd2, hg2⟩
  have R2 := Lib.hid (R1.out.of_block (hg2.block _ R1.out.lt (fun e => by injection e with e; omega)))
  have Q2 := Lib.hid (Q1.out.of_block (hg2.block _ Q1.out.lt (fun e => by injection e with e; omega)))
  have z2 := hg2.size
  have B2 := Lib.hid (HB0.out.trans (hd2.below.mono (by omega)))
  have HA := Lib.hid hA
  have HBB := Lib.hid hB
  clear hA hB hd2 hg2 R1 Q1
  obtain ⟨r0, r1, r2, r3⟩ := vr4_cells R2.out
  obtain ⟨fr0, fr1, fr2, fr3⟩ := vr4_froz R2.out
  obtain ⟨q0, q1⟩ := pr_cells Q2.out
  obtain ⟨fq0, fq1⟩ := pr_froz Q2.out
  go_wp2
  obtain ⟨⟨p0, p1, p2, p3⟩, p4, p5⟩ := six_cells (w := w2) R2.out Q2.out n1 (.int .i64 p) (.int .i64 c) (.int .i64 h) (.int .i64 s) (.slice A m d) (.slice B q f)
  have tw := six_tw w.heap.size (w.heap.size + 1) w2 (.int .i64 p) (.int .i64 c) (.int .i64 h) (.int .i64 s) (.slice A m d) (.slice B q f)
  refine bodyPost_ret (v := .tuple #[vrV p c h s, bdV A m d B q f]) (by simp [results, Try.results12, go_sem, p0, p1, p2, p3, p4, p5]) rfl ⟨p, c, h, s, A, m, d, ys, B, q, f, zs, rfl, hm, hq, (HA.out.far2 tw (by omega) (by omega)).1, (HBB.out.far2 tw (by omega) (by omega)).1, B2.out.trans (tw.below (Nat.le_refl _) (by omega))⟩
theorem RollTotal_any (P c H : Int) (S : Nat) (w : World) (hv : vrB P c H S = true) (hS : S ≤ 6) : Calls Try.prog 14 #[vrV P c H S] w fun e w' => e = .returned (.int .i64 ((S : Int) * S)) ∧ Below w.heap.size w w' := by
  have HB0 := Lib.hid ((Below.refl w.heap.size w).alloc (Nat.le_refl _) (.cells #[.int .i64 P, .int .i64 c, .int .i64 H, .int .i64 S] 30))
  have V0 := Lib.hid (vr4_new w (.int .i64 P) (.int .i64 c) (.int .i64 H) (.int .i64 S) 30)
  have HI := Lib.hid (impl_IsVariant_any P c H S (w.alloc (.cells #[.int .i64 P, .int .i64 c, .int .i64 H, .int .i64 S] 30)))
  rw [hv] at HI
  have b1 : (S : Int) * S ≤ 6 * 6 := Int.mul_le_mul (by omega) (by omega) (by omega) (by omega)
  have b0 : 0 ≤ (S : Int) * S := Int.mul_nonneg (by omega) (by omega)
  have ws : IntKind.i64.wrap ((S : Int) * S) = (S : Int) * S := IntWalk.i64_in _ (by omega)
  clear hv b0 b1
  obtain ⟨v0, v1, v2, v3⟩ := vr4_cells V0.out
  go_enter Try.func14, Try.ntmps14
  go_wp2_with fail
  refine HI.out.mono ?_
  rintro e w1 ⟨rfl, hb1⟩
  have V1 := Lib.hid (rowIs_below V0.out hb1 V0.out.lt)
  have B1 := Lib.hid (HB0.out.trans (hb1.mono HB0.out.size))
  clear hb1 v0 v1 v2 v3
  obtain ⟨v0, v1, v2, v3⟩ := vr4_cells V1.out
  go_wp2_with fail
  go_ret
  exact ⟨rfl, B1.out⟩
set_option maxRecDepth 16000 in
set_option maxHeartbeats 3200000 in
theorem DancingWeight_yes (P c H : Int) (S Pn : Nat) (a : Option Addr) (n ca : Nat) (xs : List Int) (b : Option Addr) (cb : Nat) (ys : List Int) (B : Nat) (w : World) (h1 : Ints w B .i64 a n xs) (h2 : Ints w B .i64 b n ys) (hB : B ≤ w.heap.size) (hv : boardB P c H S n xs n ys = true) (hP : P = Pn) (hP0 : 1 ≤ Pn) (hP24 : Pn ≤ 24) (hn : n = Pn + 1) (hc : c ≤ 15) (hS : S ≤ 6) (hx : SV P c xs) (hy : SV P c ys) (hvr : vrB P c H S = true) :
    Calls Try.prog 13 #[vrV P c H S, bdV a n ca b n cb] w fun e w' => e = .returned (.tuple #[.int .i64 (wtK (dncF P H xs ys) (rlA S) (rlA S).length), .int .i64 0]) ∧ Below w.heap.size w w' := by
  have hb0 := ((Below.refl w.heap.size w).alloc (Nat.le_refl _) (.cells #[.int .i64 P, .int .i64 c, .int .i64 H, .int .i64 S] 30)).alloc (by simp) (.cells #[.slice a n ca, .slice b n cb] 32)
  have v0' := (vr4_new w (.int .i64 P) (.int .i64 c) (.int .i64 H) (.int .i64 S) 30).alloc (.cells #[.slice a n ca, .slice b n cb] 32)
  have d0' := pr_new (w.alloc (.cells #[.int .i64 P, .int .i64 c, .int .i64 H, .int .i64 S] 30)) (.slice a n ca) (.slice b n cb) 32
  rw [World.size_alloc] at d0'
  obtain ⟨W0, hW0⟩ : ∃ W, (w.alloc (.cells #[.int .i64 P, .int .i64 c, .int .i64 H, .int .i64 S] 30)).alloc (.cells #[.slice a n ca, .slice b n cb] 32) = W := ⟨_, rfl⟩
  have zW : w.heap.size + 2 ≤ W0.heap.size := by rw [← hW0]; simp
  rw [hW0] at hb0 v0' d0'
  have HW0 := Lib.hid hW0
  have HB0 := Lib.hid hb0
  have V0 := Lib.hid v0'
  have D0 := Lib.hid d0'
  have IB := Lib.hid (impl_IsBoard_any P c H S a n ca xs b n cb ys B W0 (h1.below (hb0.mono hB)) (h2.below (hb0.mono hB)) (by omega) (by omega) (by omega))
  rw [hv] at IB
  have AR := Lib.hid (fun W => AllRolls_any P c H S W hvr hS)
  subst hP
  have LG := Lib.hid (fun (A : Int) (W : World) (hb : Below w.heap.size w W) (q1 : 1 ≤ A) (q2 : A ≤ 6) => legalSteps_any Pn c H S a n ca xs b n cb ys A B W (h1.below (hb.mono hB)) (h2.below (hb.mono hB)) (Nat.le_trans hB hb.size) hP0 hP24 hn hn q1 q2 (sv_bd hx hc h1.len) (sv_bd hy hc h2.len))
  have RW := Lib.hid (fun (A R : Int) (W : World) (q1 : 1 ≤ R) (q2 : R ≤ A) (q3 : A ≤ S) => RollWeight_any Pn c H S A R W hvr q1 q2 q3)
  have RM := Lib.hid (fun k (hk : k < (rlA S).length) => rlA_mem (rl_mem hk))
  have RL21 := rlA_len6 hS
  obtain ⟨rl, hrl⟩ : ∃ rl, rlA S = rl := ⟨_, rfl⟩
  rw [hrl] at AR RM RL21
  have HRL := Lib.hid hrl
  obtain ⟨L, hL⟩ : ∃ L, rl.length = L := ⟨_, rfl⟩
  have HL := Lib.hid hL
  rw [hL] at RM RL21
  have WB := Lib.hid (wtK_bd (dncF (Pn : Int) H xs ys) rl)
  clear hv hvr h1 h2 hx hy hn hb0 v0' d0' hW0 hrl hL
  obtain ⟨v0, v1, v2, v3⟩ := vr4_cells V0.out
  obtain ⟨d0, d1⟩ := pr_cells D0.out
  go_enter Try.func13, Try.ntmps13
  go_wp2_with fail
  rw [HW0.out]
  go_wp2_with fail
  refine IB.out.mono ?_
  rintro e w1 ⟨rfl, hb1⟩
  have V1 := Lib.hid (rowIs_below V0.out hb1 V0.out.lt)
  have D1 := Lib.hid (rowIs_below D0.out hb1 D0.out.lt)
  have B1 := Lib.hid (HB0.out.trans (hb1.mono HB0.out.size))
  clear hb1 v0 v1 v2 v3 d0 d1
  obtain ⟨v0, v1, v2, v3⟩ := vr4_cells V1.out
  go_wp2_with fail
  refine (AR.out _).mono ?_
  rintro e w2 ⟨rv, rfl, hro, hb2⟩
  obtain ⟨rA, rC, hrv, hrr⟩ := hro.out
  rw [HL.out] at hrv hrr
  subst hrv
  have V2 := Lib.hid (rowIs_below V1.out hb2 V1.out.lt)
  have D2 := Lib.hid (rowIs_below D1.out hb2 D1.out.lt)
  have B2 := Lib.hid (B1.out.trans (hb2.mono B1.out.size))
  have R2 := Lib.hid hrr
  clear hro hrr hb2 v0 v1 v2 v3
  go_wp2_with fail
  go_loopw [6, 16] (fun sv ix wr => ∃ (k : Nat) (u : Int), k ≤ L ∧ ix = .int .i64 k ∧ sv = .int .i64 u ∧ Hid (wtK (dncF (Pn : Int) H xs ys) rl k = u) ∧ Hid (RlR wr w2.heap.size rA L rl) ∧ Hid (wr.rowIs w.heap.size 30 4 (vr4 (.int .i64 Pn) (.int .i64 c) (.int .i64 H) (.int .i64 S))) ∧ Hid (wr.rowIs (w.heap.size + 1) 32 2 (pr (.slice a n ca) (.slice b n cb))) ∧ Hid (Below w.heap.size w wr) ∧ w2.heap.size ≤ wr.heap.size) (fun _ ix _ => L - (intOf ix).toNat)
  case atStart => exact ⟨0, 0, Nat.zero_le _, rfl, rfl, Lib.hid rfl, R2, V2, D2, B2, Nat.le_refl _⟩
  case round =>
    obtain ⟨k, u, hk, rfl, rfl, HU, HR, HVr, HDr, HB, hz⟩ := hrel
    have ub := WB.out k
    rw [HU.out] at ub
    by_cases hlt : k < L
    · obtain ⟨gr, hrA, hgr, hgrz, c0, c1⟩ := HR.out.at hlt
      subst hrA
      obtain ⟨p1, p2, p3⟩ := RM.out k hlt
      have HWS := Lib.hid (show wtK (dncF (Pn : Int) H xs ys) rl (k + 1) = if ((lgF (Pn : Int) H xs ys (rl.getD k (0, 0)).1).isEmpty && (lgF (Pn : Int) H xs ys (rl.getD k (0, 0)).2).isEmpty) = true then wtK (dncF (Pn : Int) H xs ys) rl k + wtF (rl.getD k (0, 0)) else wtK (dncF (Pn : Int) H xs ys) rl k from rfl)
      rw [HU.out] at HWS
      obtain ⟨pr0, hpr⟩ : ∃ q, rl.getD k (0, 0) = q := ⟨_, rfl⟩
      rw [hpr] at c0 c1 p1 p2 p3 HWS
      obtain ⟨A, R⟩ := pr0
      simp only at c0 c1 p1 p2 p3 HWS
      have wb := wtF_bd (A, R)
      have ba := HB.out.alloc HB.out.size (.cells #[.int .i64 A, .int .i64 R] 49)
      have V3 := Lib.hid (HVr.out.alloc (.cells #[.int .i64 A, .int .i64 R] 49))
      have D3 := Lib.hid (HDr.out.alloc (.cells #[.int .i64 A, .int .i64 R] 49))
      have B3 := Lib.hid ba
      have Q3 := Lib.hid (pr_new wr (.int .i64 A) (.int .i64 R) 49)
      have R3 := Lib.hid (HR.out.bel ((Below.refl wr.heap.size wr).alloc (Nat.le_refl _) (.cells #[.int .i64 A, .int .i64 R] 49)) hz)
      have AP3 := Lib.hid (LG.out A _ ba (by omega) (by omega))
      have LGR := Lib.hid (fun (W : World) (hb : Below w.heap.size w W) => LG.out R W hb p1 (by omega))
      have hzo : w.heap.size ≤ wr.heap.size := HB.out.size
      obtain ⟨l1, hl1⟩ : ∃ l, lgF (Pn : Int) H xs ys A = l := ⟨_, rfl⟩
      obtain ⟨l2, hl2⟩ : ∃ l, lgF (Pn : Int) H xs ys R = l := ⟨_, rfl⟩
      rw [hl1] at AP3 HWS
      rw [hl2] at LGR HWS
      clear ba HVr HDr HR HB hpr hl1 hl2
      obtain ⟨v0, v1, v2, v3⟩ := vr4_cells V3.out
      obtain ⟨d0, d1⟩ := pr_cells D3.out
      obtain ⟨q0, q1⟩ := pr_cells Q3.out
      go_wp2_with fail
      refine AP3.out.mono ?_
      rintro e w4 ⟨v4, rfl, hpl, hb4⟩
      obtain ⟨a4, c4, hv4, _⟩ := hpl.out
      subst hv4
      have z4 := hb4.size
      simp only [World.size_alloc] at z4
      have V4 := Lib.hid (rowIs_below V3.out hb4 V3.out.lt)
      have D4 := Lib.hid (rowIs_below D3.out hb4 D3.out.lt)
      have Q4 := Lib.hid (rowIs_below Q3.out hb4 Q3.out.lt)
      have R4 := Lib.hid (R3.out.bel hb4 (by simp; omega))
      have B4 := Lib.hid (B3.out.trans (hb4.mono B3.out.size))
      clear hpl hb4 v0 v1 v2 v3 d0 d1 q0 q1 V3 D3 Q3 R3 B3 AP3
      obtain ⟨m1, hm1⟩ : ∃ m, l1.length = m := ⟨_, rfl⟩
      rw [hm1]
      by_cases e1 : m1 = 0
      · have hq : ((m1 : Int) == 0) = true := by rw [e1]; rfl
        have E1 := Lib.hid (show l1.isEmpty = true by rw [List.eq_nil_of_length_eq_zero (hm1.trans e1)]; rfl)
        clear e1 hm1
        obtain ⟨v0, v1, v2, v3⟩ := vr4_cells V4.out
        obtain ⟨d0, d1⟩ := pr_cells D4.out
        obtain ⟨q0, q1⟩ := pr_cells Q4.out
        go_wp2_with fail
        refine (LGR.out _ B4.out).mono ?_
        rintro e w5 ⟨v5, rfl, hpl, hb5⟩
        obtain ⟨a5, c5, hv5, _⟩ := hpl.out
        subst hv5
        have z5 := hb5.size
        have V5 := Lib.hid (rowIs_below V4.out hb5 V4.out.lt)
        have D5 := Lib.hid (rowIs_below D4.out hb5 D4.out.lt)
        have Q5 := Lib.hid (rowIs_below Q4.out hb5 Q4.out.lt)
        have R5 := Lib.hid (R4.out.bel hb5 (by omega))
        have B5 := Lib.hid (B4.out.trans (hb5.mono B4.out.size))
        clear hpl hb5 v0 v1 v2 v3 d0 d1 q0 q1 V4 D4 Q4 R4 B4
        obtain ⟨m2, hm2⟩ : ∃ m, l2.length = m := ⟨_, rfl⟩
        rw [hm2]
        by_cases e2 : m2 = 0
        · have hq2 : ((m2 : Int) == 0) = true := by rw [e2]; rfl
          have E2 := Lib.hid (show l2.isEmpty = true by rw [List.eq_nil_of_length_eq_zero (hm2.trans e2)]; rfl)
          obtain ⟨tt, htt⟩ : ∃ tt, wtF (A, R) = tt := ⟨_, rfl⟩
          have HU2 := Lib.hid (show wtK (dncF (Pn : Int) H xs ys) rl (k + 1) = u + tt by rw [HWS.out, E1.out, E2.out, htt]; rfl)
          rw [htt] at wb
          have WT := Lib.hid htt
          have wu : IntKind.i64.wrap (u + tt) = u + tt := IntWalk.i64_in _ (by omega)
          clear e2 hm2 htt
          obtain ⟨v0, v1, v2, v3⟩ := vr4_cells V5.out
          obtain ⟨q0, q1⟩ := pr_cells Q5.out
          go_wp2_with fail
          refine (RW.out A R _ p1 p2 p3).mono ?_
          rw [WT.out]
          rintro e w6 ⟨rfl, hb6⟩
          have z6 := hb6.size
          have V6 := Lib.hid (rowIs_below V5.out hb6 V5.out.lt)
          have D6 := Lib.hid (rowIs_below D5.out hb6 D5.out.lt)
          have R6 := Lib.hid (R5.out.bel hb6 (by omega))
          have B6 := Lib.hid (B5.out.trans (hb6.mono B5.out.size))
          clear hb6
          go_wp2_with fail
          go_roundw
          case rel => exact ⟨k + 1, u + tt, by omega, by go_num, rfl, HU2, R6, V6, D6, B6, by omega⟩
          case measure => (simp [intOf]; try omega)
        · have hq2 : ((m2 : Int) == 0) = false := by rw [beq_eq_false_iff_ne]; omega
          have hq3 : ¬ (m2 : Int) = 0 := by omega
          have E2 := Lib.hid (show l2.isEmpty = false by cases l2 with
            | nil => exact absurd hm2.symm e2
            | cons _ _ => rfl)
          have HU2 := Lib.hid (show wtK (dncF (Pn : Int) H xs ys) rl (k + 1) = u by rw [HWS.out, E1.out, E2.out]; rfl)
          clear e2 hm2
          go_wp2_with fail
          go_roundw
          case rel => exact ⟨k + 1, u, by omega, by go_num, rfl, HU2, R5, V5, D5, B5, by omega⟩
          case measure => (simp [intOf]; try omega)
      · have hq : ((m1 : Int) == 0) = false := by rw [beq_eq_false_iff_ne]; omega
        have hq3 : ¬ (m1 : Int) = 0 := by omega
        have E1 := Lib.hid (show l1.isEmpty = false by cases l1 with
          | nil => exact absurd hm1.symm e1
          | cons _ _ => rfl)
        have HU2 := Lib.hid (show wtK (dncF (Pn : Int) H xs ys) rl (k + 1) = u by rw [HWS.out, E1.out]; rfl)
        clear e1 hm1
        go_wp2_with fail
        go_roundw
        case rel => exact ⟨k + 1, u, by omega, by go_num, rfl, HU2, R4, V4, D4, B4, by omega⟩
        case measure => (simp [intOf]; try omega)
    · obtain rfl : k = L := by omega
      go_wp2_with fail
      go_ret2
      exact ⟨by rw [HRL.out, HL.out, HU.out]; rfl, HB.out⟩
end Go.Proofs.Ytjfmpnkbocilpaa
