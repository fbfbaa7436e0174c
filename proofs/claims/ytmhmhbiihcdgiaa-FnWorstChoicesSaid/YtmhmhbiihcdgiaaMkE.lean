/-
  spec.MakeExact at small numbers: the walk.
-/
import Derived.Test.YtmhmhbiihcdgiaaEx
import Derived.Test.YtmhmhbiihcdgiaaGcd
import Derived.Lib.MinMax
namespace Go.Proofs.Ytmhmhbiihcdgiaa
open Go.ChangeShapes Go.WideShapes Go.ChangeAt Go.RowKit
set_option linter.unusedVariables false
theorem l09Gcd_any (a b : Int) (w : World) (ha : -1000 ≤ a) (ha2 : a ≤ 1000) (hb : 1 ≤ b) (hb2 : b ≤ 1000000000000000) :
    Calls Try.prog 50 #[.int .i64 a, .int .i64 b] w fun e w' => (∃ d : Int, e = .returned (.int .i64 d) ∧ 1 ≤ d ∧ d ∣ b) ∧ w = w' := by
  obtain ⟨A, hA⟩ : ∃ A, max a (-a) = A := ⟨_, rfl⟩
  have hA0 : 0 ≤ A := by rw [← hA]; omega
  have hB : max b (-b) = b := by omega
  have e1 : IntKind.i64.wrap (-a) = -a := IntWalk.i64_in _ (by omega)
  have e2 : IntKind.i64.wrap (-b) = -b := IntWalk.i64_in _ (by omega)
  have HD := Lib.hid (show 1 ≤ (Int.gcd A b : Int) ∧ (Int.gcd A b : Int) ∣ b from ⟨by
    have : 0 < Int.gcd A b := Int.gcd_pos_of_ne_zero_right A (by omega)
    omega, Int.gcd_dvd_right _ _⟩)
  go_enter Try.func50, Try.ntmps50
  go_wp2_with fail
  go_loop [0, 1] (fun p q => ∃ (x y : Int), p = .int .i64 x ∧ q = .int .i64 y ∧ 0 ≤ x ∧ 0 ≤ y ∧ Hid (Int.gcd x y = Int.gcd A b)) (fun _ q => (intOf q).toNat)
  case atStart => exact ⟨A, b, rfl, rfl, hA0, by omega, rfl⟩
  case round =>
    clear hA hB e1 e2
    obtain ⟨x, y, rfl, rfl, hx, hy, hg⟩ := hrel
    by_cases h0 : 0 < y
    · have HG := Lib.hid ((gcd_step hx h0).trans hg.out)
      have e1 := Int.emod_nonneg x (show y ≠ 0 by omega)
      have e2 := Int.emod_lt_of_pos x h0
      have e3 : (y != 0) = true := by rw [bne_iff_ne]; omega
      go_wp2
      go_round
      case rel => exact ⟨y, x % y, rfl, rfl, by omega, e1, HG⟩
      case measure => simp [intOf]; omega
    · obtain rfl : y = 0 := by omega
      have HG := Lib.hid (hg.out ▸ gcd_zero hx)
      go_wp2
      go_ret
      exact ⟨⟨_, rfl, by rw [← HG.out]; exact HD.out.1, by rw [← HG.out]; exact HD.out.2⟩, rfl⟩
def TmP (e : Ending) : Prop := ∃ (x : Int) (ok : Bool), e = .returned (.tuple #[.int .i64 x, .bool ok]) ∧ -1000000000000000000 ≤ x ∧ x ≤ 1000000000000000000
theorem l09Times_any (a b : Int) (w : World) (ha : -1000 ≤ a) (ha2 : a ≤ 1000) (hb : 0 ≤ b) (hb2 : b ≤ 1000000000000000) :
    Calls Try.prog 51 #[.int .i64 a, .int .i64 b] w fun e w' => TmP e ∧ w = w' := by
  have m0 : a * b ≤ 1000 * b := Int.mul_le_mul_of_nonneg_right ha2 hb
  have m1 : -1000 * b ≤ a * b := Int.mul_le_mul_of_nonneg_right ha hb
  have e1 : IntKind.i64.wrap (-a) = -a := IntWalk.i64_in _ (by omega)
  have e2 : IntKind.i64.wrap (-b) = -b := IntWalk.i64_in _ (by omega)
  obtain ⟨A, hA⟩ : ∃ A, max a (-a) = A := ⟨_, rfl⟩
  have hB : max b (-b) = b := by omega
  obtain ⟨p, hp⟩ : ∃ p, a * b = p := ⟨_, rfl⟩
  rw [hp] at m0 m1
  have e3 : IntKind.i64.wrap p = p := IntWalk.i64_in _ (by omega)
  obtain ⟨q, hq⟩ : ∃ q, (1000000000000000000 : Int).tdiv b = q := ⟨_, rfl⟩
  by_cases ha0 : a = 0
  · subst ha0
    have hp0 : p = 0 := by rw [← hp, Int.zero_mul]
    go_enter Try.func51, Try.ntmps51
    go_wp2_with fail
    go_ret2
    exact ⟨⟨_, _, rfl, by omega, by omega⟩, rfl⟩
  by_cases hb0 : b = 0
  · subst hb0
    have hp0 : p = 0 := by rw [← hp, Int.mul_zero]
    have ha1 : (a != 0) = true := by rw [bne_iff_ne]; exact ha0
    go_enter Try.func51, Try.ntmps51
    go_wp2_with fail
    go_ret2
    exact ⟨⟨_, _, rfl, by omega, by omega⟩, rfl⟩
  have ha1 : (a != 0) = true := by rw [bne_iff_ne]; exact ha0
  have hb1 : (b != 0) = true := by rw [bne_iff_ne]; exact hb0
  have q0 : 0 ≤ q ∧ q ≤ 1000000000000000000 := by
    rw [← hq, Int.tdiv_eq_ediv_of_nonneg (by omega)]
    exact ⟨Int.ediv_nonneg (by omega) hb, Int.ediv_le_self _ (by omega)⟩
  have e4 : IntKind.i64.wrap ((1000000000000000000 : Int).tdiv b) = q := by rw [hq]; exact IntWalk.i64_in _ (by omega)
  have h1 := m0
  have h2 := m1
  clear hq
  by_cases hl : q < A
  · have hd : decide (q < A) = true := decide_eq_true hl
    go_enter Try.func51, Try.ntmps51
    go_wp2_with fail
    go_ret2
    exact ⟨⟨_, _, rfl, by omega, by omega⟩, rfl⟩
  · have hd : decide (q < A) = false := decide_eq_false hl
    go_enter Try.func51, Try.ntmps51
    go_wp2_with fail
    go_ret2
    exact ⟨⟨_, _, rfl, by omega, by omega⟩, rfl⟩
def FitP (w : World) (e : Ending) (w' : World) : Prop := ∃ (num dep : Int) (ok : Bool), e = .returned (.tuple #[exV num dep, .bool ok]) ∧ 0 ≤ dep ∧ dep ≤ 100 ∧ Below w.heap.size w w'
theorem pw_dvd {B : Int} {j k : Nat} (h : j ≤ k) : pw B j ∣ pw B k := by
  obtain ⟨i, rfl⟩ : ∃ i, k = j + i := ⟨k - j, by omega⟩
  clear h
  induction i with
  | zero => exact Int.dvd_refl _
  | succ i ih => rw [← Nat.add_assoc, pw_succ]; exact Int.dvd_trans ih ⟨B, rfl⟩
set_option maxHeartbeats 1600000 in
theorem l09Fit_any (p c h s a b : Int) (D : Nat) (w : World) (s1 : 1 ≤ s) (s6 : s ≤ 6) (ha : -1000 ≤ a) (ha2 : a ≤ 1000) (hD : D ≤ 60) (hsc : scV s (D : Int) = (b, true)) (hb : 1 ≤ b) (hb2 : b ≤ 1000000000000000) :
    Calls Try.prog 44 #[vrV p c h s, .int .i64 a, .int .i64 b] w fun e w' => FitP w e w' := by
  have HB0 := Lib.hid (((Below.refl w.heap.size w).alloc (Nat.le_refl _) (.cells #[.int .i64 p, .int .i64 c, .int .i64 h, .int .i64 s] 29)).alloc (by simp) (.cells #[.int .i64 0, .int .i64 0] 45))
  have R0 := Lib.hid ((q4_new w (.int .i64 p) (.int .i64 c) (.int .i64 h) (.int .i64 s) 29).alloc (.cells #[.int .i64 0, .int .i64 0] 45))
  have X0 := Lib.hid (two_new (w.alloc (.cells #[.int .i64 p, .int .i64 c, .int .i64 h, .int .i64 s] 29)) 0 0 45)
  simp only [World.size_alloc] at X0
  have GC := Lib.hid (fun W => l09Gcd_any a b W ha ha2 hb hb2)
  have SC := Lib.hid (fun (k : Nat) (hk : k ≤ 60) W => l09Scale_any p c h s (k : Int) W s1 s6 (by omega) (by omega))
  unfold scP at SC
  have TM := Lib.hid l09Times_any
  have HSC := Lib.hid hsc
  clear hsc
  go_enter Try.func44, Try.ntmps44
  go_wp2_with fail
  refine (GC.out _).mono ?_
  rintro e w1 ⟨⟨d, rfl, d1, d2⟩, rfl⟩
  obtain ⟨b', hb'⟩ := d2
  have hb1 : 1 ≤ b' := by
    rcases Int.lt_or_le b' 1 with h0 | h0
    · have : d * b' ≤ 0 := Int.mul_nonpos_of_nonneg_of_nonpos (by omega) (by omega)
      omega
    · exact h0
  have hbb : b' ≤ b := by
    rw [hb']
    have := Int.mul_le_mul_of_nonneg_right d1 (show 0 ≤ b' by omega)
    omega
  have e1 : b.tdiv d = b' := by rw [hb', Int.mul_tdiv_cancel_left _ (by omega)]
  have e2 : IntKind.i64.wrap (b.tdiv d) = b' := by rw [e1]; exact IntWalk.i64_in _ (by omega)
  obtain ⟨a', hae⟩ : ∃ a', a.tdiv d = a' := ⟨_, rfl⟩
  have ha' : -1000 ≤ a' ∧ a' ≤ 1000 := by
    have h1 := Int.natAbs_tdiv_le_natAbs a d
    omega
  have e3 : IntKind.i64.wrap (a.tdiv d) = a' := by rw [hae]; exact IntWalk.i64_in _ (by omega)
  have hd0 : ¬ d = 0 := by omega
  have HDV := Lib.hid (show b' ∣ b from ⟨d, by rw [hb', Int.mul_comm]⟩)
  clear e1 hae hb' GC
  go_wp2_with fail
  go_loopw [9] (fun kv wr => ∃ k : Nat, kv = .int .i64 k ∧ k ≤ D ∧ Hid (wr.rowIs w.heap.size 29 4 (q4 (.int .i64 p) (.int .i64 c) (.int .i64 h) (.int .i64 s))) ∧ Hid (wr.rowIs (w.heap.size + 1) 45 2 (two 0 0)) ∧ Hid (Below w.heap.size w wr)) (fun k _ => D - (intOf k).toNat)
  case atStart => exact ⟨0, rfl, Nat.zero_le _, R0, X0, HB0⟩
  case round =>
    clear e2 e3
    obtain ⟨k, rfl, hk, HR, HX, HB⟩ := hrel
    obtain ⟨r0, r1, r2, r3⟩ := q4_cells HR.out
    obtain ⟨sc, ok, hs⟩ : ∃ sc ok, scV s (k : Int) = (sc, ok) := ⟨_, _, rfl⟩
    have SK := Lib.hid (SC.out k (by omega))
    rw [hs] at SK
    have hscb : ok = true → 0 ≤ sc ∧ sc ≤ 1000000000000000 := by
      intro e
      subst e
      unfold scV at hs
      split at hs
      · injection hs with h1 h2; omega
      · split at hs
        · rename_i h1 h2
          injection hs with h3 _
          have := pw_pos (sq_bd s1 s6).1 (k : Int).toNat
          omega
        · injection hs with h1 h2; cases h2
    have hlast : k = D → sc = b ∧ ok = true := by
      intro e
      subst e
      rw [HSC.out] at hs
      injection hs with h1 h2
      exact ⟨h1.symm, h2.symm⟩
    clear hs
    go_wp2_with fail
    refine (SK.out _).mono ?_
    rintro e w2 ⟨rfl, hb⟩
    have HR2 := Lib.hid (rowIs_below HR.out hb HR.out.lt)
    have HX2 := Lib.hid (rowIs_below HX.out hb HX.out.lt)
    have HB2 := Lib.hid (HB.out.trans (hb.mono HB.out.size))
    clear hb r0 r1 r2 r3 SK
    obtain ⟨x0, x1, f0, f1⟩ := two_cells HX2.out
    cases ok
    · have hkD : k ≠ D := fun e => by have := (hlast e).2; cases this
      go_wp2_with fail
      obtain ⟨z0, z1, _, _⟩ := two_cells (two_set HX2.out 0 0)
      exact bodyPost_ret (v := .tuple #[exV 0 0, .bool false]) (by simp [results, Try.results44, go_sem, z0, z1]) rfl ⟨0, 0, false, rfl, by omega, by omega, (HB2.out.setCell (by simp) _).setCell (by simp) _⟩
    · obtain ⟨c1, c2⟩ := hscb rfl
      have hb0 : ¬ b' = 0 := by omega
      by_cases hm : sc.tmod b' = 0
      · obtain ⟨q, hq⟩ : ∃ q, sc.tdiv b' = q := ⟨_, rfl⟩
        have q0 : 0 ≤ q ∧ q ≤ 1000000000000000 := by
          rw [← hq, Int.tdiv_eq_ediv_of_nonneg c1]
          have := Int.ediv_le_self b' c1
          exact ⟨Int.ediv_nonneg c1 (by omega), by omega⟩
        have e2 : IntKind.i64.wrap (sc.tdiv b') = q := by rw [hq]; exact IntWalk.i64_in _ (by omega)
        have hm2 : sc % b' = 0 := by rw [← Int.tmod_eq_emod_of_nonneg c1]; exact hm
        have TQ := Lib.hid (fun W => TM.out a' q W ha'.1 ha'.2 q0.1 q0.2)
        clear hq hlast
        go_wp2_with fail
        refine (TQ.out _).mono ?_
        rintro e w3 ⟨⟨x, okk, rfl, x1', x2'⟩, rfl⟩
        cases okk
        · go_wp2_with fail
          obtain ⟨z0, z1, _, _⟩ := two_cells (two_set HX2.out x k)
          exact bodyPost_ret (v := .tuple #[exV x k, .bool false]) (by simp [results, Try.results44, go_sem, z0, z1]) rfl ⟨x, k, false, rfl, by omega, by omega, (HB2.out.setCell (by simp) _).setCell (by simp) _⟩
        · go_wp2_with fail
          refine (l01In_any _ _ _ _).mono ?_
          rintro e w3 ⟨rfl, rfl⟩
          obtain ⟨G, hG⟩ : ∃ G, wB x (-1000000000000000000) 1000000000000000000 = G := ⟨_, rfl⟩
          rw [hG]
          go_wp2_with fail
          obtain ⟨z0, z1, _, _⟩ := two_cells (two_set HX2.out x k)
          exact bodyPost_ret (v := .tuple #[exV x k, .bool G]) (by simp [results, Try.results44, go_sem, z0, z1]) rfl ⟨x, k, G, rfl, by omega, by omega, (HB2.out.setCell (by simp) _).setCell (by simp) _⟩
      · have hkD : k ≠ D := fun e => hm (by
          rw [(hlast e).1]
          exact Int.tmod_eq_zero_of_dvd HDV.out)
        have hm2 : ¬ sc % b' = 0 := by rw [← Int.tmod_eq_emod_of_nonneg c1]; exact hm
        clear hlast
        go_wp2_with fail
        go_roundw
        case rel => exact ⟨k + 1, by go_num, by omega, HR2, HX2, HB2⟩
        case measure => simp [intOf]; omega
def MkP (w : World) (e : Ending) (w' : World) : Prop := ∃ (num dep code : Int), e = .returned (.tuple #[exV num dep, .int .i64 code]) ∧ 0 ≤ dep ∧ dep ≤ 100 ∧ Below w.heap.size w w'
theorem scV_small {s : Int} (s1 : 1 ≤ s) (s6 : s ≤ 6) (D : Nat) (hD : D ≤ 2) : ∃ b, scV s (D : Int) = (b, true) ∧ 1 ≤ b ∧ b ≤ 1000000000000000 := by
  obtain ⟨b1, b2, _⟩ := sq_bd s1 s6
  by_cases hs : s = 1
  · subst hs
    exact ⟨1, scV_1 _, by omega, by omega⟩
  · have hp := pw_pos b1 D
    have hp2 : pw (s * s) D ≤ 1296 := by
      have h2 := pw_mono b1 2 hD
      have h3 : pw (s * s) 2 = (s * s) * (s * s) := by rw [pw_succ, pw_succ, show pw (s * s) 0 = 1 from rfl, Int.one_mul]
      have h4 := Int.mul_le_mul b2 b2 (by omega) (by omega)
      omega
    have := scV_yes (s := s) (dep := (D : Int)) (by omega) (by rw [Int.toNat_natCast]; omega)
    rw [Int.toNat_natCast] at this
    exact ⟨_, this, hp, by omega⟩
set_option maxHeartbeats 1600000 in
theorem MakeExact_any (p c h s a : Int) (D : Nat) (w : World) (ha : -1000 ≤ a) (ha2 : a ≤ 1000) (hD : D ≤ 2) :
    Calls Try.prog 32 #[vrV p c h s, .int .i64 a, .int .i64 D] w fun e w' => MkP w e w' := by
  have HB0 := Lib.hid (((Below.refl w.heap.size w).alloc (Nat.le_refl _) (.cells #[.int .i64 p, .int .i64 c, .int .i64 h, .int .i64 s] 29)).alloc (by simp) (.cells #[.int .i64 0, .int .i64 0] 45))
  have R0 := Lib.hid ((q4_new w (.int .i64 p) (.int .i64 c) (.int .i64 h) (.int .i64 s) 29).alloc (.cells #[.int .i64 0, .int .i64 0] 45))
  have X0 := Lib.hid (two_new (w.alloc (.cells #[.int .i64 p, .int .i64 c, .int .i64 h, .int .i64 s] 29)) 0 0 45)
  simp only [World.size_alloc] at X0
  obtain ⟨K, hK⟩ : ∃ K, vrB p c h s = K := ⟨_, rfl⟩
  have IV := Lib.hid (fun W => hK ▸ spec_IsVariant_any p c h s W)
  cases K
  · clear hK
    go_enter Try.func32, Try.ntmps32
    obtain ⟨v0, v1, v2, v3⟩ := q4_cells R0.out
    go_wp2_with fail
    (with_reducible refine (IV.out _).mono ?_)
    rintro e w1 ⟨rfl, hb1⟩
    have HB1 := Lib.hid (HB0.out.trans (hb1.mono HB0.out.size))
    have X1 := Lib.hid (rowIs_below X0.out hb1 X0.out.lt)
    clear hb1 v0 v1 v2 v3
    obtain ⟨x0, x1, f0, f1⟩ := two_cells X1.out
    go_wp2_with fail
    obtain ⟨z0, z1, _, _⟩ := two_cells (two_set X1.out 0 0)
    exact bodyPost_ret (v := .tuple #[exV 0 0, .int .i64 1]) (by simp [results, Try.results32, go_sem, z0, z1]) rfl ⟨0, 0, 1, rfl, by omega, by omega, (HB1.out.setCell (by simp) _).setCell (by simp) _⟩
  obtain ⟨_, _, _, s1, s6⟩ := vrB_true.1 hK
  obtain ⟨b, hsc, b1, b2⟩ := scV_small s1 s6 D hD
  have SC := Lib.hid (fun W => l09Scale_any p c h s (D : Int) W s1 s6 (by omega) (by omega))
  unfold scP at SC
  rw [hsc] at SC
  have FT := Lib.hid (fun W => l09Fit_any p c h s a b D W s1 s6 ha ha2 (by omega) hsc b1 b2)
  have hm1 : min (D : Int) 61 = (D : Int) := by omega
  have hm2 : max 0 (D : Int) = (D : Int) := by omega
  have hw1 : wB a (-1000000000000000000) 1000000000000000000 = true := wB_true.2 (by omega)
  have hw2 : wB (D : Int) 0 60 = true := wB_true.2 (by omega)
  clear hK hsc
  go_enter Try.func32, Try.ntmps32
  obtain ⟨v0, v1, v2, v3⟩ := q4_cells R0.out
  go_wp2_with fail
  (with_reducible refine (IV.out _).mono ?_)
  rintro e w1 ⟨rfl, hb1⟩
  have HB1 := Lib.hid (HB0.out.trans (hb1.mono HB0.out.size))
  have R1 := Lib.hid (rowIs_below R0.out hb1 R0.out.lt)
  have X1 := Lib.hid (rowIs_below X0.out hb1 X0.out.lt)
  clear hb1 v0 v1 v2 v3
  obtain ⟨v0, v1, v2, v3⟩ := q4_cells R1.out
  go_wp2_with fail
  refine (SC.out _).mono ?_
  rintro e w2 ⟨rfl, hb1⟩
  have HB2 := Lib.hid (HB1.out.trans (hb1.mono HB1.out.size))
  have R2 := Lib.hid (rowIs_below R1.out hb1 R1.out.lt)
  have X2 := Lib.hid (rowIs_below X1.out hb1 X1.out.lt)
  clear hb1 v0 v1 v2 v3
  go_wp2_with fail
  refine (l01In_any _ _ _ _).mono ?_
  rintro e w3 ⟨rfl, rfl⟩
  rw [hw1]
  go_wp2_with fail
  refine (l01In_any _ _ _ _).mono ?_
  rintro e w3 ⟨rfl, rfl⟩
  rw [hw2]
  obtain ⟨v0, v1, v2, v3⟩ := q4_cells R2.out
  go_wp2_with fail
  refine (FT.out _).mono ?_
  rintro e w3 ⟨num, dep, ok, rfl, d1, d2, hb1⟩
  have HB3 := Lib.hid ((HB2.out.trans (hb1.mono HB2.out.size)).alloc (HB2.out.trans (hb1.mono HB2.out.size)).size (.cells #[.int .i64 num, .int .i64 dep] 45))
  have X3 := Lib.hid ((rowIs_below X2.out hb1 X2.out.lt).alloc (.cells #[.int .i64 num, .int .i64 dep] 45))
  have Y3 := Lib.hid (two_new w3 num dep 45)
  clear hb1 v0 v1 v2 v3
  obtain ⟨x0, x1, f0, f1⟩ := two_cells X3.out
  obtain ⟨y0, y1, _, _⟩ := two_cells Y3.out
  go_wp2_with fail
  obtain ⟨z0, z1, _, _⟩ := two_cells (two_set X3.out num dep)
  exact bodyPost_ret (v := .tuple #[exV num dep, .int .i64 0]) (by simp [results, Try.results32, go_sem, z0, z1]) rfl ⟨num, dep, 0, rfl, d1, d2, (HB3.out.setCell (by simp) _).setCell (by simp) _⟩
end Go.Proofs.Ytmhmhbiihcdgiaa
