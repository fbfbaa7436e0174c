/-
  spec.l09Split, spec.l09Compare: the walks.
-/
import Derived.Test.YtmhmhbiihcdgiaaCxP
import Derived.Test.YtmhmhbiihcdgiaaCxW
import Derived.Test.YtmhmhbiihcdgiaaApp
import Derived.RegionTactic
import Derived.Laws.BitsLemmas
import Derived.BigRegion
namespace Go.Proofs.Ytmhmhbiihcdgiaa
open Go.ChangeShapes Go.WideShapes Go.ChangeAt Go.RowKit
set_option linter.unusedVariables false
/-- Go's quotient and remainder, made floors -/
theorem floor_of {n q : Int} (hq : 0 < q) : (n.tmod q < 0 → n.tdiv q - 1 = n / q ∧ n.tmod q + q = n % q) ∧ (¬ n.tmod q < 0 → n.tdiv q = n / q ∧ n.tmod q = n % q) := by
  have h1 := Int.tmod_add_mul_tdiv n q
  have h2 := tmod_bd (a := n) hq
  obtain ⟨t, ht⟩ : ∃ t, n.tdiv q = t := ⟨_, rfl⟩
  obtain ⟨r, hr⟩ : ∃ r, n.tmod q = r := ⟨_, rfl⟩
  rw [ht, hr] at h1
  rw [hr] at h2
  rw [ht, hr]
  constructor
  · intro hn
    have := (Int.ediv_emod_unique (a := n) (r := r + q) (q := t - 1) hq).2 ⟨by rw [Int.mul_sub, Int.mul_one]; omega, by omega, by omega⟩
    exact ⟨this.1.symm, this.2.symm⟩
  · intro hn
    have := (Int.ediv_emod_unique (a := n) (r := r) (q := t) hq).2 ⟨by omega, by omega, by omega⟩
    exact ⟨this.1.symm, this.2.symm⟩
def dgL (B n : Int) (d k : Nat) : List Int := (List.range k).map (dg B n d)
theorem dgL_len (B n : Int) (d k : Nat) : (dgL B n d k).length = k := by simp [dgL]
theorem dgL_get (B n : Int) {d k i : Nat} (h : i < k) : (dgL B n d k).getD i 0 = dg B n d i := by
  rw [dgL, List.getD_eq_getElem?_getD, List.getElem?_map, List.getElem?_range h]
  rfl
theorem dgL_succ (B n : Int) (d k : Nat) : dgL B n d (k + 1) = dgL B n d k ++ [dg B n d k] := by simp [dgL, List.range_succ]
set_option maxHeartbeats 3200000 in
theorem l09Split_any (p c h s n q : Int) (D : Nat) (w : World) (s1 : 1 ≤ s) (s6 : s ≤ 6) (K : ExK s n (D : Int) q) (hq : q = pw (s * s) D) :
    Calls Try.prog 36 #[vrV p c h s, exV n D] w fun e w' => ∃ g cap : Nat, e = .returned (.slice (some ⟨g, 0, none⟩) (D + 1 : Nat) cap) ∧ g < w'.heap.size ∧ (∀ i, i < D + 1 → w'.cell? ⟨g, i, none⟩ = some (.int .i64 (dg (s * s) n D i))) ∧ Below w.heap.size w w' := by
  obtain ⟨k1, k2, k3, k4, k5, k6, k7⟩ := K
  obtain ⟨b1, b2, _⟩ := sq_bd s1 s6
  have SC := Lib.hid (fun W => l09Scale_any p c h s (D : Int) W s1 s6 k4 (by omega))
  unfold scP at SC
  rw [k1] at SC
  obtain ⟨B, hB⟩ : ∃ B, s * s = B := ⟨_, rfl⟩
  have BO := Lib.hid (fun W => l09Base_any p c h s B W hB (hB ▸ b1) (hB ▸ b2))
  rw [hB] at hq b1 b2 ⊢
  have HB0 := Lib.hid (((Below.refl w.heap.size w).alloc (Nat.le_refl _) (.cells #[.int .i64 p, .int .i64 c, .int .i64 h, .int .i64 s] 29)).alloc (by simp) (.cells #[.int .i64 n, .int .i64 D] 45))
  have R0 := Lib.hid ((q4_new w (.int .i64 p) (.int .i64 c) (.int .i64 h) (.int .i64 s) 29).alloc (.cells #[.int .i64 n, .int .i64 D] 45))
  have X0 := Lib.hid (q2_new (w.alloc (.cells #[.int .i64 p, .int .i64 c, .int .i64 h, .int .i64 s] 29)) (.int .i64 n) (.int .i64 D) 45)
  simp only [World.size_alloc] at X0
  have tb := tmod_bd (a := n) (b := q) (by omega)
  have FL := Lib.hid (floor_of (n := n) (q := q) (by omega))
  have m0 := Int.emod_nonneg n (show q ≠ 0 by omega)
  have m1 := Int.emod_lt_of_pos n (show 0 < q by omega)
  have dv1 : -1000000000000000001 ≤ n / q := by
    have := Int.le_ediv_iff_mul_le (a := -1000000000000000000) (b := n) (c := q) (by omega)
    have h2 : -1000000000000000000 * q ≤ -1000000000000000000 := by omega
    have := this.2 (by omega)
    omega
  have dv2 : n / q ≤ 1000000000000000000 := by
    rcases Int.lt_or_le n 0 with h | h
    · have := Int.ediv_neg_of_neg_of_pos h (show 0 < q by omega); omega
    · have := Int.ediv_le_self q h; omega
  have HD0 := Lib.hid (show dg B n D 0 = n / q by rw [dg_zero, hq])
  obtain ⟨t, ht⟩ : ∃ t, n.tdiv q = t := ⟨_, rfl⟩
  obtain ⟨T, hT⟩ : ∃ T, n / q = T := ⟨_, rfl⟩
  obtain ⟨R, hR⟩ : ∃ R, n % q = R := ⟨_, rfl⟩
  rw [ht, hT, hR] at FL
  rw [hT] at HD0 dv1 dv2
  rw [hR] at m0 m1
  have HRR := Lib.hid (show R = n % pw B (D - 0) by rw [← hR, hq]; rfl)
  have HQQ := Lib.hid (show q = pw B (D - 0) from hq)
  have htd : IntKind.i64.wrap (n.tdiv q) = t := by
    rw [ht]
    refine IntWalk.i64_in _ ?_
    by_cases hneg : n.tmod q < 0
    · have := (FL.out.1 hneg).1; omega
    · have := (FL.out.2 (by omega)).1; omega
  have hq0 : ¬ q = 0 := by omega
  have HDN := Lib.hid (fun k (hk : k < D) => dg_next (B := B) b1 n hk)
  have HPP := Lib.hid (fun k => pw_pos b1 k)
  have hBO := Lib.hid hB
  clear hT hR k1 hB hq
  have hDs : (D : Int) ≤ 24 := k5
  go_enter Try.func36, Try.ntmps36
  obtain ⟨r0, r1, r2, r3⟩ := q4_cells R0.out
  obtain ⟨x0, x1⟩ := q2_cells X0.out
  go_wp2_with fail
  refine (SC.out _).mono ?_
  rintro e w1 ⟨rfl, hb⟩
  have R1 := Lib.hid (rowIs_below R0.out hb R0.out.lt)
  have X1 := Lib.hid (rowIs_below X0.out hb X0.out.lt)
  have HB1 := Lib.hid (HB0.out.trans (hb.mono HB0.out.size))
  clear hb r0 r1 r2 r3 x0 x1
  obtain ⟨r0, r1, r2, r3⟩ := q4_cells R1.out
  obtain ⟨x0, x1⟩ := q2_cells X1.out
  by_cases hneg : n.tmod q < 0
  · obtain ⟨f1, f2⟩ := FL.out.1 hneg
    have e1 : IntKind.i64.wrap (n.tmod q + q) = R := by rw [f2]; exact IntWalk.i64_in _ (by omega)
    have e3 : wrap64 (n.tmod q + q) = R := by
      have h := e1
      rw [IntKind.wrap_i64] at h
      simpa [wrap64] using h
    have e2 : IntKind.i64.wrap (t - 1) = T := by rw [f1]; exact IntWalk.i64_in _ (by omega)
    clear FL f1 f2 ht
    go_wp2_with fail
    go_loopw [5, 8, 9, 10] (fun sv rv ov kv wr => ∃ (k g cap : Nat) (S R : Int), sv = .int .i64 S ∧ rv = .int .i64 R ∧ ov = .slice (some ⟨g, 0, none⟩) (k + 1 : Nat) cap ∧ kv = .int .i64 k ∧ k ≤ D ∧ 1 ≤ S ∧ S ≤ 1000000000000000 ∧ 0 ≤ R ∧ R < S ∧ Hid (S = pw B (D - k)) ∧ Hid (R = n % pw B (D - k)) ∧ Hid (Own wr (w.heap.size + 2) 2 1 g cap (k + 1) ((dgL B n D (k + 1)).map (.int .i64))) ∧ Hid (wr.rowIs w.heap.size 29 4 (q4 (.int .i64 p) (.int .i64 c) (.int .i64 h) (.int .i64 s))) ∧ Hid (wr.rowIs (w.heap.size + 1) 45 2 (q2 (.int .i64 n) (.int .i64 D))) ∧ Hid (Below w.heap.size w wr)) (fun _ _ _ k _ => D - (intOf k).toNat)
    case atStart => exact ⟨0, w1.heap.size, 1, q, R, rfl, by go_num, rfl, rfl, Nat.zero_le _, k2, k3, m0, m1, HQQ, HRR, Lib.hid (by
        have hb1 := X1.out.lt
        have := Own.new w1 (w.heap.size + 2) 2 1 #[.int .i64 T] 1 (by omega) (by unfold maxLen; omega) rfl
        have e : (dgL B n D 1).map (Value.int .i64) = [.int .i64 T] := by rw [dgL_succ, dgL]; simp [HD0.out]
        rw [e]; exact this), Lib.hid (R1.out.alloc _), Lib.hid (X1.out.alloc _), Lib.hid (HB1.out.alloc HB1.out.size _)⟩
    case round =>
      clear r0 r1 r2 r3 x0 x1 e1 e2 htd hneg
      obtain ⟨k, g, cap, S, R', rfl, rfl, rfl, rfl, hkD, S1, S2, R1', R2', HS, HR, HO, HV, HX, HB⟩ := hrel
      obtain ⟨r0, r1, r2, r3⟩ := q4_cells HV.out
      obtain ⟨x0, x1⟩ := q2_cells HX.out
      by_cases hlt : k < D
      · have hlt' : (k : Int) < (D : Int) := by omega
        obtain ⟨S', hS'⟩ : ∃ S', pw B (D - (k + 1)) = S' := ⟨_, rfl⟩
        have hSS : S = S' * B := by rw [HS.out, ← hS', ← pw_succ, show D - (k + 1) + 1 = D - k by omega]
        have hS1 : 1 ≤ S' := by rw [← hS']; exact HPP.out _
        have hS2 : S' ≤ S := by
          rw [hSS]
          have := Int.mul_le_mul_of_nonneg_left b1 (show 0 ≤ S' by omega)
          omega
        have hdiv : S.tdiv B = S' := by rw [hSS]; exact Int.mul_tdiv_cancel _ (by omega)
        have e1 : IntKind.i64.wrap (S.tdiv B) = S' := by rw [hdiv]; exact IntWalk.i64_in _ (by omega)
        obtain ⟨d, hd⟩ : ∃ d, R'.tdiv S' = d := ⟨_, rfl⟩
        have hde : R' / S' = d := by rw [← hd, Int.tdiv_eq_ediv_of_nonneg R1']
        have d0 : 0 ≤ d := by rw [← hde]; exact Int.ediv_nonneg R1' (by omega)
        have d1 : d ≤ R' := by rw [← hde]; exact Int.ediv_le_self _ R1'
        have e2 : IntKind.i64.wrap (R'.tdiv S') = d := by rw [hd]; exact IntWalk.i64_in _ (by omega)
        have mm0 := Int.emod_nonneg R' (show S' ≠ 0 by omega)
        have mm1 := Int.emod_lt_of_pos R' (show 0 < S' by omega)
        have HD := Lib.hid (show dg B n D (k + 1) = d by rw [HDN.out k hlt, hS', ← HR.out, hde])
        have HR2 := Lib.hid (show R' % S' = n % pw B (D - (k + 1)) by
          rw [hS', HR.out, show pw B (D - k) = S' * B by rw [← HS.out, hSS]]
          exact Int.emod_emod_of_dvd n ⟨B, rfl⟩)
        have HS2 := Lib.hid (show S' = pw B (D - (k + 1)) from hS'.symm)
        have hS0 : ¬ S' = 0 := by omega
        have hB0 : ¬ B = 0 := by omega
        clear hS' hSS hdiv hd hde
        go_wp2_with fail
        refine (BO.out _).mono ?_
        rintro e w2 ⟨rfl, hb⟩
        have HV2 := Lib.hid (rowIs_below HV.out hb HV.out.lt)
        have HX2 := Lib.hid (rowIs_below HX.out hb HX.out.lt)
        have HB2 := Lib.hid (HB.out.trans (hb.mono HB.out.size))
        have HO2 := Lib.hid (HO.out.below hb)
        have hz := HX2.out.lt
        have hge := HO2.out.ge
        clear hb r0 r1 r2 r3 x0 x1
        go_wp2_with (at_builtin; refine app_own rfl (.tmp 45) (.tmp 49) 26 rfl (w.heap.size + 2) 2 (.int .i64 0) 1 8 Try.underlying26 info_int rfl (by omega) (by omega) g cap (k + 1) _ rfl (HO2.out.alloc _) ⟨w2.heap.size, 0, none⟩ 1 1 [.int .i64 d] rfl rfl (one_news (by rw [new_cell]; rfl)) one_cells (by omega) (by simp; omega) ?_; intro g1 p1 w3 ho1 hg1; have HB3 := Lib.hid ((HB2.out.alloc HB2.out.size (.cells #[.int .i64 d] 2)).grown hg1 (by simp; omega) (fun k e => by injection e with e; omega)); have HO3 := Lib.hid ho1; have HV3 := Lib.hid ((HV2.out.alloc (.cells #[.int .i64 d] 2)).of_block (hg1.block w.heap.size (by simp; omega) (by simp; omega))); have HX3 := Lib.hid ((HX2.out.alloc (.cells #[.int .i64 d] 2)).of_block (hg1.block (w.heap.size + 1) (by simp; omega) (by simp; omega))); clear ho1 hg1)
        go_roundw
        case rel => exact ⟨k + 1, g1, p1, S', R' % S', rfl, rfl, rfl, by go_num, hlt, hS1, by omega, mm0, mm1, HS2, HR2, Lib.hid (by have := HO3.out; rw [dgL_succ, List.map_append, HD.out]; exact this), HV3, HX3, HB3⟩
        case measure => simp [intOf]; omega
      · have hlt' : ¬ (k : Int) < (D : Int) := by omega
        obtain rfl : k = D := by omega
        have hge := HO.out.ge
        go_wp2_with fail
        go_ret
        refine ⟨g, ⟨cap, rfl⟩, hge.2, fun i hi => ?_, HB.out⟩
        have := HO.out.rowI
        obtain ⟨gg, hgg, _, _, _, hc⟩ := this.blk (by omega)
        injection hgg with hgg
        injection hgg with hgg
        subst hgg
        rw [(hc i hi).1, icell, dgL_get B n hi]
  · obtain ⟨f1, f2⟩ := FL.out.2 (by omega)
    have e1 : t = T := f1
    rw [e1] at htd
    clear e1
    have e1 := Lib.hid f2
    have e2 := Lib.hid hneg
    clear FL f2 ht
    go_wp2_with fail
    go_loopw [5, 8, 9, 10] (fun sv rv ov kv wr => ∃ (k g cap : Nat) (S R : Int), sv = .int .i64 S ∧ rv = .int .i64 R ∧ ov = .slice (some ⟨g, 0, none⟩) (k + 1 : Nat) cap ∧ kv = .int .i64 k ∧ k ≤ D ∧ 1 ≤ S ∧ S ≤ 1000000000000000 ∧ 0 ≤ R ∧ R < S ∧ Hid (S = pw B (D - k)) ∧ Hid (R = n % pw B (D - k)) ∧ Hid (Own wr (w.heap.size + 2) 2 1 g cap (k + 1) ((dgL B n D (k + 1)).map (.int .i64))) ∧ Hid (wr.rowIs w.heap.size 29 4 (q4 (.int .i64 p) (.int .i64 c) (.int .i64 h) (.int .i64 s))) ∧ Hid (wr.rowIs (w.heap.size + 1) 45 2 (q2 (.int .i64 n) (.int .i64 D))) ∧ Hid (Below w.heap.size w wr)) (fun _ _ _ k _ => D - (intOf k).toNat)
    case atStart => exact ⟨0, w1.heap.size, 1, q, R, rfl, by rw [e1.out], rfl, rfl, Nat.zero_le _, k2, k3, m0, m1, HQQ, HRR, Lib.hid (by
        have hb1 := X1.out.lt
        have := Own.new w1 (w.heap.size + 2) 2 1 #[.int .i64 T] 1 (by omega) (by unfold maxLen; omega) rfl
        have e : (dgL B n D 1).map (Value.int .i64) = [.int .i64 T] := by rw [dgL_succ, dgL]; simp [HD0.out]
        rw [e]; exact this), Lib.hid (R1.out.alloc _), Lib.hid (X1.out.alloc _), Lib.hid (HB1.out.alloc HB1.out.size _)⟩
    case round =>
      clear r0 r1 r2 r3 x0 x1 e1 e2 htd hneg
      obtain ⟨k, g, cap, S, R', rfl, rfl, rfl, rfl, hkD, S1, S2, R1', R2', HS, HR, HO, HV, HX, HB⟩ := hrel
      obtain ⟨r0, r1, r2, r3⟩ := q4_cells HV.out
      obtain ⟨x0, x1⟩ := q2_cells HX.out
      by_cases hlt : k < D
      · have hlt' : (k : Int) < (D : Int) := by omega
        obtain ⟨S', hS'⟩ : ∃ S', pw B (D - (k + 1)) = S' := ⟨_, rfl⟩
        have hSS : S = S' * B := by rw [HS.out, ← hS', ← pw_succ, show D - (k + 1) + 1 = D - k by omega]
        have hS1 : 1 ≤ S' := by rw [← hS']; exact HPP.out _
        have hS2 : S' ≤ S := by
          rw [hSS]
          have := Int.mul_le_mul_of_nonneg_left b1 (show 0 ≤ S' by omega)
          omega
        have hdiv : S.tdiv B = S' := by rw [hSS]; exact Int.mul_tdiv_cancel _ (by omega)
        have e1 : IntKind.i64.wrap (S.tdiv B) = S' := by rw [hdiv]; exact IntWalk.i64_in _ (by omega)
        obtain ⟨d, hd⟩ : ∃ d, R'.tdiv S' = d := ⟨_, rfl⟩
        have hde : R' / S' = d := by rw [← hd, Int.tdiv_eq_ediv_of_nonneg R1']
        have d0 : 0 ≤ d := by rw [← hde]; exact Int.ediv_nonneg R1' (by omega)
        have d1 : d ≤ R' := by rw [← hde]; exact Int.ediv_le_self _ R1'
        have e2 : IntKind.i64.wrap (R'.tdiv S') = d := by rw [hd]; exact IntWalk.i64_in _ (by omega)
        have mm0 := Int.emod_nonneg R' (show S' ≠ 0 by omega)
        have mm1 := Int.emod_lt_of_pos R' (show 0 < S' by omega)
        have HD := Lib.hid (show dg B n D (k + 1) = d by rw [HDN.out k hlt, hS', ← HR.out, hde])
        have HR2 := Lib.hid (show R' % S' = n % pw B (D - (k + 1)) by
          rw [hS', HR.out, show pw B (D - k) = S' * B by rw [← HS.out, hSS]]
          exact Int.emod_emod_of_dvd n ⟨B, rfl⟩)
        have HS2 := Lib.hid (show S' = pw B (D - (k + 1)) from hS'.symm)
        have hS0 : ¬ S' = 0 := by omega
        have hB0 : ¬ B = 0 := by omega
        clear hS' hSS hdiv hd hde
        go_wp2_with fail
        refine (BO.out _).mono ?_
        rintro e w2 ⟨rfl, hb⟩
        have HV2 := Lib.hid (rowIs_below HV.out hb HV.out.lt)
        have HX2 := Lib.hid (rowIs_below HX.out hb HX.out.lt)
        have HB2 := Lib.hid (HB.out.trans (hb.mono HB.out.size))
        have HO2 := Lib.hid (HO.out.below hb)
        have hz := HX2.out.lt
        have hge := HO2.out.ge
        clear hb r0 r1 r2 r3 x0 x1
        go_wp2_with (at_builtin; refine app_own rfl (.tmp 45) (.tmp 49) 26 rfl (w.heap.size + 2) 2 (.int .i64 0) 1 8 Try.underlying26 info_int rfl (by omega) (by omega) g cap (k + 1) _ rfl (HO2.out.alloc _) ⟨w2.heap.size, 0, none⟩ 1 1 [.int .i64 d] rfl rfl (one_news (by rw [new_cell]; rfl)) one_cells (by omega) (by simp; omega) ?_; intro g1 p1 w3 ho1 hg1; have HB3 := Lib.hid ((HB2.out.alloc HB2.out.size (.cells #[.int .i64 d] 2)).grown hg1 (by simp; omega) (fun k e => by injection e with e; omega)); have HO3 := Lib.hid ho1; have HV3 := Lib.hid ((HV2.out.alloc (.cells #[.int .i64 d] 2)).of_block (hg1.block w.heap.size (by simp; omega) (by simp; omega))); have HX3 := Lib.hid ((HX2.out.alloc (.cells #[.int .i64 d] 2)).of_block (hg1.block (w.heap.size + 1) (by simp; omega) (by simp; omega))); clear ho1 hg1)
        go_roundw
        case rel => exact ⟨k + 1, g1, p1, S', R' % S', rfl, rfl, rfl, by go_num, hlt, hS1, by omega, mm0, mm1, HS2, HR2, Lib.hid (by have := HO3.out; rw [dgL_succ, List.map_append, HD.out]; exact this), HV3, HX3, HB3⟩
        case measure => simp [intOf]; omega
      · have hlt' : ¬ (k : Int) < (D : Int) := by omega
        obtain rfl : k = D := by omega
        have hge := HO.out.ge
        go_wp2_with fail
        go_ret
        refine ⟨g, ⟨cap, rfl⟩, hge.2, fun i hi => ?_, HB.out⟩
        have := HO.out.rowI
        obtain ⟨gg, hgg, _, _, _, hc⟩ := this.blk (by omega)
        injection hgg with hgg
        injection hgg with hgg
        subst hgg
        rw [(hc i hi).1, icell, dgL_get B n hi]
set_option maxHeartbeats 1600000 in
theorem l09Compare_any (p c h s n1 n2 q1 q2 : Int) (D1 D2 : Nat) (w : World) (s1 : 1 ≤ s) (s6 : s ≤ 6) (K1 : ExK s n1 D1 q1) (K2 : ExK s n2 D2 q2) (h1 : q1 = pw (s * s) D1) (h2 : q2 = pw (s * s) D2) :
    Calls Try.prog 21 #[vrV p c h s, exV n1 D1, exV n2 D2] w fun e w' => e = .returned (.int .i64 (cmpS n1 q1 n2 q2)) ∧ Below w.heap.size w w' := by
  have S1 := Lib.hid (fun W => l09Split_any p c h s n1 q1 D1 W s1 s6 K1 h1)
  have S2 := Lib.hid (fun W => l09Split_any p c h s n2 q2 D2 W s1 s6 K2 h2)
  have k15 := K1.d1
  have k25 := K2.d1
  have b1 := (sq_bd s1 s6).1
  obtain ⟨B, hB⟩ : ∃ B, s * s = B := ⟨_, rfl⟩
  rw [hB] at S1 S2 h1 h2 b1
  have HLT := Lib.hid (fun k he h => show cmpS n1 q1 n2 q2 = -1 from cmpS_lt (by rw [h1, h2]; exact dg_lt b1 (k := k) he h))
  have HGT := Lib.hid (fun k (he : ∀ j, j < k → dg B n1 D1 j = dg B n2 D2 j) (h : dg B n2 D2 k < dg B n1 D1 k) => show cmpS n1 q1 n2 q2 = 1 from cmpS_gt (by rw [h1, h2]; exact dg_lt b1 (k := k) (fun j hj => (he j hj).symm) h))
  have HEQ := Lib.hid (fun k (k1 : D1 < k) (k2 : D2 < k) (he : ∀ j, j < k → dg B n1 D1 j = dg B n2 D2 j) => show cmpS n1 q1 n2 q2 = 0 from cmpS_eq (by rw [h1, h2]; exact dg_eq b1 (k := k - 1) (by omega) (by omega) (fun j hj => he j (by omega))))
  have HP1 := Lib.hid (fun k (hk : D1 < k) => dg_pad (B := B) (n := n1) hk)
  have HP2 := Lib.hid (fun k (hk : D2 < k) => dg_pad (B := B) (n := n2) hk)
  have HB0 := Lib.hid ((((Below.refl w.heap.size w).alloc (Nat.le_refl _) (.cells #[.int .i64 p, .int .i64 c, .int .i64 h, .int .i64 s] 29)).alloc (by simp) (.cells #[.int .i64 n1, .int .i64 D1] 45)).alloc (by simp; omega) (.cells #[.int .i64 n2, .int .i64 D2] 45))
  have R0 := Lib.hid (((q4_new w (.int .i64 p) (.int .i64 c) (.int .i64 h) (.int .i64 s) 29).alloc (.cells #[.int .i64 n1, .int .i64 D1] 45)).alloc (.cells #[.int .i64 n2, .int .i64 D2] 45))
  have X0 := Lib.hid ((q2_new (w.alloc (.cells #[.int .i64 p, .int .i64 c, .int .i64 h, .int .i64 s] 29)) (.int .i64 n1) (.int .i64 D1) 45).alloc (.cells #[.int .i64 n2, .int .i64 D2] 45))
  have Y0 := Lib.hid (q2_new ((w.alloc (.cells #[.int .i64 p, .int .i64 c, .int .i64 h, .int .i64 s] 29)).alloc (.cells #[.int .i64 n1, .int .i64 D1] 45)) (.int .i64 n2) (.int .i64 D2) 45)
  simp only [World.size_alloc] at X0 Y0
  clear h1 h2 hB b1 K1 K2
  go_enter Try.func21, Try.ntmps21
  obtain ⟨r0, r1, r2, r3⟩ := q4_cells R0.out
  obtain ⟨x0, x1⟩ := q2_cells X0.out
  obtain ⟨y0, y1⟩ := q2_cells Y0.out
  go_wp2_with fail
  refine (S1.out _).mono ?_
  rintro e w1 ⟨g1, p1, rfl, hg1, hc1, hb⟩
  have R1 := Lib.hid (rowIs_below R0.out hb R0.out.lt)
  have Y1 := Lib.hid (rowIs_below Y0.out hb Y0.out.lt)
  have HB1 := Lib.hid (HB0.out.trans (hb.mono HB0.out.size))
  have C1 := Lib.hid hc1
  clear hb r0 r1 r2 r3 x0 x1 y0 y1 hc1
  obtain ⟨r0, r1, r2, r3⟩ := q4_cells R1.out
  obtain ⟨y0, y1⟩ := q2_cells Y1.out
  go_wp2_with fail
  refine (S2.out _).mono ?_
  rintro e w2 ⟨g2, p2, rfl, hg2, hc2, hb⟩
  have HB2 := Lib.hid (HB1.out.trans (hb.mono HB1.out.size))
  have C2 := Lib.hid hc2
  have C3 := Lib.hid (fun i (hi : i < D1 + 1) => (hb.cell (p := ⟨g1, i, none⟩) hg1).trans (C1.out i hi))
  clear hb r0 r1 r2 r3 y0 y1 hc2 C1
  go_wp2_with fail
  go_loop [9] (fun iv => ∃ i : Nat, iv = .int .i64 i ∧ i ≤ D1 + 1 + (D2 + 1) ∧ Hid (∀ j, j < i → dg B n1 D1 j = dg B n2 D2 j)) (fun i => 100 - (intOf i).toNat)
  case atStart => exact ⟨0, rfl, Nat.zero_le _, Lib.hid (fun j hj => absurd hj (by omega))⟩
  case round =>
    obtain ⟨i, rfl, hi, HE⟩ := hrel
    by_cases hA : i < D1 + 1
    · have A1 : (i : Int) < ((D1 + 1 : Nat) : Int) := by omega
      have A3 : decide ((i : Int) < ((D1 + 1 : Nat) : Int)) = true := decide_eq_true A1
      have cA := C3.out i hA
      by_cases hC : i < D2 + 1
      · have A2 : (i : Int) < ((D2 + 1 : Nat) : Int) := by omega
        have A4 : decide ((i : Int) < ((D2 + 1 : Nat) : Int)) = true := decide_eq_true A2
        have cC := C2.out i hC
        obtain ⟨x, hx⟩ : ∃ x, dg B n1 D1 i = x := ⟨_, rfl⟩
        obtain ⟨y, hy⟩ : ∃ y, dg B n2 D2 i = y := ⟨_, rfl⟩
        rw [hx] at cA
        rw [hy] at cC
        have hxx := Lib.hid hx
        have hyy := Lib.hid hy
        clear hx hy
        rcases Int.lt_trichotomy x y with t | t | t
        · have HV := Lib.hid (HLT.out i HE.out (by rw [hxx.out, hyy.out]; exact t))
          go_wp2_with fail
          go_ret
          exact ⟨ret_int HV.out, HB2.out⟩
        · have HE2 := Lib.hid (show ∀ j, j < i + 1 → dg B n1 D1 j = dg B n2 D2 j from fun j hj => by
            by_cases e : j = i
            · rw [e, hxx.out, hyy.out]; exact t
            · exact HE.out j (by omega))
          have t1 : ¬ x < y := by omega
          have t2 : ¬ y < x := by omega
          clear t
          go_wp2_with fail
          go_round
          case rel => exact ⟨i + 1, by go_num, by omega, HE2⟩
          case measure => simp [intOf]; omega
        · have HV := Lib.hid (HGT.out i HE.out (by rw [hxx.out, hyy.out]; exact t))
          have t1 : ¬ x < y := by omega
          go_wp2_with fail
          go_ret
          exact ⟨ret_int HV.out, HB2.out⟩
      · have A2 : ¬ (i : Int) < ((D2 + 1 : Nat) : Int) := by omega
        have A4 : decide ((i : Int) < ((D2 + 1 : Nat) : Int)) = false := decide_eq_false A2
        have zC := Lib.hid (HP2.out i (by omega))
        obtain ⟨x, hx⟩ : ∃ x, dg B n1 D1 i = x := ⟨_, rfl⟩
        obtain ⟨y, hy⟩ : ∃ y, dg B n2 D2 i = y := ⟨_, rfl⟩
        rw [hx] at cA
        obtain rfl : y = 0 := by rw [← hy, zC.out]
        have hxx := Lib.hid hx
        have hyy := Lib.hid hy
        clear hx hy
        rcases Int.lt_trichotomy x (0 : Int) with t | t | t
        · have HV := Lib.hid (HLT.out i HE.out (by rw [hxx.out, hyy.out]; exact t))
          go_wp2_with fail
          go_ret
          exact ⟨ret_int HV.out, HB2.out⟩
        · have HE2 := Lib.hid (show ∀ j, j < i + 1 → dg B n1 D1 j = dg B n2 D2 j from fun j hj => by
            by_cases e : j = i
            · rw [e, hxx.out, hyy.out]; exact t
            · exact HE.out j (by omega))
          have t1 : ¬ x < (0 : Int) := by omega
          have t2 : ¬ (0 : Int) < x := by omega
          clear t
          go_wp2_with fail
          go_round
          case rel => exact ⟨i + 1, by go_num, by omega, HE2⟩
          case measure => simp [intOf]; omega
        · have HV := Lib.hid (HGT.out i HE.out (by rw [hxx.out, hyy.out]; exact t))
          have t1 : ¬ x < (0 : Int) := by omega
          go_wp2_with fail
          go_ret
          exact ⟨ret_int HV.out, HB2.out⟩
    · have A1 : ¬ (i : Int) < ((D1 + 1 : Nat) : Int) := by omega
      have A3 : decide ((i : Int) < ((D1 + 1 : Nat) : Int)) = false := decide_eq_false A1
      have zA := Lib.hid (HP1.out i (by omega))
      by_cases hC : i < D2 + 1
      · have A2 : (i : Int) < ((D2 + 1 : Nat) : Int) := by omega
        have A4 : decide ((i : Int) < ((D2 + 1 : Nat) : Int)) = true := decide_eq_true A2
        have cC := C2.out i hC
        obtain ⟨x, hx⟩ : ∃ x, dg B n1 D1 i = x := ⟨_, rfl⟩
        obtain ⟨y, hy⟩ : ∃ y, dg B n2 D2 i = y := ⟨_, rfl⟩
        obtain rfl : x = 0 := by rw [← hx, zA.out]
        rw [hy] at cC
        have hxx := Lib.hid hx
        have hyy := Lib.hid hy
        clear hx hy
        rcases Int.lt_trichotomy (0 : Int) y with t | t | t
        · have HV := Lib.hid (HLT.out i HE.out (by rw [hxx.out, hyy.out]; exact t))
          go_wp2_with fail
          go_ret
          exact ⟨ret_int HV.out, HB2.out⟩
        · have HE2 := Lib.hid (show ∀ j, j < i + 1 → dg B n1 D1 j = dg B n2 D2 j from fun j hj => by
            by_cases e : j = i
            · rw [e, hxx.out, hyy.out]; exact t
            · exact HE.out j (by omega))
          have t1 : ¬ (0 : Int) < y := by omega
          have t2 : ¬ y < (0 : Int) := by omega
          clear t
          go_wp2_with fail
          go_round
          case rel => exact ⟨i + 1, by go_num, by omega, HE2⟩
          case measure => simp [intOf]; omega
        · have HV := Lib.hid (HGT.out i HE.out (by rw [hxx.out, hyy.out]; exact t))
          have t1 : ¬ (0 : Int) < y := by omega
          go_wp2_with fail
          go_ret
          exact ⟨ret_int HV.out, HB2.out⟩
      · have A2 : ¬ (i : Int) < ((D2 + 1 : Nat) : Int) := by omega
        have A4 : decide ((i : Int) < ((D2 + 1 : Nat) : Int)) = false := decide_eq_false A2
        have zC := Lib.hid (HP2.out i (by omega))
        have HV := Lib.hid (HEQ.out i (by omega) (by omega) HE.out)
        go_wp2_with fail
        go_ret
        exact ⟨ret_int HV.out, HB2.out⟩
end Go.Proofs.Ytmhmhbiihcdgiaa
