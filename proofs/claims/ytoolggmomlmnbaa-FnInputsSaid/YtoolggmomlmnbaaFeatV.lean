/-
  The walks of the small functions below FeaturesOf (both packages): pips, the highest checker, contact, counts of points.
-/
import Derived.Test.YtoolggmomlmnbaaFeatW
namespace Go.Proofs.Ytoolggmomlmnbaa
open Go.ChangeShapes Go.WideShapes Go.ChangeAt Go.RowKit Go.Joins Go.Deep
set_option linter.unusedVariables false

set_option maxHeartbeats 1600000 in
theorem blotsOf_any (P : Nat) (c h s : Int) (a : Option Addr) (n ca : Nat) (xs : List Int) (B : Nat) (w : World) (h1 : Ints w B .i64 a n xs) (hB : B ≤ w.heap.size) (hn : P < n) (hn25 : n ≤ 25) (hX : ∀ i, i < n → 0 ≤ xs.getD i 0 ∧ xs.getD i 0 ≤ 15) :
    Calls Try.prog 84 #[vrV P c h s, .slice a n ca] w fun e w' => ∃ v, e = .returned v ∧ Grows w' w.heap.size v (ptsL isOne xs P) ∧ Below w.heap.size w w' := by
  have HB0 := (Below.refl w.heap.size w).alloc (Nat.le_refl _) (.cells #[.int .i64 P, .int .i64 c, .int .i64 h, .int .i64 s] 30)
  have k1 := h1
  have XB := Lib.hid hX
  clear h1 hX
  go_enter Try.func84, Try.ntmps84
  obtain ⟨bb, off, rfl, hbb, hc0⟩ := k1.2 (by omega)
  have HC := Lib.hid hc0
  clear hc0 k1
  have HK := Lib.hid (fun (W : World) (k : Nat) => new_cell W #[.int .i64 (k : Int)] 2 0)
  go_wp2_with fail
  go_loopw [5, 9] (fun sl i wr => ∃ k : Nat, k ≤ P ∧ i = .int .i64 k ∧ Grows wr w.heap.size sl (ptsL isOne xs k) ∧ Below w.heap.size w wr) (fun _ i _ => P - (intOf i).toNat)
  case atStart => exact ⟨0, Nat.zero_le _, rfl, Grows.nil _ _, HB0⟩
  case round =>
    obtain ⟨k, hk, rfl, hg, hbw⟩ := hrel
    have hzw := hbw.size
    by_cases hlt : k < P
    · have hcx := (hbw.cell (p := ⟨bb, off + k, none⟩) (by have := hbb; show bb < _; omega)).trans (HC.out k (by omega))
      have hx1 := (XB.out k (by omega)).1
      have hx2 := (XB.out k (by omega)).2
      have LE := ptsL_le isOne xs k
      have HY := Lib.hid (ptsL_yes (f := isOne) (xs := xs) (k := k))
      have HN := Lib.hid (ptsL_no (f := isOne) (xs := xs) (k := k))
      have HKK := Lib.hid (HK.out wr k)
      obtain ⟨x, hx⟩ : ∃ x, xs.getD k 0 = x := ⟨_, rfl⟩
      rw [hx] at hcx hx1 hx2 HY HN
      clear hx
      have hg' := Lib.hid hg
      have hbw' := Lib.hid hbw
      clear hg hbw
      cases hf : isOne x
      · have HN2 := Lib.hid (HN.out hf)
        have hge : (x == 1) = false := by have := wB_false.1 hf; simp; omega
        go_wp2
        go_roundw
        case rel => exact ⟨k + 1, by omega, by go_num, by rw [HN2.out]; exact hg'.out, hbw'.out⟩
        case measure => simp [intOf]; omega
      · have HY2 := Lib.hid (HY.out hf)
        have hge : (x == 1) = true := by have := wB_true.1 hf; simp; omega
        go_wp2_with (first | (at_builtin; refine app_grow rfl (.tmp 17) (.tmp 19) rfl rfl (hg'.out.alloc _) ⟨wr.heap.size, 0, none⟩ (k : Int) rfl HKK.out (by omega) (by simp; omega) ?_; intro v2 w2 hg2 hb2))
        have hb3 := hbw'.out.trans (((Below.refl w.heap.size wr).alloc hzw (.cells #[.int .i64 (k : Int)] 2)).trans hb2)
        go_roundw
        case rel => exact ⟨k + 1, by omega, by go_num, by rw [HY2.out]; exact hg2, hb3⟩
        case measure => simp [intOf]; omega
    · obtain rfl : k = P := by omega
      go_wp2
      go_ret
      exact ⟨_, rfl, hg, hbw⟩

set_option maxHeartbeats 800000 in
theorem pips_any (a : Option Addr) (n ca : Nat) (xs : List Int) (B : Nat) (w : World) (k1 : Ints w B .i64 a n xs) (hn : 0 < n) (hn25 : n ≤ 25) (hX : ∀ i, i < n → 0 ≤ xs.getD i 0 ∧ xs.getD i 0 ≤ 15) :
    Calls Try.prog 83 #[.slice a n ca] w fun e w' => e = .returned (.int .i64 (pipS xs n)) ∧ w = w' := by
  have XB := Lib.hid hX
  clear hX
  go_enter Try.func83, Try.ntmps83
  obtain ⟨bb, off, rfl, hbb, hc0⟩ := k1.2 (by omega)
  have HC := Lib.hid hc0
  clear hc0 k1
  go_wp2_with fail
  go_loop [3, 8] (fun q i => ∃ (k : Nat) (S : Int), k ≤ n ∧ i = .int .i64 k ∧ q = .int .i64 S ∧ Hid (S = pipS xs k)) (fun _ i => n - (intOf i).toNat)
  case atStart => exact ⟨0, 0, Nat.zero_le _, rfl, rfl, rfl⟩
  case round =>
    obtain ⟨k, S, hk, rfl, rfl, hS⟩ := hrel
    have s1 := pipS_bd (xs := xs) k (by omega) (fun i hi => XB.out i (by omega))
    rw [← hS.out] at s1
    obtain ⟨s1, s2⟩ := s1
    by_cases hlt : k < n
    · have hcx := HC.out k hlt
      have hb1 := XB.out k hlt
      obtain ⟨x1, x2⟩ := hb1
      have hs := Lib.hid (show pipS xs (k + 1) = pipS xs k + ((k : Int) + 1) * xs.getD k 0 from rfl)
      obtain ⟨x, hx⟩ : ∃ x, xs.getD k 0 = x := ⟨_, rfl⟩
      rw [hx] at hcx x1 x2 hs
      clear hx
      have m1 : 0 ≤ ((k : Int) + 1) * x := Int.mul_nonneg (by omega) x1
      have m2 : ((k : Int) + 1) * x ≤ 25 * 15 := Int.mul_le_mul (by omega) x2 x1 (by omega)
      have m3 : ((k : Int) + 1) * x ≤ 375 := by omega
      clear m2
      have s3 : S ≤ 10000 := by omega
      clear s2
      go_wp2
      go_round
      case rel => exact ⟨k + 1, S + ((k : Int) + 1) * x, by omega, by go_num, rfl, by show _ = _; rw [hs.out, hS.out]⟩
      case measure => simp [intOf]; omega
    · obtain rfl : k = n := by omega
      go_wp2
      go_ret
      exact ⟨ret_int hS.out.symm, rfl⟩

set_option maxHeartbeats 800000 in
theorem l02Pips_any (a : Option Addr) (n ca : Nat) (xs : List Int) (B : Nat) (w : World) (k1 : Ints w B .i64 a n xs) (hn : 0 < n) (hn25 : n ≤ 25) (hX : ∀ i, i < n → 0 ≤ xs.getD i 0 ∧ xs.getD i 0 ≤ 15) :
    Calls Try.prog 107 #[.slice a n ca] w fun e w' => e = .returned (.int .i64 (pipS xs n)) ∧ w = w' := by
  have XB := Lib.hid hX
  clear hX
  go_enter Try.func107, Try.ntmps107
  obtain ⟨bb, off, rfl, hbb, hc0⟩ := k1.2 (by omega)
  have HC := Lib.hid hc0
  clear hc0 k1
  go_wp2_with fail
  go_loop [3, 4] (fun q i => ∃ (k : Nat) (S : Int), k ≤ n ∧ i = .int .i64 k ∧ q = .int .i64 S ∧ Hid (S = pipS xs k)) (fun _ i => n - (intOf i).toNat)
  case atStart => exact ⟨0, 0, Nat.zero_le _, rfl, rfl, rfl⟩
  case round =>
    obtain ⟨k, S, hk, rfl, rfl, hS⟩ := hrel
    have s1 := pipS_bd (xs := xs) k (by omega) (fun i hi => XB.out i (by omega))
    rw [← hS.out] at s1
    obtain ⟨s1, s2⟩ := s1
    by_cases hlt : k < n
    · have hcx := HC.out k hlt
      have hb1 := XB.out k hlt
      obtain ⟨x1, x2⟩ := hb1
      have hs := Lib.hid (show pipS xs (k + 1) = pipS xs k + ((k : Int) + 1) * xs.getD k 0 from rfl)
      obtain ⟨x, hx⟩ : ∃ x, xs.getD k 0 = x := ⟨_, rfl⟩
      rw [hx] at hcx x1 x2 hs
      clear hx
      have m1 : 0 ≤ ((k : Int) + 1) * x := Int.mul_nonneg (by omega) x1
      have m2 : ((k : Int) + 1) * x ≤ 25 * 15 := Int.mul_le_mul (by omega) x2 x1 (by omega)
      have m3 : ((k : Int) + 1) * x ≤ 375 := by omega
      clear m2
      have s3 : S ≤ 10000 := by omega
      clear s2
      go_wp2
      go_round
      case rel => exact ⟨k + 1, S + ((k : Int) + 1) * x, by omega, by go_num, rfl, by show _ = _; rw [hs.out, hS.out]⟩
      case measure => simp [intOf]; omega
    · obtain rfl : k = n := by omega
      go_wp2
      go_ret
      exact ⟨ret_int hS.out.symm, rfl⟩

set_option maxHeartbeats 800000 in
theorem highest_any (a : Option Addr) (n ca : Nat) (xs : List Int) (B : Nat) (w : World) (k1 : Ints w B .i64 a n xs) (hn : 0 < n) (hn25 : n ≤ 25) :
    Calls Try.prog 87 #[.slice a n ca] w fun e w' => e = .returned (.int .i64 (lastP xs n)) ∧ w = w' := by
  obtain ⟨bb, off, rfl, hbb, hc0⟩ := k1.2 (by omega)
  have HC := Lib.hid hc0
  clear hc0 k1
  go_enter Try.func87, Try.ntmps87
  go_wp2_with fail
  go_loop [3] (fun i => ∃ k : Nat, k ≤ n ∧ i = .int .i64 ((k : Int) - 1) ∧ Hid (lastP xs n = lastP xs k)) (fun i => (intOf i + 1).toNat)
  case atStart => exact ⟨n, Nat.le_refl _, rfl, rfl⟩
  case round =>
    obtain ⟨k, hk, rfl, hl⟩ := hrel
    by_cases h0 : k = 0
    · subst h0
      have HE := Lib.hid (show lastP xs n = -1 from hl.out)
      go_wp2
      go_ret
      exact ⟨ret_int HE.out, rfl⟩
    · obtain ⟨j, rfl⟩ : ∃ j, k = j + 1 := ⟨k - 1, by omega⟩
      have e1 : ((j + 1 : Nat) : Int) - 1 = (j : Int) := by omega
      rw [e1]
      clear e1
      have hcx := HC.out j (by omega)
      have h1 := Lib.hid (lastP_1 (xs := xs) (k := j))
      have h2 := Lib.hid (lastP_0 (xs := xs) (k := j))
      obtain ⟨x, hx⟩ : ∃ x, xs.getD j 0 = x := ⟨_, rfl⟩
      rw [hx] at hcx h1 h2
      clear hx
      by_cases x1 : 0 < x
      · have HE := Lib.hid (hl.out.trans (h1.out x1))
        go_wp2
        go_ret
        exact ⟨ret_int HE.out, rfl⟩
      · have HE := Lib.hid (hl.out.trans (h2.out x1))
        go_wp2
        go_round
        case rel => exact ⟨j, by omega, rfl, HE⟩
        case measure => simp [intOf]

set_option maxHeartbeats 800000 in
theorem l02Last_any (a : Option Addr) (n ca : Nat) (xs : List Int) (B : Nat) (w : World) (k1 : Ints w B .i64 a n xs) (hn : 0 < n) (hn25 : n ≤ 25) :
    Calls Try.prog 117 #[.slice a n ca] w fun e w' => e = .returned (.int .i64 (lastP xs n)) ∧ w = w' := by
  obtain ⟨bb, off, rfl, hbb, hc0⟩ := k1.2 (by omega)
  have HC := Lib.hid hc0
  clear hc0 k1
  go_enter Try.func117, Try.ntmps117
  go_wp2_with fail
  go_loop [3, 4] (fun q i => ∃ (k : Nat) (l : Int), k ≤ n ∧ i = .int .i64 k ∧ q = .int .i64 l ∧ Hid (l = lastP xs k)) (fun _ i => n - (intOf i).toNat)
  case atStart => exact ⟨0, -1, Nat.zero_le _, rfl, rfl, rfl⟩
  case round =>
    obtain ⟨k, l, hk, rfl, rfl, hl⟩ := hrel
    by_cases hlt : k < n
    · have hcx := HC.out k hlt
      have h1 := Lib.hid (lastP_1 (xs := xs) (k := k))
      have h2 := Lib.hid (lastP_0 (xs := xs) (k := k))
      obtain ⟨x, hx⟩ : ∃ x, xs.getD k 0 = x := ⟨_, rfl⟩
      rw [hx] at hcx h1 h2
      clear hx
      by_cases x1 : 0 < x
      · go_wp2
        go_round
        case rel => exact ⟨k + 1, k, by omega, by go_num, rfl, (h1.out x1).symm⟩
        case measure => simp [intOf]; omega
      · go_wp2
        go_round
        case rel => exact ⟨k + 1, l, by omega, by go_num, rfl, hl.out.trans (h2.out x1).symm⟩
        case measure => simp [intOf]; omega
    · obtain rfl : k = n := by omega
      go_wp2
      go_ret
      exact ⟨ret_int hl.out.symm, rfl⟩

set_option maxHeartbeats 800000 in
theorem l22Count_any (P : Nat) (lo hi : Int) (a : Option Addr) (n ca : Nat) (xs : List Int) (B : Nat) (w : World) (k1 : Ints w B .i64 a n xs) (hn : P < n) (hn25 : n ≤ 25) :
    Calls Try.prog 108 #[.slice a n ca, .int .i64 (P : Int), .int .i64 lo, .int .i64 hi] w fun e w' => e = .returned (.int .i64 ((ptsL (fun x => wB x lo hi) xs P).length : Int)) ∧ w = w' := by
  obtain ⟨bb, off, rfl, hbb, hc0⟩ := k1.2 (by omega)
  have HC := Lib.hid hc0
  clear hc0 k1
  go_enter Try.func108, Try.ntmps108
  go_wp2_with fail
  go_loop [9, 10] (fun q i => ∃ (k j : Nat), k ≤ P ∧ i = .int .i64 k ∧ q = .int .i64 (j : Int) ∧ Hid (j = (ptsL (fun x => wB x lo hi) xs k).length)) (fun _ i => P - (intOf i).toNat)
  case atStart => exact ⟨0, 0, Nat.zero_le _, rfl, rfl, rfl⟩
  case round =>
    obtain ⟨k, j, hk, rfl, rfl, hj⟩ := hrel
    have LE := ptsL_le (fun x => wB x lo hi) xs k
    rw [← hj.out] at LE
    by_cases hlt : k < P
    · have hcx := HC.out k (by omega)
      have HY := Lib.hid (ptsL_yes (f := (fun x => wB x lo hi)) (xs := xs) (k := k))
      have HN := Lib.hid (ptsL_no (f := (fun x => wB x lo hi)) (xs := xs) (k := k))
      obtain ⟨x, hx⟩ : ∃ x, xs.getD k 0 = x := ⟨_, rfl⟩
      rw [hx] at hcx HY HN
      clear hx
      cases hf : wB x lo hi
      · have HN2 := Lib.hid (HN.out hf)
        go_wp2_with ((go_at_call 79; refine (l01In_any _ _ _ _).mono ?_; rw [hf]; rintro e w' ⟨rfl, rfl⟩))
        go_round
        case rel => exact ⟨k + 1, j, by omega, by go_num, rfl, by show _ = _; rw [HN2.out]; exact hj.out⟩
        case measure => simp [intOf]; omega
      · have HY2 := Lib.hid (HY.out hf)
        go_wp2_with ((go_at_call 79; refine (l01In_any _ _ _ _).mono ?_; rw [hf]; rintro e w' ⟨rfl, rfl⟩))
        go_round
        case rel => exact ⟨k + 1, j + 1, by omega, by go_num, by go_num, by show _ = _; rw [HY2.out, List.length_append, ← hj.out]; rfl⟩
        case measure => simp [intOf]; omega
    · obtain rfl : k = P := by omega
      go_wp2
      go_ret
      exact ⟨ret_int (by rw [hj.out]), rfl⟩

set_option maxHeartbeats 800000 in
theorem boardOver_any (a : Option Addr) (n ca : Nat) (xs : List Int) (b : Option Addr) (m cb : Nat) (ys : List Int) (B : Nat) (w : World) (h1 : Ints w B .i64 a n xs) (h2 : Ints w B .i64 b m ys) (hB : B ≤ w.heap.size) (hn0 : 0 < n) (hm0 : 0 < m) (hn25 : n ≤ 25) (hm25 : m ≤ 25) (hX : ∀ i, i < n → 0 ≤ xs.getD i 0 ∧ xs.getD i 0 ≤ 15) (hY : ∀ i, i < m → 0 ≤ ys.getD i 0 ∧ ys.getD i 0 ≤ 15) :
    Calls Try.prog 86 #[bdV a n ca b m cb] w fun e w' => e = .returned (.bool (psum xs n == 0 || psum ys m == 0)) ∧ Below w.heap.size w w' := by
  have HB0 := (Below.refl w.heap.size w).alloc (Nat.le_refl _) (.cells #[.slice a n ca, .slice b m cb] 32)
  have k1 := Lib.hid (v_ints (o1 := (.cells #[.slice a n ca, .slice b m cb] 32)) h1 hB)
  have k2 := Lib.hid (v_ints (o1 := (.cells #[.slice a n ca, .slice b m cb] 32)) h2 hB)
  have XB := Lib.hid hX
  have YB := Lib.hid hY
  clear hX hY h1 h2
  obtain ⟨X, hX⟩ : ∃ X, psum xs n = X := ⟨_, rfl⟩
  obtain ⟨Y, hY⟩ : ∃ Y, psum ys m = Y := ⟨_, rfl⟩
  rw [hX, hY]
  have HX := Lib.hid hX
  have HY := Lib.hid hY
  clear hX hY
  cases hx0 : X == 0
  · go_enter Try.func86, Try.ntmps86
    go_wp2_with fail
    refine (total_any _ _ _ _ _ _ 15 (k1.out) (fun i hi => ⟨by have := (XB.out i hi).1; omega, (XB.out i hi).2⟩) (by omega) (by omega) (by omega)).mono ?_
    rintro e v ⟨rfl, rfl⟩
    rw [HX.out]
    go_wp2_with fail
    refine (total_any _ _ _ _ _ _ 15 (k2.out) (fun i hi => ⟨by have := (YB.out i hi).1; omega, (YB.out i hi).2⟩) (by omega) (by omega) (by omega)).mono ?_
    rintro e v ⟨rfl, rfl⟩
    rw [HY.out]
    go_wp2_with fail
    go_ret
    exact ⟨rfl, HB0⟩
  · go_enter Try.func86, Try.ntmps86
    go_wp2_with fail
    refine (total_any _ _ _ _ _ _ 15 (k1.out) (fun i hi => ⟨by have := (XB.out i hi).1; omega, (XB.out i hi).2⟩) (by omega) (by omega) (by omega)).mono ?_
    rintro e v ⟨rfl, rfl⟩
    rw [HX.out]
    go_wp2_with fail
    go_ret
    exact ⟨rfl, HB0⟩
end Go.Proofs.Ytoolggmomlmnbaa
