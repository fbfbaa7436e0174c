/-
  The walks of the small functions below FeaturesOf (both packages): pips, the highest checker, contact, counts of points.
-/
import Derived.Test.YtjfmpnkbocilpaaFeatW
namespace Go.Proofs.Ytjfmpnkbocilpaa
open Go.ChangeShapes Go.WideShapes Go.ChangeAt Go.RowKit Go.Joins Go.Deep
set_option linter.unusedVariables false




set_option maxHeartbeats 800000 in
theorem highest_any (a : Option Addr) (n ca : Nat) (xs : List Int) (B : Nat) (w : World) (k1 : Ints w B .i64 a n xs) (hn : 0 < n) (hn25 : n ≤ 25) :
    Calls Try.prog 54 #[.slice a n ca] w fun e w' => e = .returned (.int .i64 (lastP xs n)) ∧ w = w' := by
  obtain ⟨bb, off, rfl, hbb, hc0⟩ := k1.2 (by omega)
  have HC := Lib.hid hc0
  clear hc0 k1
  go_enter Try.func54, Try.ntmps54
  go_wp2_with fail
  go_loop [3] (fun i => ∃ k : Nat, k ≤ n ∧ i = .int .i64 ((k : Int) - 1) ∧ Hid (lastP xs n = lastP xs k)) (fun i => (intOf i + 1).toNat)
  case atStart => exact ⟨n, Nat.le_refl _, rfl, rfl⟩
  case round =>
    obtain ⟨k, hk, rfl, hl⟩ := hrel
    by_cases h0 : k = 0
    · subst h0
      have HE := Lib.hid (show lastP xs n = -1 from hl.out)
      go_wp2
      go_ret
      exact ⟨ret_int HE.out, rfl⟩
    · obtain ⟨j, rfl⟩ : ∃ j, k = j + 1 := ⟨k - 1, by omega⟩
      have e1 : ((j + 1 : Nat) : Int) - 1 = (j : Int) := by omega
      rw [e1]
      clear e1
      have hcx := HC.out j (by omega)
      have h1 := Lib.hid (lastP_1 (xs := xs) (k := j))
      have h2 := Lib.hid (lastP_0 (xs := xs) (k := j))
      obtain ⟨x, hx⟩ : ∃ x, xs.getD j 0 = x := ⟨_, rfl⟩
      rw [hx] at hcx h1 h2
      clear hx
      by_cases x1 : 0 < x
      · have HE := Lib.hid (hl.out.trans (h1.out x1))
        go_wp2
        go_ret
        exact ⟨ret_int HE.out, rfl⟩
      · have HE := Lib.hid (hl.out.trans (h2.out x1))
        go_wp2
        go_round
        case rel => exact ⟨j, by omega, rfl, HE⟩
        case measure => simp [intOf]

set_option maxHeartbeats 800000 in
theorem l02Last_any (a : Option Addr) (n ca : Nat) (xs : List Int) (B : Nat) (w : World) (k1 : Ints w B .i64 a n xs) (hn : 0 < n) (hn25 : n ≤ 25) :
    Calls Try.prog 75 #[.slice a n ca] w fun e w' => e = .returned (.int .i64 (lastP xs n)) ∧ w = w' := by
  obtain ⟨bb, off, rfl, hbb, hc0⟩ := k1.2 (by omega)
  have HC := Lib.hid hc0
  clear hc0 k1
  go_enter Try.func75, Try.ntmps75
  go_wp2_with fail
  go_loop [3, 4] (fun q i => ∃ (k : Nat) (l : Int), k ≤ n ∧ i = .int .i64 k ∧ q = .int .i64 l ∧ Hid (l = lastP xs k)) (fun _ i => n - (intOf i).toNat)
  case atStart => exact ⟨0, -1, Nat.zero_le _, rfl, rfl, rfl⟩
  case round =>
    obtain ⟨k, l, hk, rfl, rfl, hl⟩ := hrel
    by_cases hlt : k < n
    · have hcx := HC.out k hlt
      have h1 := Lib.hid (lastP_1 (xs := xs) (k := k))
      have h2 := Lib.hid (lastP_0 (xs := xs) (k := k))
      obtain ⟨x, hx⟩ : ∃ x, xs.getD k 0 = x := ⟨_, rfl⟩
      rw [hx] at hcx h1 h2
      clear hx
      by_cases x1 : 0 < x
      · go_wp2
        go_round
        case rel => exact ⟨k + 1, k, by omega, by go_num, rfl, (h1.out x1).symm⟩
        case measure => simp [intOf]; omega
      · go_wp2
        go_round
        case rel => exact ⟨k + 1, l, by omega, by go_num, rfl, hl.out.trans (h2.out x1).symm⟩
        case measure => simp [intOf]; omega
    · obtain rfl : k = n := by omega
      go_wp2
      go_ret
      exact ⟨ret_int hl.out.symm, rfl⟩


set_option maxHeartbeats 800000 in
theorem boardOver_any (a : Option Addr) (n ca : Nat) (xs : List Int) (b : Option Addr) (m cb : Nat) (ys : List Int) (B : Nat) (w : World) (h1 : Ints w B .i64 a n xs) (h2 : Ints w B .i64 b m ys) (hB : B ≤ w.heap.size) (hn0 : 0 < n) (hm0 : 0 < m) (hn25 : n ≤ 25) (hm25 : m ≤ 25) (hX : ∀ i, i < n → 0 ≤ xs.getD i 0 ∧ xs.getD i 0 ≤ 15) (hY : ∀ i, i < m → 0 ≤ ys.getD i 0 ∧ ys.getD i 0 ≤ 15) :
    Calls Try.prog 51 #[bdV a n ca b m cb] w fun e w' => e = .returned (.bool (psum xs n == 0 || psum ys m == 0)) ∧ Below w.heap.size w w' := by
  have HB0 := (Below.refl w.heap.size w).alloc (Nat.le_refl _) (.cells #[.slice a n ca, .slice b m cb] 32)
  have k1 := Lib.hid (v_ints (o1 := (.cells #[.slice a n ca, .slice b m cb] 32)) h1 hB)
  have k2 := Lib.hid (v_ints (o1 := (.cells #[.slice a n ca, .slice b m cb] 32)) h2 hB)
  have XB := Lib.hid hX
  have YB := Lib.hid hY
  clear hX hY h1 h2
  obtain ⟨X, hX⟩ : ∃ X, psum xs n = X := ⟨_, rfl⟩
  obtain ⟨Y, hY⟩ : ∃ Y, psum ys m = Y := ⟨_, rfl⟩
  rw [hX, hY]
  have HX := Lib.hid hX
  have HY := Lib.hid hY
  clear hX hY
  cases hx0 : X == 0
  · go_enter Try.func51, Try.ntmps51
    go_wp2_with fail
    refine (total_any _ _ _ _ _ _ 15 (k1.out) (fun i hi => ⟨by have := (XB.out i hi).1; omega, (XB.out i hi).2⟩) (by omega) (by omega) (by omega)).mono ?_
    rintro e v ⟨rfl, rfl⟩
    rw [HX.out]
    go_wp2_with fail
    refine (total_any _ _ _ _ _ _ 15 (k2.out) (fun i hi => ⟨by have := (YB.out i hi).1; omega, (YB.out i hi).2⟩) (by omega) (by omega) (by omega)).mono ?_
    rintro e v ⟨rfl, rfl⟩
    rw [HY.out]
    go_wp2_with fail
    go_ret
    exact ⟨rfl, HB0⟩
  · go_enter Try.func51, Try.ntmps51
    go_wp2_with fail
    refine (total_any _ _ _ _ _ _ 15 (k1.out) (fun i hi => ⟨by have := (XB.out i hi).1; omega, (XB.out i hi).2⟩) (by omega) (by omega) (by omega)).mono ?_
    rintro e v ⟨rfl, rfl⟩
    rw [HX.out]
    go_wp2_with fail
    go_ret
    exact ⟨rfl, HB0⟩
end Go.Proofs.Ytjfmpnkbocilpaa
