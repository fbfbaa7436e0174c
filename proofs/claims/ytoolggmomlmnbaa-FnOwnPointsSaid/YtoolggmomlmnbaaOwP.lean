/-
  The longest prime's first point and length answer as FnOwnPoints says; laws.hasInt.
-/
import Derived.Test.YtoolggmomlmnbaaSwap
import Derived.Deep.QuietTactic
import Derived.BigQuiet
namespace Go.Proofs.Ytoolggmomlmnbaa
open Go.ChangeShapes Go.WideShapes Go.ChangeAt Go.RowKit
set_option linter.unusedVariables false

theorem pr_inv (xs : List Int) : ∀ k : Nat, prRun xs k ≤ prLong xs k ∧
    (∀ i : Nat, (k : Int) - prRun xs k ≤ i → i < k → 2 ≤ xs.getD i 0) ∧
    (∀ i : Nat, (i : Int) = k - 1 - prRun xs k → xs.getD i 0 < 2) ∧
    (prLong xs k = 0 → prAt xs k = -1) ∧
    (0 < prLong xs k → 0 ≤ prAt xs k ∧ prAt xs k + prLong xs k ≤ k ∧ (prAt xs k + prLong xs k = k → prRun xs k = prLong xs k)) ∧
    (∀ i : Nat, prAt xs k ≤ i → (i : Int) < prAt xs k + prLong xs k → 2 ≤ xs.getD i 0) ∧
    (∀ i : Nat, (i : Int) = prAt xs k - 1 → xs.getD i 0 < 2) ∧
    (∀ i : Nat, (i : Int) = prAt xs k + prLong xs k → i < k → xs.getD i 0 < 2)
  | 0 => by
    refine ⟨by simp [prRun, prLong], fun i _ h => by omega, fun i h => ?_, fun _ => rfl, fun h => ?_, fun i h1 h2 => ?_, fun i h => ?_, fun i _ h => by omega⟩
    · simp [prRun] at h; try omega
    · simp [prLong] at h
    · simp [prAt, prLong] at h2; try omega
    · simp [prAt] at h; try omega
  | k + 1 => by
    obtain ⟨i1, i2, i3, i4, i5, i6, i7, i8⟩ := pr_inv xs k
    have rb := prRun_bd xs k
    have lb := prLong_bd xs k
    by_cases hx : xs.getD k 0 < 2
    · have hr := prRun_0 hx
      have hl : prLong xs (k + 1) = prLong xs k := prLong_0 (by rw [hr]; exact lb.1)
      have ha : prAt xs (k + 1) = prAt xs k := prAt_0 (by rw [hr]; exact lb.1)
      rw [hr, hl, ha]
      refine ⟨lb.1, fun i h1 h2 => by omega, fun i h => ?_, i4, fun h => ?_, i6, i7, fun i h1 h2 => ?_⟩
      · obtain rfl : i = k := by omega
        exact hx
      · obtain ⟨j1, j2, j3⟩ := i5 h
        exact ⟨j1, by omega, by omega⟩
      · by_cases e : i = k
        · subst e; exact hx
        · exact i8 i h1 (by omega)
    · have hr := prRun_1 (xs := xs) (k := k) (by omega)
      have r2 : ∀ i : Nat, ((k + 1 : Nat) : Int) - (prRun xs k + 1) ≤ i → i < k + 1 → 2 ≤ xs.getD i 0 := by
        intro i h1 h2
        by_cases e : i = k
        · subst e; omega
        · exact i2 i (by omega) (by omega)
      have r3 : ∀ i : Nat, (i : Int) = ((k + 1 : Nat) : Int) - 1 - (prRun xs k + 1) → xs.getD i 0 < 2 := fun i h => i3 i (by omega)
      by_cases hc : prLong xs k < prRun xs (k + 1)
      · rw [prLong_1 hc, prAt_1 hc, hr]
        refine ⟨Int.le_refl _, r2, r3, fun h => by omega, fun h => ⟨by omega, by omega, fun _ => rfl⟩, fun i h1 h2 => r2 i (by omega) (by omega), fun i h => r3 i (by omega), fun i h1 h2 => by omega⟩
      · rw [prLong_0 (by omega), prAt_0 (by omega), hr]
        rw [hr] at hc
        refine ⟨by omega, r2, r3, i4, fun h => ?_, i6, i7, fun i h1 h2 => ?_⟩
        · obtain ⟨j1, j2, j3⟩ := i5 h
          refine ⟨j1, by omega, fun e => by omega⟩
        · by_cases e : i = k
          · subst e
            have := i5 (by omega)
            omega
          · exact i8 i h1 (by omega)

/-- what the law asks of the longest prime, of the list of made points -/
theorem own_points {xs : List Int} {P : Nat} {f : Int → Bool} (hf : ∀ i, i < P → f (xs.getD i 0) = decide (2 ≤ xs.getD i 0)) :
    (∀ x : Int, prAt xs P ≤ x → x < prAt xs P + prLong xs P → x ∈ ptsL f xs P) ∧ prAt xs P - 1 ∉ ptsL f xs P ∧ prAt xs P + prLong xs P ∉ ptsL f xs P ∧ (prLong xs P = 0 → prAt xs P = -1) ∧ (prLong xs P ≠ 0 → 0 ≤ prAt xs P) ∧ prAt xs P + prLong xs P ≤ P ∧ 0 ≤ prLong xs P := by
  obtain ⟨i1, i2, i3, i4, i5, i6, i7, i8⟩ := pr_inv xs P
  have lb := prLong_bd xs P
  have ab := prAt_bd xs P
  refine ⟨fun x h1 h2 => ?_, fun hm => ?_, fun hm => ?_, i4, fun h => (i5 (by omega)).1, ?_, lb.1⟩
  · have h0 : 0 < prLong xs P := by omega
    obtain ⟨j1, j2, _⟩ := i5 h0
    obtain ⟨i, rfl⟩ := Int.eq_ofNat_of_zero_le (show 0 ≤ x by omega)
    refine ptsL_mem.2 ⟨i, by omega, rfl, ?_⟩
    rw [hf i (by omega)]
    exact decide_eq_true (i6 i h1 h2)
  · obtain ⟨i, h1, h2, h3⟩ := ptsL_mem.1 hm
    rw [hf i h1] at h3
    have := i7 i h2.symm
    have := of_decide_eq_true h3
    omega
  · obtain ⟨i, h1, h2, h3⟩ := ptsL_mem.1 hm
    rw [hf i h1] at h3
    have := i8 i h2.symm h1
    have := of_decide_eq_true h3
    omega
  · by_cases h : prLong xs P = 0
    · rw [h, i4 h]; omega
    · exact (i5 (by omega)).2.1

set_option maxHeartbeats 400000 in
theorem hasInt_any (a : Option Addr) (n c B : Nat) (xs : List Int) (x : Int) (w : World) (h : Ints w B .i64 a n xs) (hn : n ≤ 1048576) :
    Calls Try.prog 39 #[.slice a n c, .int .i64 x] w fun e w' => e = .returned (.bool (decide (x ∈ xs))) ∧ w = w' := by
  have hl := h.1
  rcases h.cases with ⟨rfl, rfl⟩ | ⟨hn0, b, off, rfl, hb, hc0⟩
  · have HX := Lib.hid (show decide (x ∈ ([] : List Int)) = false by simp)
    clear hl h
    go_enter Try.func39, Try.ntmps39
    go_wp2
    go_loop [5] (fun i => i = .int .i64 0) (fun _ => 0)
    case atStart => rfl
    case round =>
      subst hrel
      go_wp2
      go_ret
      exact ⟨ret_bool HX.out, rfl⟩
  · have hc := Lib.hid hc0
    have HL := Lib.hid hl
    clear h hc0 hl
    go_enter Try.func39, Try.ntmps39
    go_wp2
    go_loop [5] (fun i => ∃ k : Nat, k ≤ n ∧ i = .int .i64 k ∧ Hid (∀ j, j < k → xs.getD j 0 ≠ x)) (fun i => n - (intOf i).toNat)
    case atStart => exact ⟨0, Nat.zero_le _, rfl, Lib.hid (fun j hj => by omega)⟩
    case round =>
      obtain ⟨k, hk, rfl, hno⟩ := hrel
      by_cases hlt : k < n
      · have hcx := hc.out k hlt
        obtain ⟨y, hy⟩ : ∃ y, xs.getD k 0 = y := ⟨_, rfl⟩
        rw [hy] at hcx
        have HY := Lib.hid hy
        clear hy
        by_cases hxy : x = y
        · have HN := Lib.hid (show decide (x ∈ xs) = true by
            refine decide_eq_true ?_
            rw [hxy, ← HY.out, List.getD_eq_getElem?_getD, List.getElem?_eq_getElem (by have := HL.out; omega)]
            exact List.getElem_mem _)
          subst hxy
          go_wp2
          go_ret
          exact ⟨ret_bool HN.out, rfl⟩
        · have hxy' : (x == y) = false := by simpa using hxy
          have hxy2 : (y == x) = false := by simpa using fun e => hxy e.symm
          have HN : Hid (∀ j, j < k + 1 → xs.getD j 0 ≠ x) := Lib.hid (fun j hj => by
            by_cases e : j = k
            · subst e; rw [HY.out]; exact fun e => hxy e.symm
            · exact hno.out j (by omega))
          clear hxy
          go_wp2
          go_round
          case rel => exact ⟨k + 1, by omega, by go_num, HN⟩
          case measure => simp [intOf]; omega
      · obtain rfl : k = n := by omega
        have HN := Lib.hid (show decide (x ∈ xs) = false by
          refine decide_eq_false (fun hm => ?_)
          obtain ⟨j, hj, e⟩ := List.getElem_of_mem hm
          refine hno.out j (by have := HL.out; omega) ?_
          rw [List.getD_eq_getElem?_getD, List.getElem?_eq_getElem hj]; exact e)
        go_wp2
        go_ret
        exact ⟨ret_bool HN.out, rfl⟩
end Go.Proofs.Ytoolggmomlmnbaa
