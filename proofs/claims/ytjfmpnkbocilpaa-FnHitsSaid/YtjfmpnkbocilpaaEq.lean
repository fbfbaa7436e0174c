/-
  The walks of the comparisons and sums over slices of integers.
-/
import Derived.Test.YtjfmpnkbocilpaaMem
namespace Go.Proofs.Ytjfmpnkbocilpaa
open Go.ChangeShapes Go.WideShapes Go.ChangeAt Go.RowKit

set_option maxHeartbeats 400000 in
theorem eqInt64S_same (a a' : Option Addr) (n c c' B B' : Nat) (xs : List Int) (w : World) (h : Ints w B .i64 a n xs) (h' : Ints w B' .i64 a' n xs) (hn : n ≤ 1048576) :
    Calls Try.prog 28 #[.slice a n c, .slice a' n c'] w fun e w' => e = .returned (.bool true) ∧ ∃ m, w.drewN m = w' := by
  rcases h.cases with ⟨rfl, rfl⟩ | ⟨hn0, b, off, rfl, hb, hc⟩
  · go_enter Try.func28, Try.ntmps28
    go_wp2
    go_loop [5] (fun i => i = .int .i64 0) (fun _ => 0)
    case atStart => rfl
    case round =>
      subst hrel
      go_wp2
      go_ret
      exact ⟨rfl, 0, rfl⟩
  · obtain ⟨b', off', rfl, hb', hc'⟩ := h'.2 hn0
    clear h h'
    go_enter Try.func28, Try.ntmps28
    go_wp2
    go_loopw [5] (fun i wr => ∃ k m : Nat, k ≤ n ∧ i = .int .i64 k ∧ wr = w.drewN m) (fun i _ => n - (intOf i).toNat)
    case atStart => exact ⟨0, 0, Nat.zero_le _, rfl, rfl⟩
    case round =>
      obtain ⟨k, m, hk, rfl, rfl⟩ := hrel
      by_cases hlt : k < n
      · have hcx := hc k hlt
        have hcy := hc' k hlt
        go_wp2
        go_quiet (fail)
        go_wp2
        go_roundw
        case rel => exact ⟨k + 1, _, by omega, by go_num, rfl⟩
        case measure => simp [intOf]; omega
      · go_wp2
        go_ret
        exact ⟨rfl, m, rfl⟩

theorem total_any (a : Option Addr) (n c B : Nat) (xs : List Int) (w : World) (M : Int) (h : Ints w B .i64 a n xs) (hM : ∀ i, i < n → -M ≤ xs.getD i 0 ∧ xs.getD i 0 ≤ M) (hn : (n : Int) * M ≤ 2305843009213693952) (hn2 : n ≤ 1048576) (hM1 : M ≤ 2305843009213693952) :
    Calls Try.prog 42 #[.slice a n c] w fun e w' => e = .returned (.int .i64 (psum xs n)) ∧ w = w' := by
  rcases h.cases with ⟨rfl, rfl⟩ | ⟨hn0, b, off, rfl, hb, hc0⟩
  · go_enter Try.func42, Try.ntmps42
    go_wp2
    go_loop [3, 8] (fun t i => t = .int .i64 0 ∧ i = .int .i64 0) (fun _ _ => 0)
    case atStart => exact ⟨rfl, rfl⟩
    case round =>
      obtain ⟨rfl, rfl⟩ := hrel
      go_wp2
      go_ret
      exact ⟨rfl, rfl⟩
  · have hc := Lib.hid hc0
    clear h hc0
    go_enter Try.func42, Try.ntmps42
    go_wp2
    go_loop [3, 8] (fun t i => ∃ (k : Nat) (s : Int), k ≤ n ∧ i = .int .i64 k ∧ t = .int .i64 s ∧ Hid (s = psum xs k)) (fun _ i => n - (intOf i).toNat)
    case atStart => exact ⟨0, 0, Nat.zero_le _, rfl, rfl, rfl⟩
    case round =>
      obtain ⟨k, s, hk, rfl, rfl, hs⟩ := hrel
      obtain ⟨s1, s2⟩ := psum_bd xs M k (fun i hi => hM i (by omega))
      rw [← hs.out] at s1 s2
      by_cases hlt : k < n
      · have hM0 : 0 ≤ M := by have := hM k hlt; omega
        have hkM : (k : Int) * M ≤ (n : Int) * M := Int.mul_le_mul_of_nonneg_right (by omega) hM0
        have s3 : -2305843009213693952 ≤ s := by omega
        have s4 : s ≤ 2305843009213693952 := by omega
        have hcx := hc.out k hlt
        obtain ⟨x1, x2⟩ := hM k hlt
        have hss := Lib.hid (psum_succ xs k)
        obtain ⟨x, hx⟩ : ∃ x, xs.getD k 0 = x := ⟨_, rfl⟩
        rw [hx] at hcx x1 x2
        have HX := Lib.hid hx
        clear hx s1 s2 hkM
        have x3 : -2305843009213693952 ≤ x := by omega
        have x4 : x ≤ 2305843009213693952 := by omega
        clear x1 x2 hn hM1 hM hM0
        go_wp2
        go_round
        case rel => exact ⟨k + 1, _, by omega, by go_num, rfl, by show _ = _; rw [hss.out, HX.out, hs.out]⟩
        case measure => simp [intOf]; omega
      · clear s1 s2
        go_wp2
        go_ret
        exact ⟨ret_int (by rw [hs.out, show k = n by omega]), rfl⟩

/-- what both packages' IsBalances returns -/
def balB (n : Nat) (xs : List Int) : Bool := decide (n ≤ 8) && (allTo (fun x => wB x (-60000000) 60000000) xs n && psum xs n == 0)
theorem balB_big {n : Nat} {xs : List Int} (h : 8 < n) : balB n xs = false := by
  unfold balB
  have : decide (n ≤ 8) = false := by simp; omega
  rw [this, Bool.false_and]
theorem balB_no {n i : Nat} {xs : List Int} (hi : i < n) (h : wB (xs.getD i 0) (-60000000) 60000000 = false) : balB n xs = false := by
  unfold balB
  rw [allTo_no (p := fun x => wB x (-60000000) 60000000) hi h, Bool.false_and, Bool.and_false]
theorem balB_yes {n : Nat} {xs : List Int} (h : n ≤ 8) (ha : allTo (fun x => wB x (-60000000) 60000000) xs n = true) : balB n xs = (psum xs n == 0) := by
  unfold balB
  rw [ha, Bool.true_and]
  have : decide (n ≤ 8) = true := by simpa using h
  rw [this, Bool.true_and]


end Go.Proofs.Ytjfmpnkbocilpaa
