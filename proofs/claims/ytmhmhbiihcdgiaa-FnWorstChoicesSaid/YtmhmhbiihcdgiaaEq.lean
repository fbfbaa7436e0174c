/-
  The walks of the comparisons and sums over slices of integers.
-/
import Derived.Test.YtmhmhbiihcdgiaaMem
namespace Go.Proofs.Ytmhmhbiihcdgiaa
open Go.ChangeShapes Go.WideShapes Go.ChangeAt Go.RowKit

set_option maxHeartbeats 400000 in
theorem eqInt64S_same (a a' : Option Addr) (n c c' B B' : Nat) (xs : List Int) (w : World) (h : Ints w B .i64 a n xs) (h' : Ints w B' .i64 a' n xs) (hn : n ≤ 1048576) :
    Calls Try.prog 10 #[.slice a n c, .slice a' n c'] w fun e w' => e = .returned (.bool true) ∧ ∃ m, w.drewN m = w' := by
  rcases h.cases with ⟨rfl, rfl⟩ | ⟨hn0, b, off, rfl, hb, hc⟩
  · go_enter Try.func10, Try.ntmps10
    go_wp2
    go_loop [5] (fun i => i = .int .i64 0) (fun _ => 0)
    case atStart => rfl
    case round =>
      subst hrel
      go_wp2
      go_ret
      exact ⟨rfl, 0, rfl⟩
  · obtain ⟨b', off', rfl, hb', hc'⟩ := h'.2 hn0
    clear h h'
    go_enter Try.func10, Try.ntmps10
    go_wp2
    go_loopw [5] (fun i wr => ∃ k m : Nat, k ≤ n ∧ i = .int .i64 k ∧ wr = w.drewN m) (fun i _ => n - (intOf i).toNat)
    case atStart => exact ⟨0, 0, Nat.zero_le _, rfl, rfl⟩
    case round =>
      obtain ⟨k, m, hk, rfl, rfl⟩ := hrel
      by_cases hlt : k < n
      · have hcx := hc k hlt
        have hcy := hc' k hlt
        go_wp2
        go_quiet (fail)
        go_wp2
        go_roundw
        case rel => exact ⟨k + 1, _, by omega, by go_num, rfl⟩
        case measure => simp [intOf]; omega
      · go_wp2
        go_ret
        exact ⟨rfl, m, rfl⟩


/-- what both packages' IsBalances returns -/
def balB (n : Nat) (xs : List Int) : Bool := decide (n ≤ 8) && (allTo (fun x => wB x (-60000000) 60000000) xs n && psum xs n == 0)
theorem balB_big {n : Nat} {xs : List Int} (h : 8 < n) : balB n xs = false := by
  unfold balB
  have : decide (n ≤ 8) = false := by simp; omega
  rw [this, Bool.false_and]
theorem balB_no {n i : Nat} {xs : List Int} (hi : i < n) (h : wB (xs.getD i 0) (-60000000) 60000000 = false) : balB n xs = false := by
  unfold balB
  rw [allTo_no (p := fun x => wB x (-60000000) 60000000) hi h, Bool.false_and, Bool.and_false]
theorem balB_yes {n : Nat} {xs : List Int} (h : n ≤ 8) (ha : allTo (fun x => wB x (-60000000) 60000000) xs n = true) : balB n xs = (psum xs n == 0) := by
  unfold balB
  rw [ha, Bool.true_and]
  have : decide (n ≤ 8) = true := by simpa using h
  rw [this, Bool.true_and]


end Go.Proofs.Ytmhmhbiihcdgiaa
