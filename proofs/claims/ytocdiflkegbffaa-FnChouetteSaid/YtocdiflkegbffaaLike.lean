/-
  laws.likeInts at equal lists.
-/
import Derived.Test.YtocdiflkegbffaaEq
import Derived.Deep.QuietTactic
import Derived.BigQuiet
namespace Go.Proofs.Ytocdiflkegbffaa
open Go.ChangeShapes Go.WideShapes Go.ChangeAt Go.RowKit

set_option maxHeartbeats 400000 in
theorem likeInts_same (a a' : Option Addr) (n c c' B B' : Nat) (xs : List Int) (w : World) (h : Ints w B .i64 a n xs) (h' : Ints w B' .i64 a' n xs) (hn : n ≤ 1048576) :
    Calls Try.prog 48 #[.slice a n c, .slice a' n c'] w fun e w' => e = .returned (.bool true) ∧ ∃ m, w.drewN m = w' := by
  rcases h.cases with ⟨rfl, rfl⟩ | ⟨hn0, b, off, rfl, hb, hc⟩
  · go_enter Try.func48, Try.ntmps48
    go_wp2
    go_loop [5] (fun i => i = .int .i64 0) (fun _ => 0)
    case atStart => rfl
    case round =>
      subst hrel
      go_wp2
      go_ret
      exact ⟨rfl, 0, rfl⟩
  · obtain ⟨b', off', rfl, hb', hc'⟩ := h'.2 hn0
    clear h h'
    go_enter Try.func48, Try.ntmps48
    go_wp2
    go_loopw [5] (fun i wr => ∃ k m : Nat, k ≤ n ∧ i = .int .i64 k ∧ wr = w.drewN m) (fun i _ => n - (intOf i).toNat)
    case atStart => exact ⟨0, 0, Nat.zero_le _, rfl, rfl⟩
    case round =>
      obtain ⟨k, m, hk, rfl, rfl⟩ := hrel
      by_cases hlt : k < n
      · have hcx := hc k hlt
        have hcy := hc' k hlt
        go_wp2
        go_quiet (fail)
        go_wp2
        go_roundw
        case rel => exact ⟨k + 1, _, by omega, by go_num, rfl⟩
        case measure => simp [intOf]; omega
      · go_wp2
        go_ret
        exact ⟨rfl, m, rfl⟩
end Go.Proofs.Ytocdiflkegbffaa
