/-
  The walks of small functions of integers: within, l01In, powerUpTo, l16Power and what calls them.
  Each says what the call returns; none writes anything.
-/
import Derived.Test.YtkioliioakmepaaRows
import Derived.Test.YtkioliioakmepaaPlain
import Derived.WalkKit
import Derived.ProofKit
import Derived.WalkSpells
import Derived.WalkLawsBesides
import Derived.BigQuiet
import Derived.Deep.QuietTactic
import Derived.Outline
import Derived.Lib.Hide
namespace Go.Proofs.Ytkioliioakmepaa
open Go.ChangeShapes Go.WideShapes Go.ChangeAt Go.RowKit

theorem within_any (x lo hi : Int) (w : World) : Calls Try.prog 76 #[.int .i64 x, .int .i64 lo, .int .i64 hi] w fun e w' => e = .returned (.bool (wB x lo hi)) ∧ w = w' := by
  by_cases h1 : lo ≤ x
  · by_cases h2 : x ≤ hi
    · go_enter Try.func76, Try.ntmps76
      go_wp2
      go_ret
      exact ⟨ret_bool (wB_true.2 ⟨h1, h2⟩), rfl⟩
    · go_enter Try.func76, Try.ntmps76
      go_wp2
      go_ret
      exact ⟨ret_bool (wB_false.2 (by omega)), rfl⟩
  · go_enter Try.func76, Try.ntmps76
    go_wp2
    go_ret
    exact ⟨ret_bool (wB_false.2 (by omega)), rfl⟩

theorem l01In_any (x lo hi : Int) (w : World) : Calls Try.prog 62 #[.int .i64 x, .int .i64 lo, .int .i64 hi] w fun e w' => e = .returned (.bool (wB x lo hi)) ∧ w = w' := by
  by_cases h1 : lo ≤ x
  · by_cases h2 : x ≤ hi
    · go_enter Try.func62, Try.ntmps62
      go_wp2
      go_ret
      exact ⟨ret_bool (wB_true.2 ⟨h1, h2⟩), rfl⟩
    · go_enter Try.func62, Try.ntmps62
      go_wp2
      go_ret
      exact ⟨ret_bool (wB_false.2 (by omega)), rfl⟩
  · go_enter Try.func62, Try.ntmps62
    go_wp2
    go_ret
    exact ⟨ret_bool (wB_false.2 (by omega)), rfl⟩

theorem powerUpTo_any (x most : Int) (w : World) (hm : most ≤ 1024) : Calls Try.prog 89 #[.int .i64 x, .int .i64 most] w fun e w' => e = .returned (.bool (pwB x most)) ∧ w = w' := by
  by_cases h : wB x 1 most = true
  · obtain ⟨h1, h2⟩ := wB_true.1 h
    have H := Lib.hid (pwB_and hm h1 h2)
    go_enter Try.func89, Try.ntmps89
    go_wp2_with ((go_at_call 76; refine (within_any _ _ _ _).mono ?_; rintro e w' ⟨rfl, rfl⟩))
    go_ret
    exact ⟨ret_bool H.out.symm, rfl⟩
  · have h : wB x 1 most = false := by simpa using h
    have H := Lib.hid (pwB_low (wB_false.1 h))
    go_enter Try.func89, Try.ntmps89
    go_wp2_with ((go_at_call 76; refine (within_any _ _ _ _).mono ?_; rintro e w' ⟨rfl, rfl⟩))
    go_ret
    exact ⟨ret_bool H.out, rfl⟩

set_option maxHeartbeats 400000 in
theorem l16Power_any (x most : Int) (w : World) (hm : most ≤ 1024) : Calls Try.prog 101 #[.int .i64 x, .int .i64 most] w fun e w' => e = .returned (.bool (pwB x most)) ∧ w = w' := by
  go_enter Try.func101, Try.ntmps101
  go_wp2
  go_loop [5] (fun p => ∃ k : Int, powAt x k ∧ p = .int .i64 k) (fun p => (2048 - intOf p).toNat)
  case atStart => exact ⟨1, powAt_one x, rfl⟩
  case round =>
    obtain ⟨k, hk, rfl⟩ := hrel
    have hb := hk.bounds
    by_cases h1 : k ≤ most
    · by_cases h2 : k = x
      · have H := Lib.hid (hk.yes h1 h2)
        subst h2
        go_wp2
        go_ret
        exact ⟨ret_bool H.out, rfl⟩
      · have H := Lib.hid (hk.next h2 (by omega))
        have h2' : (k == x) = false := by simpa using h2
        go_wp2
        go_round
        case rel => exact ⟨_, H.out, rfl⟩
        case measure => simp [intOf]; omega
    · have H := Lib.hid (hk.no (most := most) (by omega))
      go_wp2
      go_ret
      exact ⟨ret_bool H.out, rfl⟩

theorem isCubeValue_any (x : Int) (w : World) : Calls Try.prog 49 #[.int .i64 x] w fun e w' => e = .returned (.bool (pwB x 64)) ∧ w = w' := by
  go_enter Try.func49, Try.ntmps49
  go_wp2_with ((go_at_call 89; refine (powerUpTo_any _ _ _ (by omega)).mono ?_; rintro e w' ⟨rfl, rfl⟩))
  go_ret
  exact ⟨rfl, rfl⟩

theorem l19Cube_any (x : Int) (w : World) : Calls Try.prog 92 #[.int .i64 x] w fun e w' => e = .returned (.bool (pwB x 64)) ∧ w = w' := by
  go_enter Try.func92, Try.ntmps92
  go_wp2_with ((go_at_call 101; refine (l16Power_any _ _ _ (by omega)).mono ?_; rintro e w' ⟨rfl, rfl⟩))
  go_ret
  exact ⟨rfl, rfl⟩
end Go.Proofs.Ytkioliioakmepaa
