/-
  The walks of Activation (both packages) and l23Floor.
-/
import Derived.Test.YtcpbaigghhjceaaBase
import Derived.Below
namespace Go.Proofs.Ytcpbaigghhjceaa
open Go.ChangeShapes Go.WideShapes Go.ChangeAt Go.RowKit

/-- what both packages' Activation returns -/
def act (x : Int) : Int := if x ≤ -16384 then 0 else if 16384 ≤ x then 4096 else 2048 + x / 8
theorem act_low {x : Int} (h : x ≤ -16384) : act x = 0 := by rw [act, if_pos h]
theorem act_high {x : Int} (h : 16384 ≤ x) : act x = 4096 := by rw [act, if_neg (by omega), if_pos h]
theorem act_mid {x : Int} (h : -16384 < x) (h' : x < 16384) : act x = 2048 + x / 8 := by rw [act, if_neg (by omega), if_neg (by omega)]

theorem floor_tdiv {a b : Int} (hb : 0 < b) : a / b = a.tdiv b - (if a.tmod b < 0 then 1 else 0) := by
  have h1 := Int.mul_tdiv_add_tmod a b
  have h2 := Int.tmod_lt_of_pos a hb
  have h3 : -b < a.tmod b := Int.lt_tmod_of_pos a hb
  split
  · rename_i h
    have : a = b * (a.tdiv b - 1) + (a.tmod b + b) := by rw [Int.mul_sub]; omega
    have e : a / b = (b * (a.tdiv b - 1) + (a.tmod b + b)) / b := by rw [← this]
    rw [e, Int.mul_add_ediv_left _ _ (by omega), Int.ediv_eq_zero_of_lt (by omega) (by omega)]
    omega
  · have : a = b * a.tdiv b + a.tmod b := by omega
    have e : a / b = (b * a.tdiv b + a.tmod b) / b := by rw [← this]
    rw [e, Int.mul_add_ediv_left _ _ (by omega), Int.ediv_eq_zero_of_lt (by omega) (by omega)]
    omega

theorem tdiv_bd {a b M : Int} (hb : 0 < b) (h1 : -M ≤ a) (h2 : a ≤ M) : -M ≤ a.tdiv b ∧ a.tdiv b ≤ M := by
  rcases Int.le_total 0 a with h | h
  · rw [Int.tdiv_eq_ediv_of_nonneg h]
    have e1 := Int.ediv_nonneg h (by omega : 0 ≤ b)
    have e2 := Int.ediv_le_self b h
    omega
  · obtain ⟨c, rfl⟩ : ∃ c, a = -c := ⟨-a, by omega⟩
    rw [Int.neg_tdiv, Int.tdiv_eq_ediv_of_nonneg (by omega : 0 ≤ c)]
    have e1 := Int.ediv_nonneg (by omega : 0 ≤ c) (by omega : 0 ≤ b)
    have e2 := Int.ediv_le_self b (by omega : 0 ≤ c)
    omega

theorem impl_Activation_any (x : Int) (w : World) : Calls Try.prog 56 #[.int .i64 x] w fun e w' => e = .returned (.int .i64 (act x)) ∧ w = w' := by
  by_cases h1 : x ≤ -16384
  · go_enter Try.func56, Try.ntmps56
    go_wp2
    go_ret
    exact ⟨ret_int (act_low h1), rfl⟩
  · by_cases h2 : 16384 ≤ x
    · go_enter Try.func56, Try.ntmps56
      go_wp2
      go_ret
      exact ⟨ret_int (act_high h2), rfl⟩
    · go_enter Try.func56, Try.ntmps56
      go_wp2
      go_ret
      exact ⟨ret_int (act_mid (by omega) (by omega)), rfl⟩

theorem l23Floor_any (a b : Int) (w : World) (hb : 0 < b) (hb2 : b ≤ 9223372036854775807) (h1 : -4611686018427387904 ≤ a) (h2 : a ≤ 4611686018427387904) : Calls Try.prog 62 #[.int .i64 a, .int .i64 b] w fun e w' => e = .returned (.int .i64 (a / b)) ∧ w = w' := by
  have H := Lib.hid (floor_tdiv (a := a) hb)
  obtain ⟨t1, t2⟩ := tdiv_bd hb h1 h2
  by_cases h : a.tmod b < 0
  · go_enter Try.func62, Try.ntmps62
    go_wp2
    go_ret
    exact ⟨ret_int (by rw [H.out, if_pos h]), rfl⟩
  · go_enter Try.func62, Try.ntmps62
    go_wp2
    go_ret
    exact ⟨ret_int (by rw [H.out, if_neg (by omega), Int.sub_zero]), rfl⟩

theorem spec_Activation_any (x : Int) (w : World) : Calls Try.prog 53 #[.int .i64 x] w fun e w' => e = .returned (.int .i64 (act x)) ∧ w = w' := by
  by_cases h1 : x ≤ -16384
  · go_enter Try.func53, Try.ntmps53
    go_wp2_with fail
    go_ret
    exact ⟨ret_int (act_low h1), rfl⟩
  · by_cases h2 : 16384 ≤ x
    · go_enter Try.func53, Try.ntmps53
      go_wp2_with fail
      go_ret
      exact ⟨ret_int (act_high h2), rfl⟩
    · go_enter Try.func53, Try.ntmps53
      go_wp2_with ((go_at_call 62; refine (l23Floor_any _ _ _ (by omega) (by omega) (by omega) (by omega)).mono ?_; rintro e w' ⟨rfl, rfl⟩))
      go_ret
      exact ⟨ret_int (act_mid (by omega) (by omega)), rfl⟩
end Go.Proofs.Ytcpbaigghhjceaa
