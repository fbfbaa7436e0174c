/-
  laws.hasInt.
-/
import Derived.Test.YtmhmhbiihcdgiaaRes
import Derived.Test.YtmhmhbiihcdgiaaEq
namespace Go.Proofs.Ytmhmhbiihcdgiaa
open Go.ChangeShapes Go.WideShapes Go.ChangeAt Go.RowKit
set_option linter.unusedVariables false

set_option maxHeartbeats 400000 in
theorem hasInt_any (a : Option Addr) (n c B : Nat) (xs : List Int) (x : Int) (w : World) (h : Ints w B .i64 a n xs) (hn : n ≤ 1048576) :
    Calls Try.prog 17 #[.slice a n c, .int .i64 x] w fun e w' => e = .returned (.bool (decide (x ∈ xs))) ∧ w = w' := by
  have hl := h.1
  rcases h.cases with ⟨rfl, rfl⟩ | ⟨hn0, b, off, rfl, hb, hc0⟩
  · have HX := Lib.hid (show decide (x ∈ ([] : List Int)) = false by simp)
    clear hl h
    go_enter Try.func17, Try.ntmps17
    go_wp2
    go_loop [5] (fun i => i = .int .i64 0) (fun _ => 0)
    case atStart => rfl
    case round =>
      subst hrel
      go_wp2
      go_ret
      exact ⟨ret_bool HX.out, rfl⟩
  · have hc := Lib.hid hc0
    have HL := Lib.hid hl
    clear h hc0 hl
    go_enter Try.func17, Try.ntmps17
    go_wp2
    go_loop [5] (fun i => ∃ k : Nat, k ≤ n ∧ i = .int .i64 k ∧ Hid (∀ j, j < k → xs.getD j 0 ≠ x)) (fun i => n - (intOf i).toNat)
    case atStart => exact ⟨0, Nat.zero_le _, rfl, Lib.hid (fun j hj => by omega)⟩
    case round =>
      obtain ⟨k, hk, rfl, hno⟩ := hrel
      by_cases hlt : k < n
      · have hcx := hc.out k hlt
        obtain ⟨y, hy⟩ : ∃ y, xs.getD k 0 = y := ⟨_, rfl⟩
        rw [hy] at hcx
        have HY := Lib.hid hy
        clear hy
        by_cases hxy : x = y
        · have HN := Lib.hid (show decide (x ∈ xs) = true by
            refine decide_eq_true ?_
            rw [hxy, ← HY.out, List.getD_eq_getElem?_getD, List.getElem?_eq_getElem (by have := HL.out; omega)]
            exact List.getElem_mem _)
          subst hxy
          go_wp2
          go_ret
          exact ⟨ret_bool HN.out, rfl⟩
        · have hxy' : (x == y) = false := by simpa using hxy
          have hxy2 : (y == x) = false := by simpa using fun e => hxy e.symm
          have HN : Hid (∀ j, j < k + 1 → xs.getD j 0 ≠ x) := Lib.hid (fun j hj => by
            by_cases e : j = k
            · subst e; rw [HY.out]; exact fun e => hxy e.symm
            · exact hno.out j (by omega))
          clear hxy
          go_wp2
          go_round
          case rel => exact ⟨k + 1, by omega, by go_num, HN⟩
          case measure => simp [intOf]; omega
      · obtain rfl : k = n := by omega
        have HN := Lib.hid (show decide (x ∈ xs) = false by
          refine decide_eq_false (fun hm => ?_)
          obtain ⟨j, hj, e⟩ := List.getElem_of_mem hm
          refine hno.out j (by have := HL.out; omega) ?_
          rw [List.getD_eq_getElem?_getD, List.getElem?_eq_getElem hj]; exact e)
        go_wp2
        go_ret
        exact ⟨ret_bool HN.out, rfl⟩
end Go.Proofs.Ytmhmhbiihcdgiaa
