/-
  The walks of smallDens and l19Fits: whether all denominators are small.
-/
import Derived.Test.YtkioliioakmepaaGcd
import Derived.Test.YtkioliioakmepaaRec
namespace Go.Proofs.Ytkioliioakmepaa
open Go.ChangeShapes Go.WideShapes Go.ChangeAt Go.RowKit

/-- the first k shares (two integers each) have small denominators -/
def fitsB (xs : List Int) : Nat → Bool
  | 0 => true
  | k + 1 => fitsB xs k && decide (xs.getD (k * 2 + 1) 0 ≤ 1000000)
theorem fitsB_yes {xs : List Int} {k : Nat} (h : fitsB xs k = true) (hx : xs.getD (k * 2 + 1) 0 ≤ 1000000) : fitsB xs (k + 1) = true := by
  rw [fitsB, h, Bool.true_and]; exact decide_eq_true hx
theorem fitsB_no {xs : List Int} {k : Nat} (hx : ¬ xs.getD (k * 2 + 1) 0 ≤ 1000000) : ∀ n, k < n → fitsB xs n = false
  | 0, h => absurd h (by omega)
  | n + 1, h => by
    by_cases e : k = n
    · subst e; rw [fitsB, decide_eq_false hx, Bool.and_false]
    · rw [fitsB, fitsB_no hx n (by omega), Bool.false_and]

set_option maxHeartbeats 800000 in
theorem l19Fits_any (a : Option Addr) (m c : Nat) (xs : List Int) (B : Nat) (w : World) (h : Ints w B .i64 a (m * 2) xs) (hm : 0 < m) (hm2 : m ≤ 1000) :
    Calls Try.prog 57 #[.slice a m c] w fun e w' => e = .returned (.bool (fitsB xs m)) ∧ w = w' := by
  obtain ⟨b, off, rfl, hb, hc0⟩ := h.2 (by omega)
  have HC := Lib.hid hc0
  clear h hc0
  go_enter Try.func57, Try.ntmps57
  go_wp2_with fail
  go_loop [3] (fun i => ∃ k : Nat, k ≤ m ∧ i = .int .i64 k ∧ Hid (fitsB xs k = true)) (fun i => m - (intOf i).toNat)
  case atStart => exact ⟨0, Nat.zero_le _, rfl, rfl⟩
  case round =>
    obtain ⟨k, hk, rfl, hf⟩ := hrel
    by_cases hlt : k < m
    · obtain ⟨x, y, hx, hy, _, hey⟩ := rec2_at HC.out hlt
      by_cases g : y ≤ 1000000
      · have HN := Lib.hid (fitsB_yes hf.out (by rw [hey.out]; exact g))
        go_wp2
        go_round
        case rel => exact ⟨k + 1, by omega, by go_num, HN⟩
        case measure => simp [intOf]; omega
      · have HN := Lib.hid (fitsB_no (xs := xs) (k := k) (by rw [hey.out]; exact g) m hlt)
        go_wp2
        go_ret
        exact ⟨ret_bool HN.out, rfl⟩
    · have HE := Lib.hid (show fitsB xs m = true by rw [show m = k by omega]; exact hf.out)
      go_wp2
      go_ret
      exact ⟨ret_bool HE.out, rfl⟩

set_option maxHeartbeats 800000 in
theorem smallDens_any (a : Option Addr) (m c : Nat) (xs : List Int) (B : Nat) (w : World) (h : Ints w B .i64 a (m * 2) xs) (hB : B ≤ w.heap.size) (hm : 0 < m) (hm2 : m ≤ 1000) :
    Calls Try.prog 52 #[.slice a m c] w fun e w' => e = .returned (.bool (fitsB xs m)) ∧ Below w.heap.size w w' := by
  obtain ⟨b, off, rfl, hb, hc0⟩ := h.2 (by omega)
  have HC := Lib.hid hc0
  clear h hc0
  go_enter Try.func52, Try.ntmps52
  go_wp2_with fail
  go_loopw [7] (fun i wr => ∃ k : Nat, k ≤ m ∧ i = .int .i64 k ∧ Hid (fitsB xs k = true) ∧ Below w.heap.size w wr) (fun i _ => m - (intOf i).toNat)
  case atStart => exact ⟨0, Nat.zero_le _, rfl, rfl, Below.refl _ _⟩
  case round =>
    obtain ⟨k, hk, rfl, hf, hbw⟩ := hrel
    have hz := hbw.size
    by_cases hlt : k < m
    · obtain ⟨x, y, hx, hy, _, hey⟩ := rec2_at (w := wr) (fun i hi => (hbw.cell (p := ⟨b, off + i, none⟩) (by show b < _; omega)).trans (HC.out i hi)) hlt
      by_cases g : y ≤ 1000000
      · have HN := Lib.hid (fitsB_yes hf.out (by rw [hey.out]; exact g))
        go_wp2
        go_roundw
        case rel => exact ⟨k + 1, by omega, by go_num, HN, hbw.alloc hz _⟩
        case measure => simp [intOf]; omega
      · have HN := Lib.hid (fitsB_no (xs := xs) (k := k) (by rw [hey.out]; exact g) m hlt)
        go_wp2
        go_ret
        exact ⟨ret_bool HN.out, hbw.alloc hz _⟩
    · have HE := Lib.hid (show fitsB xs m = true by rw [show m = k by omega]; exact hf.out)
      go_wp2
      go_ret
      exact ⟨ret_bool HE.out, hbw⟩

theorem lo_scale {g n d : Int} (hg : 0 < g) : loN (g * n) (g * d) = loN n d ∧ loD (g * n) (g * d) = loD n d := by
  have e : (Int.gcd (g * d) (g * n) : Int) = g * (Int.gcd d n : Int) := by
    rw [Int.gcd_mul_left]
    have : (g.natAbs : Int) = g := by omega
    rw [Int.natCast_mul, this]
  refine ⟨?_, ?_⟩
  · rw [loN, loN, e, Int.mul_ediv_mul_of_pos _ _ hg]
  · rw [loD, loD, e, Int.mul_ediv_mul_of_pos _ _ hg]
theorem lo_scaleB {g n d : Int} (hg : 0 < g) : loB (g * n) (g * d) = loB n d := by rw [loB, loB, (lo_scale hg).2]
end Go.Proofs.Ytkioliioakmepaa
