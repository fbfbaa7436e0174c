/-
  The draw of DrawSeededNetwork.
-/
import Derived.Test.YtcpbaigghhjceaaDraw
namespace Go.Proofs.Ytcpbaigghhjceaa
open Go.ChangeShapes Go.WideShapes Go.ChangeAt Go.RowKit

def SdDPost (w : World) (e : Ending) (w' : World) : Prop := ∃ i h s : Int, e = .returned (.tuple #[.int .i64 i, .int .i64 h, .int .i64 s]) ∧ Below w.heap.size w w'
set_option maxHeartbeats 1600000 in
theorem DrawSeededNetwork_any (a : Option Addr) (n c : Nat) (xs : List Int) (w : World) (h : IntsArg w .u8 a n xs) (hn : n ≤ 4096) :
    Calls Try.prog 22 #[.slice a n c] w fun e w' => SdDPost w e w' := by
  go_enter Try.func22, Try.ntmps22
  go_wp2_with fail
  refine (from_dr a n c xs w h hn).mono ?_
  rintro e w1 ⟨rfl, hd⟩
  go_wp2_with fail
  refine (next_dr _ w _ a n c xs w1 hd (by omega)).mono ?_
  rintro e w2 ⟨x, rfl, x0, x1, hd2, _⟩
  have x2 : x ≤ 2147483645 := by omega
  clear x1
  go_wp2_with fail
  refine (next_dr _ w _ a n c xs w2 hd2 (by omega)).mono ?_
  rintro e w3 ⟨y, rfl, y0, y1, hd3, _⟩
  by_cases hy : y = 0
  · subst hy
    go_wp2_with fail
    refine (next_dr _ w _ a n c xs _ (hd3.alloc _) (by omega)).mono ?_
    rintro e w4 ⟨z, rfl, z0, z1, hd4, hg4⟩
    have hlt := hd3.lt
    have z2 : z < 3 := by omega
    clear z1 y1
    have hcx := fun k => new_kept hg4 hlt k
    obtain rfl | rfl | rfl : z = 0 ∨ z = 1 ∨ z = 2 := by omega
    · have hc := hcx 0
      simp at hc
      clear hcx
      go_wp2_with fail
      refine (next_dr _ w _ a n c xs _ hd4 (by omega)).mono ?_
      rintro e v1 ⟨p1, rfl, _, _, hq1, _⟩
      go_wp2_with fail
      refine (next_dr _ w _ a n c xs _ hq1 (by omega)).mono ?_
      rintro e v2 ⟨p2, rfl, _, _, hq2, _⟩
      have e2 : p2 < 20 := by omega
      go_wp2_with fail
      refine (next_dr _ w _ a n c xs _ hq2 (by omega)).mono ?_
      rintro e v3 ⟨p3, rfl, _, _, hq3, _⟩
      go_wp2_with fail
      refine (next_dr _ w _ a n c xs _ hq3 (by omega)).mono ?_
      rintro e v4 ⟨p4, rfl, _, _, hq4, _⟩
      have e4 : p4 < 20 := by omega
      go_wp2_with fail
      go_ret3
      exact ⟨_, _, _, rfl, hq4.below⟩
    · have hc := hcx 1
      simp at hc
      clear hcx
      go_wp2_with fail
      refine (next_dr _ w _ a n c xs _ hd4 (by omega)).mono ?_
      rintro e v1 ⟨p1, rfl, _, _, hq1, _⟩
      go_wp2_with fail
      refine (next_dr _ w _ a n c xs _ hq1 (by omega)).mono ?_
      rintro e v2 ⟨p2, rfl, _, _, hq2, _⟩
      have e2 : p2 < 20 := by omega
      go_wp2_with fail
      refine (next_dr _ w _ a n c xs _ hq2 (by omega)).mono ?_
      rintro e v3 ⟨p3, rfl, _, _, hq3, _⟩
      go_wp2_with fail
      refine (next_dr _ w _ a n c xs _ hq3 (by omega)).mono ?_
      rintro e v4 ⟨p4, rfl, _, _, hq4, _⟩
      have e4 : p4 < 20 := by omega
      go_wp2_with fail
      go_ret3
      exact ⟨_, _, _, rfl, hq4.below⟩
    · have hc := hcx 2
      simp at hc
      clear hcx
      go_wp2_with fail
      refine (next_dr _ w _ a n c xs _ hd4 (by omega)).mono ?_
      rintro e v1 ⟨p1, rfl, _, _, hq1, _⟩
      go_wp2_with fail
      refine (next_dr _ w _ a n c xs _ hq1 (by omega)).mono ?_
      rintro e v2 ⟨p2, rfl, _, _, hq2, _⟩
      have e2 : p2 < 20 := by omega
      go_wp2_with fail
      refine (next_dr _ w _ a n c xs _ hq2 (by omega)).mono ?_
      rintro e v3 ⟨p3, rfl, _, _, hq3, _⟩
      go_wp2_with fail
      refine (next_dr _ w _ a n c xs _ hq3 (by omega)).mono ?_
      rintro e v4 ⟨p4, rfl, _, _, hq4, _⟩
      have e4 : p4 < 20 := by omega
      go_wp2_with fail
      go_ret3
      exact ⟨_, _, _, rfl, hq4.below⟩
  · have hyb : (y == 0) = false := by simpa using hy
    clear hy
    go_wp2_with fail
    refine (next_dr _ w _ a n c xs _ hd3 (by omega)).mono ?_
    rintro e v1 ⟨p1, rfl, _, _, hq1, _⟩
    go_wp2_with fail
    refine (next_dr _ w _ a n c xs _ hq1 (by omega)).mono ?_
    rintro e v2 ⟨p2, rfl, _, _, hq2, _⟩
    have e2 : p2 < 20 := by omega
    go_wp2_with fail
    refine (next_dr _ w _ a n c xs _ hq2 (by omega)).mono ?_
    rintro e v3 ⟨p3, rfl, _, _, hq3, _⟩
    go_wp2_with fail
    refine (next_dr _ w _ a n c xs _ hq3 (by omega)).mono ?_
    rintro e v4 ⟨p4, rfl, _, _, hq4, _⟩
    have e4 : p4 < 20 := by omega
    go_wp2_with fail
    go_ret3
    exact ⟨_, _, _, rfl, hq4.below⟩
end Go.Proofs.Ytcpbaigghhjceaa
