/-
  The walk of CompareShares of the reference at two valid shares.
-/
import Derived.Test.YtkioliioakmepaaCmp
namespace Go.Proofs.Ytkioliioakmepaa
open Go.ChangeShapes Go.WideShapes Go.ChangeAt Go.RowKit
set_option linter.unusedVariables false

set_option maxHeartbeats 800000 in
theorem CompareShares_yes (a b c d : Int) (w : World) (h1 : shB a b = true) (h2 : shB c d = true) :
    Calls Try.prog 35 #[shV a b, shV c d] w fun e w' => e = .returned (.tuple #[.int .i64 (cmpS a b c d), .int .i64 0]) ∧ Below w.heap.size w w' := by
  have HB0 := ((Below.refl w.heap.size w).alloc (Nat.le_refl _) (.cells #[.int .i64 a, .int .i64 b] 30)).alloc (by simp) (.cells #[.int .i64 c, .int .i64 d] 30)
  have R0 := Lib.hid ((two_new w a b 30).alloc (.cells #[.int .i64 c, .int .i64 d] 30))
  have r1 := two_new (w.alloc (.cells #[.int .i64 a, .int .i64 b] 30)) c d 30
  rw [World.size_alloc] at r1
  have R1 := Lib.hid r1
  clear r1
  obtain ⟨b1, b2, a1, a2, _⟩ := shB_out h1
  obtain ⟨d1, d2, c1, c2, _⟩ := shB_out h2
  have KC := Lib.hid (fun W => l18Compare_any a b c d W a1 (by omega) (by omega) b2 c1 (by omega) (by omega) d2)
  obtain ⟨K, hK⟩ : ∃ K, cmpS a b c d = K := ⟨_, rfl⟩
  rw [hK] at KC
  rw [hK]
  clear hK
  go_enter Try.func35, Try.ntmps35
  go_wp2_with fail
  refine (spec_IsShare_any _ _ _).mono ?_
  rintro e v1 ⟨rfl, hb⟩
  rw [h1]
  replace R0 := Lib.hid (rowIs_below R0.out hb R0.out.lt)
  replace R1 := Lib.hid (rowIs_below R1.out hb R1.out.lt)
  replace HB0 := HB0.trans (hb.mono HB0.size)
  clear hb
  obtain ⟨x0, x1, _, _⟩ := two_cells R0.out
  obtain ⟨y0, y1, _, _⟩ := two_cells R1.out
  go_wp2_with fail
  refine (spec_IsShare_any _ _ _).mono ?_
  rintro e v2 ⟨rfl, hb⟩
  rw [h2]
  replace R0 := Lib.hid (rowIs_below R0.out hb R0.out.lt)
  replace R1 := Lib.hid (rowIs_below R1.out hb R1.out.lt)
  replace HB0 := HB0.trans (hb.mono HB0.size)
  clear hb x0 x1 y0 y1
  obtain ⟨x0, x1, _, _⟩ := two_cells R0.out
  obtain ⟨y0, y1, _, _⟩ := two_cells R1.out
  go_wp2_with fail
  refine (KC.out _).mono ?_
  rintro e v3 ⟨rfl, hb⟩
  replace HB0 := HB0.trans (hb.mono HB0.size)
  clear hb
  go_wp2_with fail
  go_ret2
  exact ⟨rfl, HB0⟩
end Go.Proofs.Ytkioliioakmepaa
