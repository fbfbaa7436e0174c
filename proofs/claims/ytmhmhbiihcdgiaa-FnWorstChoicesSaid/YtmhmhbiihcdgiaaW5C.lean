/-
  laws.w5Compare on valid exact numbers.
-/
import Derived.Test.YtmhmhbiihcdgiaaCxS
import Derived.Test.YtmhmhbiihcdgiaaWcP
import Derived.StillTailTactics
namespace Go.Proofs.Ytmhmhbiihcdgiaa
open Go.ChangeShapes Go.WideShapes Go.ChangeAt Go.RowKit
set_option linter.unusedVariables false

set_option maxHeartbeats 1600000 in
theorem l09Code_ok (p c h s n1 d1 n2 d2 : Int) (w : World) (hv : vrB p c h s = true) (h1 : exB s n1 d1 = true) (h2 : exB s n2 d2 = true) (m1 : d1 ≤ 24) (m2 : d2 ≤ 24) :
    Calls Try.prog 45 #[vrV p c h s, exV n1 d1, exV n2 d2] w fun e w' => e = .returned (.int .i64 0) ∧ Below w.heap.size w w' := by
  obtain ⟨_, _, _, s1, s6⟩ := vrB_true.1 hv
  have IV := Lib.hid (fun W => hv ▸ spec_IsVariant_any p c h s W)
  have E1 := Lib.hid (fun W => h1 ▸ l09Valid_any p c h s n1 d1 W s1 s6 (by omega))
  have E2 := Lib.hid (fun W => h2 ▸ l09Valid_any p c h s n2 d2 W s1 s6 (by omega))
  have HB0 := Lib.hid ((((Below.refl w.heap.size w).alloc (Nat.le_refl _) (.cells #[.int .i64 p, .int .i64 c, .int .i64 h, .int .i64 s] 29)).alloc (by simp) (.cells #[.int .i64 n1, .int .i64 d1] 45)).alloc (by simp; omega) (.cells #[.int .i64 n2, .int .i64 d2] 45))
  have R0 := Lib.hid (((q4_new w (.int .i64 p) (.int .i64 c) (.int .i64 h) (.int .i64 s) 29).alloc (.cells #[.int .i64 n1, .int .i64 d1] 45)).alloc (.cells #[.int .i64 n2, .int .i64 d2] 45))
  have X0 := Lib.hid ((q2_new (w.alloc (.cells #[.int .i64 p, .int .i64 c, .int .i64 h, .int .i64 s] 29)) (.int .i64 n1) (.int .i64 d1) 45).alloc (.cells #[.int .i64 n2, .int .i64 d2] 45))
  have Y0 := Lib.hid (q2_new ((w.alloc (.cells #[.int .i64 p, .int .i64 c, .int .i64 h, .int .i64 s] 29)).alloc (.cells #[.int .i64 n1, .int .i64 d1] 45)) (.int .i64 n2) (.int .i64 d2) 45)
  simp only [World.size_alloc] at X0 Y0
  clear hv h1 h2
  go_enter Try.func45, Try.ntmps45
  obtain ⟨r0, r1, r2, r3⟩ := q4_cells R0.out
  go_wp2_with fail
  refine (IV.out _).mono ?_
  rintro e w1 ⟨rfl, hb⟩
  have HB1 := Lib.hid (HB0.out.trans (hb.mono HB0.out.size))
  have R1 := Lib.hid (rowIs_below R0.out hb R0.out.lt)
  have X1 := Lib.hid (rowIs_below X0.out hb X0.out.lt)
  have Y1 := Lib.hid (rowIs_below Y0.out hb Y0.out.lt)
  clear hb r0 r1 r2 r3
  obtain ⟨r0, r1, r2, r3⟩ := q4_cells R1.out
  obtain ⟨x0, x1⟩ := q2_cells X1.out
  go_wp2_with fail
  (with_reducible refine (E1.out _).mono ?_)
  rintro e w2 ⟨rfl, hb⟩
  have HB2 := Lib.hid (HB1.out.trans (hb.mono HB1.out.size))
  have R2 := Lib.hid (rowIs_below R1.out hb R1.out.lt)
  have Y2 := Lib.hid (rowIs_below Y1.out hb Y1.out.lt)
  clear hb r0 r1 r2 r3 x0 x1
  obtain ⟨r0, r1, r2, r3⟩ := q4_cells R2.out
  obtain ⟨y0, y1⟩ := q2_cells Y2.out
  go_wp2_with fail
  (with_reducible refine (E2.out _).mono ?_)
  rintro e w3 ⟨rfl, hb⟩
  have HB3 := Lib.hid (HB2.out.trans (hb.mono HB2.out.size))
  clear hb r0 r1 r2 r3 y0 y1
  go_wp2_with fail
  go_ret
  exact ⟨rfl, HB3.out⟩
set_option maxHeartbeats 1600000 in
theorem CompareExact_ok (p c h s n1 n2 q1 q2 : Int) (D1 D2 : Nat) (w : World) (hv : vrB p c h s = true) (h1 : exB s n1 D1 = true) (h2 : exB s n2 D2 = true) (K1 : ExK s n1 D1 q1) (K2 : ExK s n2 D2 q2) (e1 : q1 = pw (s * s) D1) (e2 : q2 = pw (s * s) D2) :
    Calls Try.prog 33 #[vrV p c h s, exV n1 D1, exV n2 D2] w fun e w' => e = .returned (.tuple #[.int .i64 (cmpS n1 q1 n2 q2), .int .i64 0]) ∧ Below w.heap.size w w' := by
  obtain ⟨_, _, _, s1, s6⟩ := vrB_true.1 hv
  have CO := Lib.hid (fun W => l09Code_ok p c h s n1 D1 n2 D2 W hv h1 h2 K1.d1 K2.d1)
  have CP := Lib.hid (fun W => l09Compare_any p c h s n1 n2 q1 q2 D1 D2 W s1 s6 K1 K2 e1 e2)
  have HB0 := Lib.hid ((((Below.refl w.heap.size w).alloc (Nat.le_refl _) (.cells #[.int .i64 p, .int .i64 c, .int .i64 h, .int .i64 s] 29)).alloc (by simp) (.cells #[.int .i64 n1, .int .i64 D1] 45)).alloc (by simp; omega) (.cells #[.int .i64 n2, .int .i64 D2] 45))
  have R0 := Lib.hid (((q4_new w (.int .i64 p) (.int .i64 c) (.int .i64 h) (.int .i64 s) 29).alloc (.cells #[.int .i64 n1, .int .i64 D1] 45)).alloc (.cells #[.int .i64 n2, .int .i64 D2] 45))
  have X0 := Lib.hid ((q2_new (w.alloc (.cells #[.int .i64 p, .int .i64 c, .int .i64 h, .int .i64 s] 29)) (.int .i64 n1) (.int .i64 D1) 45).alloc (.cells #[.int .i64 n2, .int .i64 D2] 45))
  have Y0 := Lib.hid (q2_new ((w.alloc (.cells #[.int .i64 p, .int .i64 c, .int .i64 h, .int .i64 s] 29)).alloc (.cells #[.int .i64 n1, .int .i64 D1] 45)) (.int .i64 n2) (.int .i64 D2) 45)
  simp only [World.size_alloc] at X0 Y0
  obtain ⟨z, hz⟩ : ∃ z, cmpS n1 q1 n2 q2 = z := ⟨_, rfl⟩
  rw [hz] at CP ⊢
  clear hz hv h1 h2 K1 K2 e1 e2
  go_enter Try.func33, Try.ntmps33
  obtain ⟨r0, r1, r2, r3⟩ := q4_cells R0.out
  obtain ⟨x0, x1⟩ := q2_cells X0.out
  obtain ⟨y0, y1⟩ := q2_cells Y0.out
  go_wp2_with fail
  refine (CO.out _).mono ?_
  rintro e w1 ⟨rfl, hb⟩
  have HB1 := Lib.hid (HB0.out.trans (hb.mono HB0.out.size))
  have R1 := Lib.hid (rowIs_below R0.out hb R0.out.lt)
  have X1 := Lib.hid (rowIs_below X0.out hb X0.out.lt)
  have Y1 := Lib.hid (rowIs_below Y0.out hb Y0.out.lt)
  clear hb r0 r1 r2 r3 x0 x1 y0 y1
  obtain ⟨r0, r1, r2, r3⟩ := q4_cells R1.out
  obtain ⟨x0, x1⟩ := q2_cells X1.out
  obtain ⟨y0, y1⟩ := q2_cells Y1.out
  go_wp2_with fail
  (with_reducible refine (CP.out _).mono ?_)
  rintro e w2 ⟨rfl, hb⟩
  have HB2 := Lib.hid (HB1.out.trans (hb.mono HB1.out.size))
  clear hb r0 r1 r2 r3 x0 x1 y0 y1
  go_wp2_with fail
  go_ret2
  exact ⟨rfl, HB2.out⟩
set_option maxHeartbeats 1600000 in
theorem w5Compare_ok (p c h s n1 n2 q1 q2 : Int) (D1 D2 : Nat) (w : World) (hv : vrB p c h s = true) (h1 : exB s n1 D1 = true) (h2 : exB s n2 D2 = true) (K1 : ExK s n1 D1 q1) (K2 : ExK s n2 D2 q2) (e1 : q1 = pw (s * s) D1) (e2 : q2 = pw (s * s) D2) :
    Calls Try.prog 18 #[vrV p c h s, exV n1 D1, exV n2 D2] w fun e w' => e = .returned (.int .i64 (cmpS n1 q1 n2 q2)) ∧ Below w.heap.size w w' := by
  have CP := Lib.hid (fun W => CompareExact_ok p c h s n1 n2 q1 q2 D1 D2 W hv h1 h2 K1 K2 e1 e2)
  have HB0 := Lib.hid ((((Below.refl w.heap.size w).alloc (Nat.le_refl _) (.cells #[.int .i64 p, .int .i64 c, .int .i64 h, .int .i64 s] 29)).alloc (by simp) (.cells #[.int .i64 n1, .int .i64 D1] 45)).alloc (by simp; omega) (.cells #[.int .i64 n2, .int .i64 D2] 45))
  have R0 := Lib.hid (((q4_new w (.int .i64 p) (.int .i64 c) (.int .i64 h) (.int .i64 s) 29).alloc (.cells #[.int .i64 n1, .int .i64 D1] 45)).alloc (.cells #[.int .i64 n2, .int .i64 D2] 45))
  have X0 := Lib.hid ((q2_new (w.alloc (.cells #[.int .i64 p, .int .i64 c, .int .i64 h, .int .i64 s] 29)) (.int .i64 n1) (.int .i64 D1) 45).alloc (.cells #[.int .i64 n2, .int .i64 D2] 45))
  have Y0 := Lib.hid (q2_new ((w.alloc (.cells #[.int .i64 p, .int .i64 c, .int .i64 h, .int .i64 s] 29)).alloc (.cells #[.int .i64 n1, .int .i64 D1] 45)) (.int .i64 n2) (.int .i64 D2) 45)
  simp only [World.size_alloc] at X0 Y0
  obtain ⟨z, hz⟩ : ∃ z, cmpS n1 q1 n2 q2 = z := ⟨_, rfl⟩
  rw [hz] at CP ⊢
  clear hz hv h1 h2 K1 K2 e1 e2
  go_enter Try.func18, Try.ntmps18
  obtain ⟨r0, r1, r2, r3⟩ := q4_cells R0.out
  obtain ⟨x0, x1⟩ := q2_cells X0.out
  obtain ⟨y0, y1⟩ := q2_cells Y0.out
  go_wp2_with fail
  refine (CP.out _).mono ?_
  rintro e w1 ⟨rfl, hb⟩
  have HB1 := Lib.hid (HB0.out.trans (hb.mono HB0.out.size))
  clear hb r0 r1 r2 r3 x0 x1 y0 y1
  go_wp2_with fail
  go_ret
  exact ⟨rfl, HB1.out⟩
end Go.Proofs.Ytmhmhbiihcdgiaa
