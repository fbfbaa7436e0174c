/-
  The walks of a match of the program: weights, and what is told already.
-/
import Derived.Test.YtkioliioakmepaaMchM
import Derived.Test.YtkioliioakmepaaMchC
import Derived.Deep.QuietTactic
import Derived.BigQuiet
import Derived.IntWalk
import Derived.Lib.MinMax
namespace Go.Proofs.Ytkioliioakmepaa
open Go.ChangeShapes Go.WideShapes Go.ChangeAt Go.RowKit
set_option linter.unusedVariables false

theorem Out.alloc {lo hi : Nat} {w0 w : World} (h : Out lo hi w0 w) (o : Obj) : Out lo hi w0 (w.alloc o) := h.after ((Below.refl w.heap.size w).alloc (Nat.le_refl _) o)
theorem weights_any (M : Mm) (g t f : Nat) (ph : Int) (w : World) (h : w.rowIs g 108 5 (mtC M t f)) : Calls Try.prog 103 #[.pointer (some ⟨g, 0, none⟩), .int .i64 ph] w fun e w' => e = .returned (M.sl ph) ∧ w = w' := by
  have c0 := h.cell (i := 0) (by omega)
  have c1 := h.cell (i := 1) (by omega)
  have c2 := h.cell (i := 2) (by omega)
  simp only [mtC] at c0 c1 c2
  clear h
  by_cases h1 : ph = 1
  · subst h1
    have HV := Lib.hid (show M.sl 1 = .slice M.b M.m M.d from rfl)
    go_enter Try.func103, Try.ntmps103
    go_wp2_with fail
    go_ret
    exact ⟨ret_val HV.out, rfl⟩
  · have e1 : (ph == 1) = false := by simpa using h1
    by_cases h2 : ph = 2
    · subst h2
      have HV := Lib.hid (show M.sl 2 = .slice M.e M.p M.f from rfl)
      go_enter Try.func103, Try.ntmps103
      go_wp2_with fail
      go_ret
      exact ⟨ret_val HV.out, rfl⟩
    · have e2 : (ph == 2) = false := by simpa using h2
      have HV := Lib.hid (show M.sl ph = .slice M.a M.n M.c by rw [Mm.sl, if_neg h1, if_neg h2])
      go_enter Try.func103, Try.ntmps103
      go_wp2_with fail
      go_ret
      exact ⟨ret_val HV.out, rfl⟩

theorem gamePhase_i (a b : Nat) (ph q : Int) (h : gp a b ph = q) (w : World) : Calls Try.prog 80 #[.int .i64 a, .int .i64 b, .int .i64 ph] w fun e w' => e = .returned (.int .i64 q) ∧ w = w' := h ▸ gamePhase_any a b ph w
theorem chance_a0 (M : Mm) (lo hi g t f N : Nat) (b : Nat) (ph : Int) (w : World) (hT : Tm M g t f N w) :
    Calls Try.prog 71 #[.pointer (some ⟨g, 0, none⟩), .int .i64 (0 : Nat), .int .i64 b, .int .i64 ph] w fun e w' => TmPost M lo hi g t f N 0 b ph w e w' := by
  have HT := Lib.hid (hT.alloc (.cells #[.int .i64 1, .int .i64 1] 30))
  have HO := Lib.hid ((Out.refl lo hi w).alloc (.cells #[.int .i64 1, .int .i64 1] 30))
  clear hT
  go_enter Try.func71, Try.ntmps71
  go_wp2_with fail
  refine bodyPost_ret (v := .tuple #[shV 1 1, .bool true]) (by simp [results, Try.results71, go_sem]) rfl ⟨1, 1, true, rfl, HT.out, HO.out, fun _ => ⟨SC, chV_a0, s_one.1.symm, s_one.2.symm⟩, (fun h => by cases h)⟩
theorem chance_b0 (M : Mm) (lo hi g t f N : Nat) (a : Nat) (ph : Int) (w : World) (ha : 0 < a) (hT : Tm M g t f N w) :
    Calls Try.prog 71 #[.pointer (some ⟨g, 0, none⟩), .int .i64 a, .int .i64 (0 : Nat), .int .i64 ph] w fun e w' => TmPost M lo hi g t f N a 0 ph w e w' := by
  have ea : ((a : Int) == 0) = false := by simp; omega
  have HT := Lib.hid (hT.alloc (.cells #[.int .i64 0, .int .i64 1] 30))
  have HO := Lib.hid ((Out.refl lo hi w).alloc (.cells #[.int .i64 0, .int .i64 1] 30))
  clear hT
  go_enter Try.func71, Try.ntmps71
  go_wp2_with fail
  refine bodyPost_ret (v := .tuple #[shV 0 1, .bool true]) (by simp [results, Try.results71, go_sem]) rfl ⟨0, 1, true, rfl, HT.out, HO.out, fun _ => ⟨0, chV_b0 ha, s_zero.1.symm, s_zero.2.symm⟩, (fun h => by cases h)⟩

set_option maxHeartbeats 1600000 in
/-- a state that is told already -/
theorem chance_old (M : Mm) (lo hi g t f N : Nat) (a b : Nat) (ph q : Int) (w : World) (ha : 0 < a) (hb : 0 < b) (ha9 : a ≤ 9) (hb9 : b ≤ 9) (hq : gp a b ph = q) (q0 : 0 ≤ q) (q2 : q ≤ 2) (T F : Nat → Nat → Int → Option Value) (r1 : w.rowIs g 108 5 (mtC M t f)) (r2 : Mp w t N T) (r3 : Mp w f N F) (hK : Kn M T F)
    (x y : Int) (bad : Bool) (hT : T a b q = some (shV x y)) (hF : F a b q = some (.bool bad)) :
    Calls Try.prog 71 #[.pointer (some ⟨g, 0, none⟩), .int .i64 a, .int .i64 b, .int .i64 ph] w fun e w' => e = .returned (.tuple #[shV x y, .bool (!bad)]) ∧ Tm M g t f N w' ∧ Out lo hi w w' := by
  have ea : ((a : Int) == 0) = false := by simp; omega
  have eb : ((b : Int) == 0) = false := by simp; omega
  have GP := Lib.hid (fun W => gamePhase_i a b ph q hq W)
  have HT := Lib.hid (show Tm M g t f N w from ⟨T, F, r1, r2, r3, hK⟩)
  have lg := r1.lt
  have lt := r2.lt
  have lf := r3.lt
  have c0 := (r1.alloc (.cells #[.int .i64 0, .int .i64 0] 30)).alloc (.cells #[.int .i64 a, .int .i64 b, .int .i64 q] 110)
  have d0 := c0.alloc (.cells #[.int .i64 x, .int .i64 y] 30)
  have b0 := c0.alloc (.cells #[.int .i64 0, .int .i64 0] 30)
  have i3 := b0.cell (i := 3) (by omega)
  have e0 := ((r1.alloc (.cells #[.int .i64 x, .int .i64 y] 30)).alloc (.cells #[.int .i64 a, .int .i64 b, .int .i64 q] 110)).alloc (.cells #[.int .i64 x, .int .i64 y] 30)
  have i4 := e0.cell (i := 4) (by omega)
  have k3 := c0.cell (i := 3) (by omega)
  have k4 := c0.cell (i := 4) (by omega)
  have j3 := d0.cell (i := 3) (by omega)
  have j4 := d0.cell (i := 4) (by omega)
  simp only [mtC] at k3 k4 j3 j4 i3 i4
  have P2 := (r2.alloc (.cells #[.int .i64 0, .int .i64 0] 30)).alloc (.cells #[.int .i64 a, .int .i64 b, .int .i64 q] 110)
  have P3 := ((r3.alloc (.cells #[.int .i64 0, .int .i64 0] 30)).alloc (.cells #[.int .i64 a, .int .i64 b, .int .i64 q] 110)).alloc (.cells #[.int .i64 x, .int .i64 y] 30)
  have m0 := P2.look (x := a) (y := b) (ph := q) Try.underlying105 (zero_sh _) ha9 hb9 q0 q2
  have m2 := P2.drew.look (x := a) (y := b) (ph := q) Try.underlying105 (zero_sh _) ha9 hb9 q0 q2
  have m4 := (P2.alloc (.cells #[.int .i64 0, .int .i64 0] 30)).look (x := a) (y := b) (ph := q) Try.underlying105 (zero_sh _) ha9 hb9 q0 q2
  have m6 := (P2.alloc (.cells #[.int .i64 0, .int .i64 0] 30)).drew.look (x := a) (y := b) (ph := q) Try.underlying105 (zero_sh _) ha9 hb9 q0 q2
  have m1 := P3.get (x := a) (y := b) (ph := q) Try.underlying106 (zero_b _) ha9 hb9 q0 q2
  have m3 := P3.drew.get (x := a) (y := b) (ph := q) Try.underlying106 (zero_b _) ha9 hb9 q0 q2
  have m5 := P3.drew.drew.get (x := a) (y := b) (ph := q) Try.underlying106 (zero_b _) ha9 hb9 q0 q2
  have Q3 := ((r3.alloc (.cells #[.int .i64 x, .int .i64 y] 30)).alloc (.cells #[.int .i64 a, .int .i64 b, .int .i64 q] 110)).alloc (.cells #[.int .i64 x, .int .i64 y] 30)
  have m7 := Q3.drew.get (x := a) (y := b) (ph := q) Try.underlying106 (zero_b _) ha9 hb9 q0 q2
  have m8 := Q3.drew.drew.get (x := a) (y := b) (ph := q) Try.underlying106 (zero_b _) ha9 hb9 q0 q2
  rw [hT] at m0 m2 m4 m6
  rw [hF] at m1 m3 m5 m7 m8
  simp only [Option.getD_some, Option.isSome_some] at m0 m1 m2 m3 m4 m5 m6 m7 m8
  clear hT hF hK hq r1 r2 r3 c0 d0 b0 e0 P2 P3 Q3
  go_enter Try.func71, Try.ntmps71
  go_wp2_with fail
  refine (GP.out _).mono ?_
  rintro e w1 ⟨rfl, rfl⟩
  go_wp2_with fail
  go_region
  all_goals
    go_wp2_with fail
    go_region
  all_goals
    go_wp2_with fail
    refine bodyPost_ret (v := .tuple #[shV x y, .bool (!bad)]) (by simp [results, Try.results71, go_sem]) rfl ⟨rfl, ?_, ?_⟩
  all_goals
    first
      | exact (((HT.out.alloc _).alloc _).alloc _).drew.drew
      | exact ((((Out.refl _ _ _).alloc _).alloc _).alloc _).drew.drew
end Go.Proofs.Ytkioliioakmepaa
