/-
  The walk of l18Chance where a chance is known, or where the table has failed.
-/
import Derived.Test.YtkioliioakmepaaMchS
import Derived.Test.YtkioliioakmepaaRec
import Derived.Deep.QuietTactic
import Derived.BigQuiet
import Derived.IntWalk
import Derived.Lib.MinMax
namespace Go.Proofs.Ytkioliioakmepaa
open Go.ChangeShapes Go.WideShapes Go.ChangeAt Go.RowKit
set_option linter.unusedVariables false

theorem gamePhase_l18 (a b : Nat) (ph q : Int) (h : gp a b ph = q) (w : World) : Calls Try.prog 75 #[.int .i64 a, .int .i64 b, .int .i64 ph] w fun e w' => e = .returned (.int .i64 q) ∧ w = w' := h ▸ l18Phase_any a b ph w
theorem s_one : sN SC = 1 ∧ sD SC = 1 := by decide +kernel
theorem s_zero : sN 0 = 0 ∧ sD 0 = 1 := by decide +kernel
set_option maxHeartbeats 1600000 in
theorem l18Chance_a0 (M : Mm) (hM : M.ok) (lo hi g k v : Nat) (hL : Lie lo hi g k v) (b : Nat) (ph : Int) (fb : Bool) (w : World) (hT : Tb M g k v fb w) :
    Calls Try.prog 67 #[.pointer (some ⟨g, 0, none⟩), .int .i64 (0 : Nat), .int .i64 b, .int .i64 ph] w fun e w' => TbPost M lo hi g k v fb 0 b ph w e w' := by
  have HT := Lib.hid (hT.alloc (.cells #[.int .i64 1, .int .i64 1] 30))
  have HO := Lib.hid ((Out.refl lo hi w).after ((Below.refl w.heap.size w).alloc (Nat.le_refl _) (.cells #[.int .i64 1, .int .i64 1] 30)))
  clear hT
  go_enter Try.func67, Try.ntmps67
  go_wp2_with fail
  refine bodyPost_ret (v := shV 1 1) (by simp [results, Try.results67, go_sem]) rfl ⟨1, 1, fb, rfl, HT.out, HO.out, id, fun _ => ⟨SC, chV_a0, s_one.1.symm, s_one.2.symm⟩, fun h1 h2 => by rw [h1] at h2; cases h2⟩

theorem l18Chance_b0 (M : Mm) (hM : M.ok) (lo hi g k v : Nat) (hL : Lie lo hi g k v) (a : Nat) (ph : Int) (fb : Bool) (w : World) (ha : 0 < a) (hT : Tb M g k v fb w) :
    Calls Try.prog 67 #[.pointer (some ⟨g, 0, none⟩), .int .i64 a, .int .i64 (0 : Nat), .int .i64 ph] w fun e w' => TbPost M lo hi g k v fb a 0 ph w e w' := by
  have ea : ((a : Int) == 0) = false := by simp; omega
  have HT := Lib.hid (hT.alloc (.cells #[.int .i64 0, .int .i64 1] 30))
  have HO := Lib.hid ((Out.refl lo hi w).after ((Below.refl w.heap.size w).alloc (Nat.le_refl _) (.cells #[.int .i64 0, .int .i64 1] 30)))
  clear hT
  go_enter Try.func67, Try.ntmps67
  go_wp2_with fail
  refine bodyPost_ret (v := shV 0 1) (by simp [results, Try.results67, go_sem]) rfl ⟨0, 1, fb, rfl, HT.out, HO.out, id, fun _ => ⟨0, chV_b0 ha, s_zero.1.symm, s_zero.2.symm⟩, fun h1 h2 => by rw [h1] at h2; cases h2⟩
set_option maxHeartbeats 1600000 in
/-- what is known, or a table that has failed -/
theorem l18Chance_old (M : Mm) (hM : M.ok) (lo hi g k v : Nat) (hL : Lie lo hi g k v) (a b : Nat) (ph : Int) (fb : Bool) (w : World) (ha : 0 < a) (hb : 0 < b) (ha9 : a ≤ 9) (hb9 : b ≤ 9) (hp0 : 0 ≤ ph) (hp2 : ph ≤ 2) (kf : Nat → Bool) (vf : Nat → Int) (r1 : w.rowIs g 84 6 (tbC M k v fb)) (r2 : w.rowIs k 4 300 (fun i => .bool (kf i))) (r3 : w.rowIs v 30 600 (fun i => .int .i64 (vf i)))
    (hinv : fb = false → ∀ (a b : Nat) (ph : Int), a ≤ 9 → b ≤ 9 → 0 ≤ ph → ph ≤ 2 → kf (ix a b ph) = true → ∃ c, M.ch a b ph = some c ∧ vf (ix a b ph * 2) = sN c ∧ vf (ix a b ph * 2 + 1) = sD c) (hhi : hi ≤ w.heap.size) (hk : fb = true ∨ kf (ix a b (gp a b ph)) = true) :
    Calls Try.prog 67 #[.pointer (some ⟨g, 0, none⟩), .int .i64 a, .int .i64 b, .int .i64 ph] w fun e w' => TbPost M lo hi g k v fb a b ph w e w' := by
  obtain ⟨L1, L2, L3, L4, L5, L6, L7, L8, L9⟩ := hL
  have ea : ((a : Int) == 0) = false := by simp; omega
  have eb : ((b : Int) == 0) = false := by simp; omega
  obtain ⟨q, hq⟩ : ∃ q, gp a b ph = q := ⟨_, rfl⟩
  have GP := Lib.hid (fun W => gamePhase_l18 a b ph q hq W)
  have q0 : 0 ≤ q ∧ q ≤ 2 := by rw [← hq]; unfold gp; split <;> omega
  obtain ⟨I, hI⟩ : ∃ I : Nat, ix a b q = I := ⟨_, rfl⟩
  have hI2 : (I : Int) = 100 * q + 10 * a + b := by rw [← hI]; unfold ix; omega
  have I0 : (0 : Int) ≤ (I : Int) := by omega
  have I1 : (I : Int) < 300 := by omega
  have w1 : IntKind.i64.wrap (100 * q) = 100 * q := IntWalk.i64_in _ (by omega)
  have w2 : IntKind.i64.wrap (10 * (a : Int)) = 10 * (a : Int) := IntWalk.i64_in _ (by omega)
  have w3 : IntKind.i64.wrap (100 * q + 10 * (a : Int)) = 100 * q + 10 * (a : Int) := IntWalk.i64_in _ (by omega)
  have w4 : IntKind.i64.wrap (100 * q + 10 * (a : Int) + (b : Int)) = (I : Int) := by rw [← hI2]; exact IntWalk.i64_in _ (by omega)
  have HQ := Lib.hid hq
  have HI := Lib.hid hI
  obtain ⟨q1, q2⟩ := q0
  rw [hq, hI] at hk
  clear hq hI hI2
  have HINV := Lib.hid hinv
  have HR := Lib.hid (And.intro r1 (And.intro r2 r3))
  clear hinv
  have o1 := r1.lt
  have o2 := r2.lt
  have o3 := r3.lt
  have Z1 := Lib.hid (r1.alloc (.cells #[.int .i64 0, .int .i64 0] 30))
  have Z2 := Lib.hid (r2.alloc (.cells #[.int .i64 0, .int .i64 0] 30))
  have Z3 := Lib.hid (r3.alloc (.cells #[.int .i64 0, .int .i64 0] 30))
  obtain ⟨B, hB⟩ : ∃ B, kf I = B := ⟨_, rfl⟩
  have t0 := Z1.out.cell (i := 0) (by omega)
  have t1 := Z1.out.cell (i := 1) (by omega)
  have t2 := Z1.out.cell (i := 2) (by omega)
  have t3 := Z1.out.cell (i := 3) (by omega)
  have t4 := Z1.out.cell (i := 4) (by omega)
  have t5 := Z1.out.cell (i := 5) (by omega)
  have k1 := Z2.out.cell (i := I) (by omega)
  rw [hB] at k1 hk
  have HBB := Lib.hid hB
  simp only [tbC] at t0 t1 t2 t3 t4 t5
  clear hB r1 r2 r3
  have V0 := Z3.out.cell (i := I * 2) (by omega)
  have V1 := Z3.out.cell (i := I * 2 + 1) (by omega)
  cases fb
  · obtain rfl : B = true := hk.elim (fun h => by cases h) id
    clear hk
    go_enter Try.func67, Try.ntmps67
    go_wp2_with fail
    refine (GP.out _).mono ?_
    rintro e w1 ⟨rfl, rfl⟩
    go_wp2_with fail
    have HO := (Out.refl lo hi w).after ((Below.refl w.heap.size w).alloc (Nat.le_refl _) (.cells #[.int .i64 (vf (I * 2)), .int .i64 (vf (I * 2 + 1))] 30))
    refine bodyPost_ret (v := shV (vf (I * 2)) (vf (I * 2 + 1))) (by simp [results, Try.results67, go_sem]) rfl ⟨_, _, false, rfl, ⟨kf, vf, HR.out.1.alloc _, HR.out.2.1.alloc _, HR.out.2.2.alloc _, fun _ => HINV.out (by first | trivial | rfl)⟩, HO, id, fun _ => ?_, fun _ h2 => by cases h2⟩
    obtain ⟨c, h1, h2, h3⟩ := HINV.out (by first | trivial | rfl) a b q ha9 hb9 q1 q2 (by rw [HI.out]; exact HBB.out)
    rw [HI.out] at h2 h3
    refine ⟨c, ?_, h2, h3⟩
    rw [← HQ.out] at h1
    exact chV_gp.symm.trans h1
  · clear hk
    cases B
    all_goals
      go_enter Try.func67, Try.ntmps67
      go_wp2_with fail
      refine (GP.out _).mono ?_
      rintro e w1 ⟨rfl, rfl⟩
      go_wp2_with fail
      have HO := (Out.refl lo hi w).after ((Below.refl w.heap.size w).alloc (Nat.le_refl _) (.cells #[.int .i64 (vf (I * 2)), .int .i64 (vf (I * 2 + 1))] 30))
      refine bodyPost_ret (v := shV (vf (I * 2)) (vf (I * 2 + 1))) (by simp [results, Try.results67, go_sem]) rfl ⟨_, _, true, rfl, ⟨kf, vf, HR.out.1.alloc _, HR.out.2.1.alloc _, HR.out.2.2.alloc _, fun h => absurd h (by decide)⟩, HO, id, fun h => absurd h (by decide), fun h _ => absurd h (by decide)⟩
end Go.Proofs.Ytkioliioakmepaa
