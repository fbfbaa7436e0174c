/-
  openPoint of the program and l04Open of the reference.
-/
import Derived.Test.YtjfmpnkbocilpaaHwB
import Derived.Test.YtjfmpnkbocilpaaBrd
import Derived.StillTailTactics
import Derived.RegionTactic
import Derived.BigRegion
import Derived.Deep.RegionHeld3
namespace Go.Proofs.Ytjfmpnkbocilpaa
open Go.ChangeShapes Go.WideShapes Go.ChangeAt Go.RowKit
set_option linter.unusedVariables false

set_option maxHeartbeats 800000 in
theorem openPoint_any (P : Nat) (c h s : Int) (a : Option Addr) (n ca : Nat) (b : Option Addr) (m cb : Nat) (ys : List Int) (i : Int) (B : Nat) (w : World) (h2 : Ints w B .i64 b m ys) (hB : B ≤ w.heap.size) (hP : P ≤ 24) (hm : m = P + 1) (i0 : 0 ≤ i) (i1 : i < P) :
    Calls Try.prog 65 #[vrV P c h s, bdV a n ca b m cb, .int .i64 i] w fun e w' => e = .returned (.bool (decide (ys.getD ((P : Int) - 1 - i).toNat 0 ≤ 1))) ∧ Below w.heap.size w w' := by
  have HB0 := ((Below.refl w.heap.size w).alloc (Nat.le_refl _) (.cells #[.int .i64 P, .int .i64 c, .int .i64 h, .int .i64 s] 30)).alloc (by simp) (.cells #[.slice a n ca, .slice b m cb] 32)
  obtain ⟨g, off, rfl, hg, hc0⟩ := h2.2 (by omega)
  have HBB := ((Below.refl B w).alloc hB (.cells #[.int .i64 P, .int .i64 c, .int .i64 h, .int .i64 s] 30)).alloc (by simp; omega) (.cells #[.slice a n ca, .slice (some ⟨g, off, none⟩) m cb] 32)
  have R0 := Lib.hid ((vr4_new w (.int .i64 P) (.int .i64 c) (.int .i64 h) (.int .i64 s) 30).alloc (.cells #[.slice a n ca, .slice (some ⟨g, off, none⟩) m cb] 32))
  have r1 := pr_new (w.alloc (.cells #[.int .i64 P, .int .i64 c, .int .i64 h, .int .i64 s] 30)) (.slice a n ca) (.slice (some ⟨g, off, none⟩) m cb) 32
  simp only [World.size_alloc] at r1
  have R1 := Lib.hid r1
  clear r1
  obtain ⟨k, hk⟩ : ∃ k : Nat, ((P : Int) - 1 - i).toNat = k := ⟨_, rfl⟩
  have cy := (HBB.cell (p := ⟨g, off + k, none⟩) hg).trans (hc0 k (by omega))
  rw [hk]
  obtain ⟨y, hy⟩ : ∃ y, ys.getD k 0 = y := ⟨_, rfl⟩
  rw [hy] at cy ⊢
  have w1 : IntKind.i64.wrap ((P : Int) - 1) = (P : Int) - 1 := IntWalk.i64_in _ (by omega)
  have w2 : IntKind.i64.wrap ((P : Int) - 1 - i) = (k : Int) := by rw [IntWalk.i64_in _ (by omega)]; omega
  have km : (k : Int) < (m : Int) := by omega
  have HBH := Lib.hid HB0
  clear hk hy hc0 h2 HBB HB0
  obtain ⟨c0, c1, c2, c3⟩ := vr4_cells R0.out
  obtain ⟨d0, d1⟩ := pr_cells R1.out
  clear hm
  go_enter Try.func65, Try.ntmps65
  go_wp2_with fail
  go_ret
  exact ⟨rfl, HBH.out⟩
set_option maxHeartbeats 800000 in
theorem l04Open_any (P : Nat) (c h s : Int) (a : Option Addr) (n ca : Nat) (b : Option Addr) (m cb : Nat) (ys : List Int) (i : Int) (B : Nat) (w : World) (h2 : Ints w B .i64 b m ys) (hB : B ≤ w.heap.size) (hP : P ≤ 24) (hm : m = P + 1) (i0 : 0 ≤ i) (i1 : i < P) :
    Calls Try.prog 74 #[vrV P c h s, bdV a n ca b m cb, .int .i64 i] w fun e w' => e = .returned (.bool (decide (ys.getD ((P : Int) - 1 - i).toNat 0 ≤ 1))) ∧ Below w.heap.size w w' := by
  have HB0 := ((Below.refl w.heap.size w).alloc (Nat.le_refl _) (.cells #[.int .i64 P, .int .i64 c, .int .i64 h, .int .i64 s] 30)).alloc (by simp) (.cells #[.slice a n ca, .slice b m cb] 32)
  obtain ⟨g, off, rfl, hg, hc0⟩ := h2.2 (by omega)
  have HBB := ((Below.refl B w).alloc hB (.cells #[.int .i64 P, .int .i64 c, .int .i64 h, .int .i64 s] 30)).alloc (by simp; omega) (.cells #[.slice a n ca, .slice (some ⟨g, off, none⟩) m cb] 32)
  have R0 := Lib.hid ((vr4_new w (.int .i64 P) (.int .i64 c) (.int .i64 h) (.int .i64 s) 30).alloc (.cells #[.slice a n ca, .slice (some ⟨g, off, none⟩) m cb] 32))
  have r1 := pr_new (w.alloc (.cells #[.int .i64 P, .int .i64 c, .int .i64 h, .int .i64 s] 30)) (.slice a n ca) (.slice (some ⟨g, off, none⟩) m cb) 32
  simp only [World.size_alloc] at r1
  have R1 := Lib.hid r1
  clear r1
  obtain ⟨k, hk⟩ : ∃ k : Nat, ((P : Int) - 1 - i).toNat = k := ⟨_, rfl⟩
  have cy := (HBB.cell (p := ⟨g, off + k, none⟩) hg).trans (hc0 k (by omega))
  rw [hk]
  obtain ⟨y, hy⟩ : ∃ y, ys.getD k 0 = y := ⟨_, rfl⟩
  rw [hy] at cy ⊢
  have w1 : IntKind.i64.wrap ((P : Int) - 1) = (P : Int) - 1 := IntWalk.i64_in _ (by omega)
  have w2 : IntKind.i64.wrap ((P : Int) - 1 - i) = (k : Int) := by rw [IntWalk.i64_in _ (by omega)]; omega
  have km : (k : Int) < (m : Int) := by omega
  have HBH := Lib.hid HB0
  clear hk hy hc0 h2 HBB HB0
  obtain ⟨c0, c1, c2, c3⟩ := vr4_cells R0.out
  obtain ⟨d0, d1⟩ := pr_cells R1.out
  clear hm
  go_enter Try.func74, Try.ntmps74
  go_wp2_with fail
  go_ret
  exact ⟨rfl, HBH.out⟩
end Go.Proofs.Ytjfmpnkbocilpaa
