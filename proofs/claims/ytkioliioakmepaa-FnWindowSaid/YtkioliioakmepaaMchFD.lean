/-
  The walk of l19Diff of the reference.
-/
import Derived.Test.YtkioliioakmepaaMchF
import Derived.Deep.RegionHeld3
namespace Go.Proofs.Ytkioliioakmepaa
open Go.ChangeShapes Go.WideShapes Go.ChangeAt Go.RowKit
set_option linter.unusedVariables false

/-- the cells of two boxed shares -/
def L4 (w : World) (g h : Nat) (a b c d : Int) : Prop := w.cell? ⟨g, 0, none⟩ = some (.int .i64 a) ∧ w.cell? ⟨g, 1, none⟩ = some (.int .i64 b) ∧ w.cell? ⟨h, 0, none⟩ = some (.int .i64 c) ∧ w.cell? ⟨h, 1, none⟩ = some (.int .i64 d)
theorem L4.below {w w' : World} {g h B : Nat} {a b c d : Int} (k : L4 w g h a b c d) (hb : Below B w w') (hg : g < B) (hh : h < B) : L4 w' g h a b c d :=
  ⟨(hb.cell (p := ⟨g, 0, none⟩) hg).trans k.1, (hb.cell (p := ⟨g, 1, none⟩) hg).trans k.2.1, (hb.cell (p := ⟨h, 0, none⟩) hh).trans k.2.2.1, (hb.cell (p := ⟨h, 1, none⟩) hh).trans k.2.2.2⟩
set_option maxHeartbeats 1600000 in
theorem l19Diff_any (a b c d : Int) (w : World) (m1 : 0 ≤ a * d) (m2 : a * d ≤ 1000000000000) (m3 : 0 ≤ c * b) (m4 : c * b ≤ 1000000000000) (hL : 0 ≤ a * d - c * b) (hD : 0 < b * d) (hD2 : b * d ≤ 1000000000000) :
    Calls Try.prog 58 #[shV a b, shV c d] w fun e w' => e = .returned (.tuple #[.int .i64 (loN (a * d - c * b) (b * d)), .int .i64 (loD (a * d - c * b) (b * d))]) ∧ Below w.heap.size w w' := by
  have HB := Lib.hid (((Below.refl w.heap.size w).alloc (Nat.le_refl _) (.cells #[.int .i64 a, .int .i64 b] 30)).alloc (by simp) (.cells #[.int .i64 c, .int .i64 d] 30))
  have r0 := (two_new w a b 30).alloc (.cells #[.int .i64 c, .int .i64 d] 30)
  have r1 := two_new (w.alloc (.cells #[.int .i64 a, .int .i64 b] 30)) c d 30
  rw [World.size_alloc] at r1
  obtain ⟨a0, a1, _, _⟩ := two_cells r0
  obtain ⟨b0, b1, _, _⟩ := two_cells r1
  have HQ := Lib.hid (show L4 ((w.alloc (.cells #[.int .i64 a, .int .i64 b] 30)).alloc (.cells #[.int .i64 c, .int .i64 d] 30)) w.heap.size (w.heap.size + 1) a b c d from ⟨a0, a1, b0, b1⟩)
  obtain ⟨_, lo1, lo2, _, _, _, _, _⟩ := lo_facts hL hD
  have LS := Lib.hid (fun W => l19Less_any a b c d W m1 m2 m3 m4)
  have hL2 : a * d - c * b ≤ 1000000000000 := by omega
  obtain ⟨L, hLL⟩ : ∃ L, a * d - c * b = L := ⟨_, rfl⟩
  obtain ⟨D, hDD⟩ : ∃ D, b * d = D := ⟨_, rfl⟩
  rw [hLL] at hL hL2 LS
  rw [hLL, hDD]
  rw [hDD] at hD hD2
  have wm : IntKind.i64.wrap (b * d) = D := by rw [hDD]; exact IntWalk.i64_in _ (by omega)
  obtain ⟨g, hg⟩ : ∃ g : Int, (Int.gcd D L : Int) = g := ⟨_, rfl⟩
  have g0 : 0 < g := by rw [← hg]; exact Int.natCast_pos.2 (Int.gcd_pos_of_ne_zero_left L (by omega))
  have HG := Lib.hid hg
  have HN : Hid (loN L D = L / g) := by rw [← hg]; exact rfl
  have HDn : Hid (loD L D = D / g) := by rw [← hg]; exact rfl
  have z0 : w.heap.size + 1 + 1 = ((w.alloc (.cells #[.int .i64 a, .int .i64 b] 30)).alloc (.cells #[.int .i64 c, .int .i64 d] 30)).heap.size := by simp
  have HZ := Lib.hid z0
  have gn : ¬ g = 0 := by omega
  have wq1 : IntKind.i64.wrap (Int.tdiv L g) = L / g := by
    rw [Int.tdiv_eq_ediv_of_nonneg hL]
    have h1 : L / g ≤ L := Int.ediv_le_self _ hL
    have h2 : 0 ≤ L / g := Int.ediv_nonneg hL (by omega)
    exact IntWalk.i64_in _ (by omega)
  have wq2 : IntKind.i64.wrap (Int.tdiv D g) = D / g := by
    rw [Int.tdiv_eq_ediv_of_nonneg (by omega)]
    have h1 : D / g ≤ D := Int.ediv_le_self _ (by omega)
    have h2 : 0 ≤ D / g := Int.ediv_nonneg (by omega) (by omega)
    exact IntWalk.i64_in _ (by omega)
  clear r0 r1 hLL hDD hg lo1 lo2 m1 m2 m3 m4 z0
  go_enter Try.func58, Try.ntmps58
  go_wp2_with fail
  go_region_held3 (fun w' => w'.cell? ⟨w.heap.size, 0, none⟩ = some (.int .i64 a) ∧ w'.cell? ⟨w.heap.size, 1, none⟩ = some (.int .i64 b) ∧ w'.cell? ⟨w.heap.size + 1, 0, none⟩ = some (.int .i64 c) ∧ w'.cell? ⟨w.heap.size + 1, 1, none⟩ = some (.int .i64 d))
    (first | exact HQ.out | go_keep)
    (first
      | (go_at_call 93; (with_reducible refine (LS.out ((w.alloc (.cells #[.int .i64 a, .int .i64 b] 30)).alloc (.cells #[.int .i64 c, .int .i64 d] 30)).drew).mono ?_); rintro e p1 ⟨rfl, hb⟩; replace HQ := Lib.hid (L4.below (w := ((w.alloc (.cells #[.int .i64 a, .int .i64 b] 30)).alloc (.cells #[.int .i64 c, .int .i64 d] 30)).drew) HQ.out hb (by show w.heap.size < ((w.alloc (.cells #[.int .i64 a, .int .i64 b] 30)).alloc (.cells #[.int .i64 c, .int .i64 d] 30)).heap.size; rw [← HZ.out]; omega) (by show w.heap.size + 1 < ((w.alloc (.cells #[.int .i64 a, .int .i64 b] 30)).alloc (.cells #[.int .i64 c, .int .i64 d] 30)).heap.size; rw [← HZ.out]; omega)); have B2 := Lib.hid (HB.out.drew.trans (hb.mono HB.out.size)); obtain ⟨y0, y1, y2, y3⟩ := HQ.out; clear hb)
      | fail)
  go_wp2_with fail
  refine (l18Gcd_any _ _ _ (by omega) (by omega)).mono ?_
  rintro e w1 ⟨rfl, rfl⟩
  rw [HG.out]
  go_wp2_with fail
  go_region
  go_wp2_with fail
  refine bodyPost_ret (v := .tuple #[.int .i64 (L / g), .int .i64 (D / g)]) (by simp [results, Try.results58, go_sem]) rfl ⟨by rw [HN.out, HDn.out], B2.out.drew⟩
end Go.Proofs.Ytkioliioakmepaa
