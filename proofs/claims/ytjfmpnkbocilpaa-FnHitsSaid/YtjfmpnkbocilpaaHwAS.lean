/-
  l04Apply of the reference: the board behind a legal step, in memory of its own.
-/
import Derived.Test.YtjfmpnkbocilpaaHwA
import Derived.Deep.RegionHeld3
import Derived.RegionTactic
import Derived.BigRegion
namespace Go.Proofs.Ytjfmpnkbocilpaa
open Go.ChangeShapes Go.WideShapes Go.ChangeAt Go.RowKit
set_option linter.unusedVariables false

theorem AfB.drew {w : World} {h q lo gA gB n m : Nat} {p1 p2 p3 p4 s1 s2 s3 s4 : Value} {xs ys : List Int} (X : AfB w h q lo gA gB n m p1 p2 p3 p4 s1 s2 s3 s4 xs ys) : AfB w.drew h q lo gA gB n m p1 p2 p3 p4 s1 s2 s3 s4 xs ys := ⟨X.rv, X.rs, X.rr, ⟨X.bd.a.drew, X.bd.b.drew, X.bd.ga, X.bd.gb, X.bd.ne⟩, X.lo, X.sz⟩
theorem Bd2.drew {w : World} {lo gA gB n m : Nat} {xs ys : List Int} (h : Bd2 w lo gA gB n m xs ys) : Bd2 w.drew lo gA gB n m xs ys := ⟨h.a.drew, h.b.drew, h.ga, h.gb, h.ne⟩
theorem bel_dr {w w' : World} {B : Nat} (h : Below B w w') : Below B w w'.drew := below_drewN h 1

set_option maxRecDepth 16000 in
set_option maxHeartbeats 1600000 in
theorem l04Apply_1 (P : Nat) (c H s : Int) (a : Option Addr) (n ca : Nat) (xs : List Int) (b : Option Addr) (m cb : Nat) (ys : List Int) (F : Nat) (die : Int) (w : World) (h1 : Ints w w.heap.size .i64 a n xs) (h2 : Ints w w.heap.size .i64 b m ys) (hP0 : 1 ≤ P) (hP : P ≤ 24) (hn : n = P + 1) (hm : m = P + 1) (hF : F < n) (bx : 1 ≤ xs.getD F 0 ∧ xs.getD F 0 ≤ 15) :
    Calls Try.prog 67 #[vrV P c H s, bdV a n ca b m cb, .agg #[.int .i64 F, .int .i64 (-1), .int .i64 die, .bool false]] w fun e w' => BdPost n (xs.set F (xs.getD F 0 - 1)) m ys w e w' := by
  have hb0 := ((((Below.refl w.heap.size w).alloc (Nat.le_refl _) (.cells #[.int .i64 P, .int .i64 c, .int .i64 H, .int .i64 s] 30)).alloc (by simp) (.cells #[.slice a n ca, .slice b m cb] 32)).alloc (by simp; omega) (.cells #[.int .i64 F, .int .i64 (-1), .int .i64 die, .bool false] 72)).alloc (by simp; omega) (.cells #[.slice none 0 0, .slice none 0 0] 32)
  have V0 := (((vr4_new w (.int .i64 P) (.int .i64 c) (.int .i64 H) (.int .i64 s) 30).alloc (.cells #[.slice a n ca, .slice b m cb] 32)).alloc (.cells #[.int .i64 F, .int .i64 (-1), .int .i64 die, .bool false] 72)).alloc (.cells #[.slice none 0 0, .slice none 0 0] 32)
  have D0 := ((pr_new (w.alloc (.cells #[.int .i64 P, .int .i64 c, .int .i64 H, .int .i64 s] 30)) (.slice a n ca) (.slice b m cb) 32).alloc (.cells #[.int .i64 F, .int .i64 (-1), .int .i64 die, .bool false] 72)).alloc (.cells #[.slice none 0 0, .slice none 0 0] 32)
  have S0 := (vr4_new ((w.alloc (.cells #[.int .i64 P, .int .i64 c, .int .i64 H, .int .i64 s] 30)).alloc (.cells #[.slice a n ca, .slice b m cb] 32)) (.int .i64 F) (.int .i64 (-1)) (.int .i64 die) (.bool false) 72).alloc (.cells #[.slice none 0 0, .slice none 0 0] 32)
  have R0 := pr_new (((w.alloc (.cells #[.int .i64 P, .int .i64 c, .int .i64 H, .int .i64 s] 30)).alloc (.cells #[.slice a n ca, .slice b m cb] 32)).alloc (.cells #[.int .i64 F, .int .i64 (-1), .int .i64 die, .bool false] 72)) (.slice none 0 0) (.slice none 0 0) 32
  simp only [World.size_alloc] at D0 S0 R0
  obtain ⟨W0, hW0⟩ : ∃ W, ((((w.alloc (.cells #[.int .i64 P, .int .i64 c, .int .i64 H, .int .i64 s] 30)).alloc (.cells #[.slice a n ca, .slice b m cb] 32)).alloc (.cells #[.int .i64 F, .int .i64 (-1), .int .i64 die, .bool false] 72)).alloc (.cells #[.slice none 0 0, .slice none 0 0] 32)) = W := ⟨_, rfl⟩
  have zW : w.heap.size + 3 < W0.heap.size := by rw [← hW0]; simp
  rw [hW0] at hb0 V0 D0 S0 R0
  have HW0 := Lib.hid hW0
  clear hW0
  have I1 := Lib.hid (show Ints W0.drew W0.drew.heap.size .i64 a n xs from (h1.below hb0).more hb0.size)
  have I2 := Lib.hid (show Ints W0.drew W0.drew.heap.size .i64 b m ys from (h2.below hb0).more hb0.size)
  have D0d := Lib.hid (show W0.drew.rowIs (w.heap.size + 1) 32 2 (pr (.slice a n ca) (.slice b m cb)) from D0)
  have HL1 := Lib.hid h1.len
  have HL2 := Lib.hid h2.len
  have V0' := Lib.hid V0
  have S0' := Lib.hid S0
  have R0' := Lib.hid R0
  have HB0 := Lib.hid hb0
  obtain ⟨v4, v5⟩ := pr_cells D0
  have HN := Lib.hid hn
  have HM := Lib.hid hm
  have hnP : P < n := by omega
  have hnP2 : n ≤ P + 1 := by omega
  have hmP : P < m := by omega
  have hmP2 : m ≤ P + 1 := by omega
  clear h1 h2 hn hm V0 S0 R0 D0 hb0
  go_enter Try.func67, Try.ntmps67
  go_wp2_with fail
  rw [HW0.out]
  go_region_held3 (fun w' => w'.cell? ⟨w.heap.size + 1, 0, none⟩ = some (.slice a n ca) ∧ w'.cell? ⟨w.heap.size + 1, 1, none⟩ = some (.slice b m cb))
    (first | go_keep)
    (first
      | (go_at_call 56; (with_reducible refine (l02Own_any a n ca xs W0.drew I1.out (by omega) (by omega)).mono ?_); rintro e w3 ⟨A, c3, rfl, _, hr, hb⟩; have D3 := Lib.hid (rowIs_below D0d.out hb D0d.out.lt); have J2 := Lib.hid ((I2.out.below hb).more hb.size); have B3 := Lib.hid hb; have A3 := Lib.hid hr; have z3 := hb.size; obtain ⟨y0, y1⟩ := pr_cells D3.out; clear hb hr)
      | (go_at_call 56; (with_reducible refine (l02Own_any b m cb ys w3 J2.out (by omega) (by omega)).mono ?_); rintro e w4 ⟨B, c4, rfl, _, hr, hb⟩; have D4 := Lib.hid (rowIs_below D3.out hb D3.out.lt); have A4 := Lib.hid (A3.out.below hb); have C4 := Lib.hid hr; have B4 := Lib.hid (B3.out.trans (hb.mono B3.out.size)); have z4 := hb.size; obtain ⟨x0, x1⟩ := pr_cells D4.out; clear hb hr))
  have zd : W0.drew.heap.size = W0.heap.size := rfl
  rw [zd] at z3
  obtain ⟨gA, rfl, a1, a2, a3, hA⟩ := rown_one A4.out (by omega)
  obtain ⟨gB, rfl, b1, b2, b3, hB⟩ := rown_one C4.out (by omega)
  rw [zd] at a1
  have BW : Below W0.heap.size W0 w4 := (show Below W0.heap.size W0 W0.drew from below_drewN (Below.refl _ _) 1).trans B4.out
  have Y0 := Lib.hid (show AfB w4 w.heap.size w4.heap.size W0.heap.size gA gB n m (.int .i64 P) (.int .i64 c) (.int .i64 H) (.int .i64 s) (.int .i64 F) (.int .i64 (-1)) (.int .i64 die) (.bool false) xs ys from
    ⟨rowIs_below V0'.out BW V0'.out.lt, rowIs_below S0'.out BW S0'.out.lt, rowIs_below R0'.out BW R0'.out.lt, ⟨hA, hB, by omega, by omega, by omega⟩, by omega, rfl⟩)
  have HB := Lib.hid (HB0.out.trans (BW.mono HB0.out.size))
  have nA : W0.heap.size ≤ gA := by omega
  have nB : W0.heap.size ≤ gB := by omega
  have nAB : gA ≠ gB := by omega
  have n1 : gA ≠ w.heap.size := by omega
  have n2 : gA ≠ w.heap.size + 1 + 1 := by omega
  have n3 : gA ≠ w.heap.size + 1 + 1 + 1 := by omega
  have n4 : gB ≠ w.heap.size := by omega
  have n5 : gB ≠ w.heap.size + 1 + 1 := by omega
  have n6 : gB ≠ w.heap.size + 1 + 1 + 1 := by omega
  have Fn : (F : Int) < (n : Int) := by omega
  clear hA hB BW zd a1 a2 a3 b1 b2 b3 A4 C4 B4 A3 B3 D3 D4 J2 x0 x1 y0 y1 V0' S0' R0' HB0 z3 z4 v4 v5 I1 I2
  obtain ⟨x, hx⟩ : ∃ x, xs.getD F 0 = x := ⟨_, rfl⟩
  rw [hx] at bx
  have Y1 := Lib.hid (Y0.out.setA (i := F) hF HL1.out (x - 1))
  obtain ⟨cx, fx⟩ := row_cells Y0.out.bd.a hF
  rw [icell_eq, hx] at cx
  have wx : IntKind.i64.wrap (x - 1) = x - 1 := IntWalk.i64_in _ (by omega)
  have EX := Lib.hid hx
  clear hx
  obtain ⟨v00, v01, v02, v03⟩ := vr4_cells Y0.out.rv
  obtain ⟨s00, s01, s02, s03⟩ := vr4_cells Y0.out.rs
  obtain ⟨t00, t01⟩ := pr_cells Y0.out.rr
  have r00 := Y0.out.rr.frozen 0
  have r01 := Y0.out.rr.frozen 1
  obtain ⟨v10, v11, v12, v13⟩ := vr4_cells Y1.out.rv
  obtain ⟨s10, s11, s12, s13⟩ := vr4_cells Y1.out.rs
  obtain ⟨t10, t11⟩ := pr_cells Y1.out.rr
  have r10 := Y1.out.rr.frozen 0
  have r11 := Y1.out.rr.frozen 1
  go_wp2_with fail
  go_region
  have HB5 := Lib.hid (((HB.out.setCell (p := ⟨gA, F, none⟩) (by show w.heap.size ≤ gA; omega) (.int .i64 (x - 1))).setCell (p := ⟨w.heap.size + 1 + 1 + 1, 0, none⟩) (by show w.heap.size ≤ w.heap.size + 1 + 1 + 1; omega) (.slice (some ⟨gA, 0, none⟩) n c3)).setCell (p := ⟨w.heap.size + 1 + 1 + 1, 1, none⟩) (by show w.heap.size ≤ w.heap.size + 1 + 1 + 1; omega) (.slice (some ⟨gB, 0, none⟩) m c4))
  go_wp2_with fail
  obtain ⟨p0, p1⟩ := pr_cells (pr_set Y1.out.rr (.slice (some ⟨gA, 0, none⟩) n c3) (.slice (some ⟨gB, 0, none⟩) m c4))
  have E2 := ((Y1.out.bd.ne' (g := w.heap.size + 1 + 1 + 1) (by omega) 0 (.slice (some ⟨gA, 0, none⟩) n c3)).ne' (g := w.heap.size + 1 + 1 + 1) (by omega) 1 (.slice (some ⟨gB, 0, none⟩) m c4)).lower (lo' := w.heap.size) (by omega)
  refine bodyPost_ret (v := bdV (some ⟨gA, 0, none⟩) n c3 (some ⟨gB, 0, none⟩) m c4) (by simp [results, Try.results67, go_sem, p0, p1]) rfl ⟨gA, c3, gB, c4, rfl, ?_, ?_⟩
  · rw [EX.out]; first | (with_reducible exact E2) | (with_reducible exact E2.drew) | (with_reducible exact E2.drew.drew) | (with_reducible exact E2.drew.drew.drew)
  · first | (with_reducible exact HB5.out) | (with_reducible exact bel_dr HB5.out) | (with_reducible exact bel_dr (bel_dr HB5.out)) | (with_reducible exact bel_dr (bel_dr (bel_dr HB5.out)))

set_option maxRecDepth 16000 in
set_option maxHeartbeats 1600000 in
theorem l04Apply_2 (P : Nat) (c H s : Int) (a : Option Addr) (n ca : Nat) (xs : List Int) (b : Option Addr) (m cb : Nat) (ys : List Int) (F T : Nat) (die : Int) (w : World) (h1 : Ints w w.heap.size .i64 a n xs) (h2 : Ints w w.heap.size .i64 b m ys) (hP0 : 1 ≤ P) (hP : P ≤ 24) (hn : n = P + 1) (hm : m = P + 1) (hF : F < n) (bx : 1 ≤ xs.getD F 0 ∧ xs.getD F 0 ≤ 15) (hT : T < n) (by' : 0 ≤ (xs.set F (xs.getD F 0 - 1)).getD T 0 ∧ (xs.set F (xs.getD F 0 - 1)).getD T 0 ≤ 15) :
    Calls Try.prog 67 #[vrV P c H s, bdV a n ca b m cb, .agg #[.int .i64 F, .int .i64 T, .int .i64 die, .bool false]] w fun e w' => BdPost n ((xs.set F (xs.getD F 0 - 1)).set T ((xs.set F (xs.getD F 0 - 1)).getD T 0 + 1)) m ys w e w' := by
  have hb0 := ((((Below.refl w.heap.size w).alloc (Nat.le_refl _) (.cells #[.int .i64 P, .int .i64 c, .int .i64 H, .int .i64 s] 30)).alloc (by simp) (.cells #[.slice a n ca, .slice b m cb] 32)).alloc (by simp; omega) (.cells #[.int .i64 F, .int .i64 T, .int .i64 die, .bool false] 72)).alloc (by simp; omega) (.cells #[.slice none 0 0, .slice none 0 0] 32)
  have V0 := (((vr4_new w (.int .i64 P) (.int .i64 c) (.int .i64 H) (.int .i64 s) 30).alloc (.cells #[.slice a n ca, .slice b m cb] 32)).alloc (.cells #[.int .i64 F, .int .i64 T, .int .i64 die, .bool false] 72)).alloc (.cells #[.slice none 0 0, .slice none 0 0] 32)
  have D0 := ((pr_new (w.alloc (.cells #[.int .i64 P, .int .i64 c, .int .i64 H, .int .i64 s] 30)) (.slice a n ca) (.slice b m cb) 32).alloc (.cells #[.int .i64 F, .int .i64 T, .int .i64 die, .bool false] 72)).alloc (.cells #[.slice none 0 0, .slice none 0 0] 32)
  have S0 := (vr4_new ((w.alloc (.cells #[.int .i64 P, .int .i64 c, .int .i64 H, .int .i64 s] 30)).alloc (.cells #[.slice a n ca, .slice b m cb] 32)) (.int .i64 F) (.int .i64 T) (.int .i64 die) (.bool false) 72).alloc (.cells #[.slice none 0 0, .slice none 0 0] 32)
  have R0 := pr_new (((w.alloc (.cells #[.int .i64 P, .int .i64 c, .int .i64 H, .int .i64 s] 30)).alloc (.cells #[.slice a n ca, .slice b m cb] 32)).alloc (.cells #[.int .i64 F, .int .i64 T, .int .i64 die, .bool false] 72)) (.slice none 0 0) (.slice none 0 0) 32
  simp only [World.size_alloc] at D0 S0 R0
  obtain ⟨W0, hW0⟩ : ∃ W, ((((w.alloc (.cells #[.int .i64 P, .int .i64 c, .int .i64 H, .int .i64 s] 30)).alloc (.cells #[.slice a n ca, .slice b m cb] 32)).alloc (.cells #[.int .i64 F, .int .i64 T, .int .i64 die, .bool false] 72)).alloc (.cells #[.slice none 0 0, .slice none 0 0] 32)) = W := ⟨_, rfl⟩
  have zW : w.heap.size + 3 < W0.heap.size := by rw [← hW0]; simp
  rw [hW0] at hb0 V0 D0 S0 R0
  have HW0 := Lib.hid hW0
  clear hW0
  have I1 := Lib.hid (show Ints W0.drew W0.drew.heap.size .i64 a n xs from (h1.below hb0).more hb0.size)
  have I2 := Lib.hid (show Ints W0.drew W0.drew.heap.size .i64 b m ys from (h2.below hb0).more hb0.size)
  have D0d := Lib.hid (show W0.drew.rowIs (w.heap.size + 1) 32 2 (pr (.slice a n ca) (.slice b m cb)) from D0)
  have HL1 := Lib.hid h1.len
  have HL2 := Lib.hid h2.len
  have V0' := Lib.hid V0
  have S0' := Lib.hid S0
  have R0' := Lib.hid R0
  have HB0 := Lib.hid hb0
  obtain ⟨v4, v5⟩ := pr_cells D0
  have HN := Lib.hid hn
  have HM := Lib.hid hm
  have hnP : P < n := by omega
  have hnP2 : n ≤ P + 1 := by omega
  have hmP : P < m := by omega
  have hmP2 : m ≤ P + 1 := by omega
  clear h1 h2 hn hm V0 S0 R0 D0 hb0
  go_enter Try.func67, Try.ntmps67
  go_wp2_with fail
  rw [HW0.out]
  go_region_held3 (fun w' => w'.cell? ⟨w.heap.size + 1, 0, none⟩ = some (.slice a n ca) ∧ w'.cell? ⟨w.heap.size + 1, 1, none⟩ = some (.slice b m cb))
    (first | go_keep)
    (first
      | (go_at_call 56; (with_reducible refine (l02Own_any a n ca xs W0.drew I1.out (by omega) (by omega)).mono ?_); rintro e w3 ⟨A, c3, rfl, _, hr, hb⟩; have D3 := Lib.hid (rowIs_below D0d.out hb D0d.out.lt); have J2 := Lib.hid ((I2.out.below hb).more hb.size); have B3 := Lib.hid hb; have A3 := Lib.hid hr; have z3 := hb.size; obtain ⟨y0, y1⟩ := pr_cells D3.out; clear hb hr)
      | (go_at_call 56; (with_reducible refine (l02Own_any b m cb ys w3 J2.out (by omega) (by omega)).mono ?_); rintro e w4 ⟨B, c4, rfl, _, hr, hb⟩; have D4 := Lib.hid (rowIs_below D3.out hb D3.out.lt); have A4 := Lib.hid (A3.out.below hb); have C4 := Lib.hid hr; have B4 := Lib.hid (B3.out.trans (hb.mono B3.out.size)); have z4 := hb.size; obtain ⟨x0, x1⟩ := pr_cells D4.out; clear hb hr))
  have zd : W0.drew.heap.size = W0.heap.size := rfl
  rw [zd] at z3
  obtain ⟨gA, rfl, a1, a2, a3, hA⟩ := rown_one A4.out (by omega)
  obtain ⟨gB, rfl, b1, b2, b3, hB⟩ := rown_one C4.out (by omega)
  rw [zd] at a1
  have BW : Below W0.heap.size W0 w4 := (show Below W0.heap.size W0 W0.drew from below_drewN (Below.refl _ _) 1).trans B4.out
  have Y0 := Lib.hid (show AfB w4 w.heap.size w4.heap.size W0.heap.size gA gB n m (.int .i64 P) (.int .i64 c) (.int .i64 H) (.int .i64 s) (.int .i64 F) (.int .i64 T) (.int .i64 die) (.bool false) xs ys from
    ⟨rowIs_below V0'.out BW V0'.out.lt, rowIs_below S0'.out BW S0'.out.lt, rowIs_below R0'.out BW R0'.out.lt, ⟨hA, hB, by omega, by omega, by omega⟩, by omega, rfl⟩)
  have HB := Lib.hid (HB0.out.trans (BW.mono HB0.out.size))
  have nA : W0.heap.size ≤ gA := by omega
  have nB : W0.heap.size ≤ gB := by omega
  have nAB : gA ≠ gB := by omega
  have n1 : gA ≠ w.heap.size := by omega
  have n2 : gA ≠ w.heap.size + 1 + 1 := by omega
  have n3 : gA ≠ w.heap.size + 1 + 1 + 1 := by omega
  have n4 : gB ≠ w.heap.size := by omega
  have n5 : gB ≠ w.heap.size + 1 + 1 := by omega
  have n6 : gB ≠ w.heap.size + 1 + 1 + 1 := by omega
  have Fn : (F : Int) < (n : Int) := by omega
  clear hA hB BW zd a1 a2 a3 b1 b2 b3 A4 C4 B4 A3 B3 D3 D4 J2 x0 x1 y0 y1 V0' S0' R0' HB0 z3 z4 v4 v5 I1 I2
  obtain ⟨x, hx⟩ : ∃ x, xs.getD F 0 = x := ⟨_, rfl⟩
  rw [hx] at bx by'
  have Y1 := Lib.hid (Y0.out.setA (i := F) hF HL1.out (x - 1))
  obtain ⟨cx, fx⟩ := row_cells Y0.out.bd.a hF
  rw [icell_eq, hx] at cx
  have wx : IntKind.i64.wrap (x - 1) = x - 1 := IntWalk.i64_in _ (by omega)
  have EX := Lib.hid hx
  clear hx
  obtain ⟨xs1, hxs1⟩ : ∃ l, xs.set F (x - 1) = l := ⟨_, rfl⟩
  have L1 : xs1.length = n := by rw [← hxs1, List.length_set]; exact HL1.out
  rw [hxs1] at Y1 by'
  have EXS := Lib.hid hxs1
  clear hxs1
  obtain ⟨y, hy⟩ : ∃ y, xs1.getD T 0 = y := ⟨_, rfl⟩
  rw [hy] at by'
  have Y2 := Lib.hid (Y1.out.setA (i := T) hT L1 (y + 1))
  obtain ⟨cy, fy⟩ := row_cells Y1.out.bd.a hT
  rw [icell_eq, hy] at cy
  have wy : IntKind.i64.wrap (y + 1) = y + 1 := IntWalk.i64_in _ (by omega)
  have Tn : (T : Int) < (n : Int) := by omega
  have EY := Lib.hid hy
  clear hy L1
  obtain ⟨v00, v01, v02, v03⟩ := vr4_cells Y0.out.rv
  obtain ⟨s00, s01, s02, s03⟩ := vr4_cells Y0.out.rs
  obtain ⟨t00, t01⟩ := pr_cells Y0.out.rr
  have r00 := Y0.out.rr.frozen 0
  have r01 := Y0.out.rr.frozen 1
  obtain ⟨v10, v11, v12, v13⟩ := vr4_cells Y1.out.rv
  obtain ⟨s10, s11, s12, s13⟩ := vr4_cells Y1.out.rs
  obtain ⟨t10, t11⟩ := pr_cells Y1.out.rr
  have r10 := Y1.out.rr.frozen 0
  have r11 := Y1.out.rr.frozen 1
  obtain ⟨v20, v21, v22, v23⟩ := vr4_cells Y2.out.rv
  obtain ⟨s20, s21, s22, s23⟩ := vr4_cells Y2.out.rs
  obtain ⟨t20, t21⟩ := pr_cells Y2.out.rr
  have r20 := Y2.out.rr.frozen 0
  have r21 := Y2.out.rr.frozen 1
  go_wp2_with fail
  go_region
  go_wp2_with fail
  go_region
  have HB5 := Lib.hid ((((HB.out.setCell (p := ⟨gA, F, none⟩) (by show w.heap.size ≤ gA; omega) (.int .i64 (x - 1))).setCell (p := ⟨gA, T, none⟩) (by show w.heap.size ≤ gA; omega) (.int .i64 (y + 1))).setCell (p := ⟨w.heap.size + 1 + 1 + 1, 0, none⟩) (by show w.heap.size ≤ w.heap.size + 1 + 1 + 1; omega) (.slice (some ⟨gA, 0, none⟩) n c3)).setCell (p := ⟨w.heap.size + 1 + 1 + 1, 1, none⟩) (by show w.heap.size ≤ w.heap.size + 1 + 1 + 1; omega) (.slice (some ⟨gB, 0, none⟩) m c4))
  go_wp2_with fail
  obtain ⟨p0, p1⟩ := pr_cells (pr_set Y2.out.rr (.slice (some ⟨gA, 0, none⟩) n c3) (.slice (some ⟨gB, 0, none⟩) m c4))
  have E2 := ((Y2.out.bd.ne' (g := w.heap.size + 1 + 1 + 1) (by omega) 0 (.slice (some ⟨gA, 0, none⟩) n c3)).ne' (g := w.heap.size + 1 + 1 + 1) (by omega) 1 (.slice (some ⟨gB, 0, none⟩) m c4)).lower (lo' := w.heap.size) (by omega)
  refine bodyPost_ret (v := bdV (some ⟨gA, 0, none⟩) n c3 (some ⟨gB, 0, none⟩) m c4) (by simp [results, Try.results67, go_sem, p0, p1]) rfl ⟨gA, c3, gB, c4, rfl, ?_, ?_⟩
  · rw [EX.out, EXS.out, EY.out]; first | (with_reducible exact E2) | (with_reducible exact E2.drew) | (with_reducible exact E2.drew.drew) | (with_reducible exact E2.drew.drew.drew)
  · first | (with_reducible exact HB5.out) | (with_reducible exact bel_dr HB5.out) | (with_reducible exact bel_dr (bel_dr HB5.out)) | (with_reducible exact bel_dr (bel_dr (bel_dr HB5.out)))

set_option maxRecDepth 16000 in
set_option maxHeartbeats 3200000 in
theorem l04Apply_3 (P : Nat) (c H s : Int) (a : Option Addr) (n ca : Nat) (xs : List Int) (b : Option Addr) (m cb : Nat) (ys : List Int) (F T : Nat) (die : Int) (w : World) (h1 : Ints w w.heap.size .i64 a n xs) (h2 : Ints w w.heap.size .i64 b m ys) (hP0 : 1 ≤ P) (hP : P ≤ 24) (hn : n = P + 1) (hm : m = P + 1) (hF : F < n) (bx : 1 ≤ xs.getD F 0 ∧ xs.getD F 0 ≤ 15) (hT : T < n) (by' : 0 ≤ (xs.set F (xs.getD F 0 - 1)).getD T 0 ∧ (xs.set F (xs.getD F 0 - 1)).getD T 0 ≤ 15) (k : Nat) (hk : k < m) (hkT : (P : Int) - 1 - T = k) (bz : 0 ≤ ys.getD k 0 ∧ ys.getD k 0 ≤ 15) (bu : 0 ≤ (ys.set k (ys.getD k 0 - 1)).getD P 0 ∧ (ys.set k (ys.getD k 0 - 1)).getD P 0 ≤ 15) :
    Calls Try.prog 67 #[vrV P c H s, bdV a n ca b m cb, .agg #[.int .i64 F, .int .i64 T, .int .i64 die, .bool true]] w fun e w' => BdPost n ((xs.set F (xs.getD F 0 - 1)).set T ((xs.set F (xs.getD F 0 - 1)).getD T 0 + 1)) m ((ys.set k (ys.getD k 0 - 1)).set P ((ys.set k (ys.getD k 0 - 1)).getD P 0 + 1)) w e w' := by
  have hb0 := ((((Below.refl w.heap.size w).alloc (Nat.le_refl _) (.cells #[.int .i64 P, .int .i64 c, .int .i64 H, .int .i64 s] 30)).alloc (by simp) (.cells #[.slice a n ca, .slice b m cb] 32)).alloc (by simp; omega) (.cells #[.int .i64 F, .int .i64 T, .int .i64 die, .bool true] 72)).alloc (by simp; omega) (.cells #[.slice none 0 0, .slice none 0 0] 32)
  have V0 := (((vr4_new w (.int .i64 P) (.int .i64 c) (.int .i64 H) (.int .i64 s) 30).alloc (.cells #[.slice a n ca, .slice b m cb] 32)).alloc (.cells #[.int .i64 F, .int .i64 T, .int .i64 die, .bool true] 72)).alloc (.cells #[.slice none 0 0, .slice none 0 0] 32)
  have D0 := ((pr_new (w.alloc (.cells #[.int .i64 P, .int .i64 c, .int .i64 H, .int .i64 s] 30)) (.slice a n ca) (.slice b m cb) 32).alloc (.cells #[.int .i64 F, .int .i64 T, .int .i64 die, .bool true] 72)).alloc (.cells #[.slice none 0 0, .slice none 0 0] 32)
  have S0 := (vr4_new ((w.alloc (.cells #[.int .i64 P, .int .i64 c, .int .i64 H, .int .i64 s] 30)).alloc (.cells #[.slice a n ca, .slice b m cb] 32)) (.int .i64 F) (.int .i64 T) (.int .i64 die) (.bool true) 72).alloc (.cells #[.slice none 0 0, .slice none 0 0] 32)
  have R0 := pr_new (((w.alloc (.cells #[.int .i64 P, .int .i64 c, .int .i64 H, .int .i64 s] 30)).alloc (.cells #[.slice a n ca, .slice b m cb] 32)).alloc (.cells #[.int .i64 F, .int .i64 T, .int .i64 die, .bool true] 72)) (.slice none 0 0) (.slice none 0 0) 32
  simp only [World.size_alloc] at D0 S0 R0
  obtain ⟨W0, hW0⟩ : ∃ W, ((((w.alloc (.cells #[.int .i64 P, .int .i64 c, .int .i64 H, .int .i64 s] 30)).alloc (.cells #[.slice a n ca, .slice b m cb] 32)).alloc (.cells #[.int .i64 F, .int .i64 T, .int .i64 die, .bool true] 72)).alloc (.cells #[.slice none 0 0, .slice none 0 0] 32)) = W := ⟨_, rfl⟩
  have zW : w.heap.size + 3 < W0.heap.size := by rw [← hW0]; simp
  rw [hW0] at hb0 V0 D0 S0 R0
  have HW0 := Lib.hid hW0
  clear hW0
  have I1 := Lib.hid (show Ints W0.drew W0.drew.heap.size .i64 a n xs from (h1.below hb0).more hb0.size)
  have I2 := Lib.hid (show Ints W0.drew W0.drew.heap.size .i64 b m ys from (h2.below hb0).more hb0.size)
  have D0d := Lib.hid (show W0.drew.rowIs (w.heap.size + 1) 32 2 (pr (.slice a n ca) (.slice b m cb)) from D0)
  have HL1 := Lib.hid h1.len
  have HL2 := Lib.hid h2.len
  have V0' := Lib.hid V0
  have S0' := Lib.hid S0
  have R0' := Lib.hid R0
  have HB0 := Lib.hid hb0
  obtain ⟨v4, v5⟩ := pr_cells D0
  have HN := Lib.hid hn
  have HM := Lib.hid hm
  have hnP : P < n := by omega
  have hnP2 : n ≤ P + 1 := by omega
  have hmP : P < m := by omega
  have hmP2 : m ≤ P + 1 := by omega
  clear h1 h2 hn hm V0 S0 R0 D0 hb0
  go_enter Try.func67, Try.ntmps67
  go_wp2_with fail
  rw [HW0.out]
  go_region_held3 (fun w' => w'.cell? ⟨w.heap.size + 1, 0, none⟩ = some (.slice a n ca) ∧ w'.cell? ⟨w.heap.size + 1, 1, none⟩ = some (.slice b m cb))
    (first | go_keep)
    (first
      | (go_at_call 56; (with_reducible refine (l02Own_any a n ca xs W0.drew I1.out (by omega) (by omega)).mono ?_); rintro e w3 ⟨A, c3, rfl, _, hr, hb⟩; have D3 := Lib.hid (rowIs_below D0d.out hb D0d.out.lt); have J2 := Lib.hid ((I2.out.below hb).more hb.size); have B3 := Lib.hid hb; have A3 := Lib.hid hr; have z3 := hb.size; obtain ⟨y0, y1⟩ := pr_cells D3.out; clear hb hr)
      | (go_at_call 56; (with_reducible refine (l02Own_any b m cb ys w3 J2.out (by omega) (by omega)).mono ?_); rintro e w4 ⟨B, c4, rfl, _, hr, hb⟩; have D4 := Lib.hid (rowIs_below D3.out hb D3.out.lt); have A4 := Lib.hid (A3.out.below hb); have C4 := Lib.hid hr; have B4 := Lib.hid (B3.out.trans (hb.mono B3.out.size)); have z4 := hb.size; obtain ⟨x0, x1⟩ := pr_cells D4.out; clear hb hr))
  have zd : W0.drew.heap.size = W0.heap.size := rfl
  rw [zd] at z3
  obtain ⟨gA, rfl, a1, a2, a3, hA⟩ := rown_one A4.out (by omega)
  obtain ⟨gB, rfl, b1, b2, b3, hB⟩ := rown_one C4.out (by omega)
  rw [zd] at a1
  have BW : Below W0.heap.size W0 w4 := (show Below W0.heap.size W0 W0.drew from below_drewN (Below.refl _ _) 1).trans B4.out
  have Y0 := Lib.hid (show AfB w4 w.heap.size w4.heap.size W0.heap.size gA gB n m (.int .i64 P) (.int .i64 c) (.int .i64 H) (.int .i64 s) (.int .i64 F) (.int .i64 T) (.int .i64 die) (.bool true) xs ys from
    ⟨rowIs_below V0'.out BW V0'.out.lt, rowIs_below S0'.out BW S0'.out.lt, rowIs_below R0'.out BW R0'.out.lt, ⟨hA, hB, by omega, by omega, by omega⟩, by omega, rfl⟩)
  have HB := Lib.hid (HB0.out.trans (BW.mono HB0.out.size))
  have nA : W0.heap.size ≤ gA := by omega
  have nB : W0.heap.size ≤ gB := by omega
  have nAB : gA ≠ gB := by omega
  have n1 : gA ≠ w.heap.size := by omega
  have n2 : gA ≠ w.heap.size + 1 + 1 := by omega
  have n3 : gA ≠ w.heap.size + 1 + 1 + 1 := by omega
  have n4 : gB ≠ w.heap.size := by omega
  have n5 : gB ≠ w.heap.size + 1 + 1 := by omega
  have n6 : gB ≠ w.heap.size + 1 + 1 + 1 := by omega
  have Fn : (F : Int) < (n : Int) := by omega
  clear hA hB BW zd a1 a2 a3 b1 b2 b3 A4 C4 B4 A3 B3 D3 D4 J2 x0 x1 y0 y1 V0' S0' R0' HB0 z3 z4 v4 v5 I1 I2
  obtain ⟨x, hx⟩ : ∃ x, xs.getD F 0 = x := ⟨_, rfl⟩
  rw [hx] at bx by'
  have Y1 := Lib.hid (Y0.out.setA (i := F) hF HL1.out (x - 1))
  obtain ⟨cx, fx⟩ := row_cells Y0.out.bd.a hF
  rw [icell_eq, hx] at cx
  have wx : IntKind.i64.wrap (x - 1) = x - 1 := IntWalk.i64_in _ (by omega)
  have EX := Lib.hid hx
  clear hx
  obtain ⟨xs1, hxs1⟩ : ∃ l, xs.set F (x - 1) = l := ⟨_, rfl⟩
  have L1 : xs1.length = n := by rw [← hxs1, List.length_set]; exact HL1.out
  rw [hxs1] at Y1 by'
  have EXS := Lib.hid hxs1
  clear hxs1
  obtain ⟨y, hy⟩ : ∃ y, xs1.getD T 0 = y := ⟨_, rfl⟩
  rw [hy] at by'
  have Y2 := Lib.hid (Y1.out.setA (i := T) hT L1 (y + 1))
  obtain ⟨cy, fy⟩ := row_cells Y1.out.bd.a hT
  rw [icell_eq, hy] at cy
  have wy : IntKind.i64.wrap (y + 1) = y + 1 := IntWalk.i64_in _ (by omega)
  have Tn : (T : Int) < (n : Int) := by omega
  have EY := Lib.hid hy
  clear hy L1
  obtain ⟨z, hz⟩ : ∃ z, ys.getD k 0 = z := ⟨_, rfl⟩
  rw [hz] at bz bu
  have Y3 := Lib.hid (Y2.out.setB (i := k) hk HL2.out (z - 1))
  obtain ⟨cz, fz⟩ := row_cells Y2.out.bd.b hk
  rw [icell_eq, hz] at cz
  have wz : IntKind.i64.wrap (z - 1) = z - 1 := IntWalk.i64_in _ (by omega)
  have kn : (k : Int) < (m : Int) := by omega
  have wP : IntKind.i64.wrap ((P : Int) - 1) = (P : Int) - 1 := IntWalk.i64_in _ (by omega)
  have wk : IntKind.i64.wrap ((P : Int) - 1 - T) = (k : Int) := by rw [IntWalk.i64_in _ (by omega)]; omega
  clear hkT
  have EZ := Lib.hid hz
  clear hz
  obtain ⟨ys1, hys1⟩ : ∃ l, ys.set k (z - 1) = l := ⟨_, rfl⟩
  have M1 : ys1.length = m := by rw [← hys1, List.length_set]; exact HL2.out
  rw [hys1] at Y3 bu
  have EYS := Lib.hid hys1
  clear hys1
  obtain ⟨u, hu⟩ : ∃ u, ys1.getD P 0 = u := ⟨_, rfl⟩
  rw [hu] at bu
  have Y4 := Lib.hid (Y3.out.setB (i := P) (by omega) M1 (u + 1))
  obtain ⟨cu, fu⟩ := row_cells Y3.out.bd.b (i := P) (by omega)
  rw [icell_eq, hu] at cu
  have wu : IntKind.i64.wrap (u + 1) = u + 1 := IntWalk.i64_in _ (by omega)
  have Pm : (P : Int) < (m : Int) := by omega
  have EU := Lib.hid hu
  clear hu M1
  obtain ⟨v00, v01, v02, v03⟩ := vr4_cells Y0.out.rv
  obtain ⟨s00, s01, s02, s03⟩ := vr4_cells Y0.out.rs
  obtain ⟨t00, t01⟩ := pr_cells Y0.out.rr
  have r00 := Y0.out.rr.frozen 0
  have r01 := Y0.out.rr.frozen 1
  obtain ⟨v10, v11, v12, v13⟩ := vr4_cells Y1.out.rv
  obtain ⟨s10, s11, s12, s13⟩ := vr4_cells Y1.out.rs
  obtain ⟨t10, t11⟩ := pr_cells Y1.out.rr
  have r10 := Y1.out.rr.frozen 0
  have r11 := Y1.out.rr.frozen 1
  obtain ⟨v20, v21, v22, v23⟩ := vr4_cells Y2.out.rv
  obtain ⟨s20, s21, s22, s23⟩ := vr4_cells Y2.out.rs
  obtain ⟨t20, t21⟩ := pr_cells Y2.out.rr
  have r20 := Y2.out.rr.frozen 0
  have r21 := Y2.out.rr.frozen 1
  obtain ⟨v30, v31, v32, v33⟩ := vr4_cells Y3.out.rv
  obtain ⟨s30, s31, s32, s33⟩ := vr4_cells Y3.out.rs
  obtain ⟨t30, t31⟩ := pr_cells Y3.out.rr
  have r30 := Y3.out.rr.frozen 0
  have r31 := Y3.out.rr.frozen 1
  obtain ⟨v40, v41, v42, v43⟩ := vr4_cells Y4.out.rv
  obtain ⟨s40, s41, s42, s43⟩ := vr4_cells Y4.out.rs
  obtain ⟨t40, t41⟩ := pr_cells Y4.out.rr
  have r40 := Y4.out.rr.frozen 0
  have r41 := Y4.out.rr.frozen 1
  go_wp2_with fail
  go_region
  go_wp2_with fail
  go_region
  go_wp2_with fail
  go_region
  have HB5 := Lib.hid ((((((HB.out.setCell (p := ⟨gA, F, none⟩) (by show w.heap.size ≤ gA; omega) (.int .i64 (x - 1))).setCell (p := ⟨gA, T, none⟩) (by show w.heap.size ≤ gA; omega) (.int .i64 (y + 1))).setCell (p := ⟨gB, k, none⟩) (by show w.heap.size ≤ gB; omega) (.int .i64 (z - 1))).setCell (p := ⟨gB, P, none⟩) (by show w.heap.size ≤ gB; omega) (.int .i64 (u + 1))).setCell (p := ⟨w.heap.size + 1 + 1 + 1, 0, none⟩) (by show w.heap.size ≤ w.heap.size + 1 + 1 + 1; omega) (.slice (some ⟨gA, 0, none⟩) n c3)).setCell (p := ⟨w.heap.size + 1 + 1 + 1, 1, none⟩) (by show w.heap.size ≤ w.heap.size + 1 + 1 + 1; omega) (.slice (some ⟨gB, 0, none⟩) m c4))
  go_wp2_with fail
  obtain ⟨p0, p1⟩ := pr_cells (pr_set Y4.out.rr (.slice (some ⟨gA, 0, none⟩) n c3) (.slice (some ⟨gB, 0, none⟩) m c4))
  have E2 := ((Y4.out.bd.ne' (g := w.heap.size + 1 + 1 + 1) (by omega) 0 (.slice (some ⟨gA, 0, none⟩) n c3)).ne' (g := w.heap.size + 1 + 1 + 1) (by omega) 1 (.slice (some ⟨gB, 0, none⟩) m c4)).lower (lo' := w.heap.size) (by omega)
  refine bodyPost_ret (v := bdV (some ⟨gA, 0, none⟩) n c3 (some ⟨gB, 0, none⟩) m c4) (by simp [results, Try.results67, go_sem, p0, p1]) rfl ⟨gA, c3, gB, c4, rfl, ?_, ?_⟩
  · rw [EX.out, EXS.out, EY.out]; rw [EZ.out, EYS.out, EU.out]; first | (with_reducible exact E2) | (with_reducible exact E2.drew) | (with_reducible exact E2.drew.drew) | (with_reducible exact E2.drew.drew.drew)
  · first | (with_reducible exact HB5.out) | (with_reducible exact bel_dr HB5.out) | (with_reducible exact bel_dr (bel_dr HB5.out)) | (with_reducible exact bel_dr (bel_dr (bel_dr HB5.out)))

theorem l04Apply_any (P : Nat) (c H s : Int) (a : Option Addr) (n ca : Nat) (xs : List Int) (b : Option Addr) (m cb : Nat) (ys : List Int) (S : St) (w : World) (h1 : Ints w w.heap.size .i64 a n xs) (h2 : Ints w w.heap.size .i64 b m ys) (hP0 : 1 ≤ P) (hP : P ≤ 24) (hn : n = P + 1) (hm : m = P + 1) (hc : c ≤ 15) (hx : SV P c xs) (hy : SV P c ys) (hS : StOk P xs ys S) (hS2 : S.to = -1 → S.hit = false) :
    Calls Try.prog 67 #[vrV P c H s, bdV a n ca b m cb, stV S] w fun e w' => BdPost n (ownA xs S) m (othA P ys S) w e w' := by
  obtain ⟨fr, to, die, hit⟩ := S
  obtain ⟨f0, f1, one, t0, t1, hh⟩ := hS
  simp only at f0 f1 one t0 t1 hh hS2
  have lx := hx.len
  have ly := hy.len
  obtain ⟨F, rfl⟩ := Int.eq_ofNat_of_zero_le f0
  simp only [Int.toNat_natCast] at one lx ly
  have hF : F < n := by omega
  have d1 := hx.dec (i := F) (by omega) one
  have le1 := hx.le (i := F) (by omega)
  unfold ownA othA stV
  simp only [Int.toNat_natCast]
  by_cases ht : 0 ≤ to
  · obtain ⟨T, rfl⟩ := Int.eq_ofNat_of_zero_le ht
    simp only [Int.toNat_natCast, if_pos ht]
    have hT : T < n := by omega
    have p1 := d1.pos T (by rw [List.length_set]; omega)
    have p2 := d1.le (i := T) (by rw [List.length_set]; omega)
    cases hit
    · simp only [Bool.false_eq_true, if_false]
      exact l04Apply_2 P c H s a n ca xs b m cb ys F T die w h1 h2 hP0 hP hn hm hF ⟨one, by omega⟩ hT ⟨p1, by omega⟩
    · obtain ⟨_, e1⟩ := hh rfl
      obtain ⟨k, hk⟩ : ∃ k : Nat, ((P : Int) - 1 - T).toNat = k := ⟨_, rfl⟩
      rw [hk] at e1
      simp only [if_true, hk]
      have d2 := hy.dec (i := k) (by omega) (by omega)
      have p3 := d2.pos P (by rw [List.length_set]; omega)
      have p4 := d2.le (i := P) (by rw [List.length_set]; omega)
      exact l04Apply_3 P c H s a n ca xs b m cb ys F T die w h1 h2 hP0 hP hn hm hF ⟨one, by omega⟩ hT ⟨p1, by omega⟩ k (by omega) (by omega) ⟨by omega, by omega⟩ ⟨p3, by omega⟩
  · obtain rfl : to = -1 := by omega
    obtain rfl := hS2 rfl
    simp only [Bool.false_eq_true, if_false, if_neg ht]
    exact l04Apply_1 P c H s a n ca xs b m cb ys F die w h1 h2 hP0 hP hn hm hF ⟨one, by omega⟩
end Go.Proofs.Ytjfmpnkbocilpaa
