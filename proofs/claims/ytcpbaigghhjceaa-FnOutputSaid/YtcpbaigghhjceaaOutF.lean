/-
  DrawHiddenOf, DrawOutputOf; likeInts at equal lists.
-/
import Derived.Test.YtcpbaigghhjceaaOutE
namespace Go.Proofs.Ytcpbaigghhjceaa
open Go.ChangeShapes Go.WideShapes Go.ChangeAt Go.RowKit
set_option linter.unusedVariables false

def DoPost (w : World) (e : Ending) (w' : World) : Prop :=
  ∃ (i h : Int) (A : Option Addr) (m c : Nat) (ys : List Int) (B : Option Addr) (q d : Nat) (zs : List Int) (C : Option Addr) (l r : Nat) (vs : List Int), e = .returned (.tuple #[netV i h A m c B q d, .slice C l r]) ∧ m ≤ c ∧ c ≤ 9223372036854775807 ∧ m ≤ 1000 ∧ q ≤ 1000 ∧ l ≤ 41 ∧
    Iv w' w.heap.size A m ys ∧ Iv w' w.heap.size B q zs ∧ Iv w' w.heap.size C l vs ∧ Below w.heap.size w w'
theorem Iv.far {w w' : World} {b1 lo m : Nat} {A : Option Addr} {ys : List Int} (h : Iv w lo A m ys) (tw : Tw b1 b1 w w') (hb : b1 < lo) : Iv w' lo A m ys := by
  obtain ⟨⟨h1, h2⟩, h3⟩ := h
  refine ⟨⟨h1, fun hm => ?_⟩, h3⟩
  obtain ⟨b', off, hA, hb', hc⟩ := h2 hm
  have hlo := h3 b' off none hA
  exact ⟨b', off, hA, by rw [tw.size]; exact hb', fun j hj => (World.cell?_of_block (w := w) (a := ⟨b', off + j, none⟩) (tw.block b' (by omega) (by omega))).trans (hc j hj)⟩
set_option maxRecDepth 16000 in
set_option maxHeartbeats 1600000 in
theorem DrawHiddenOf_any (a : Option Addr) (n c : Nat) (xs : List Int) (w : World) (h : IntsArg w .u8 a n xs) (hn : n ≤ 4096) :
    Calls Try.prog 50 #[.slice a n c] w fun e w' => DoPost w e w' := by
  have hb0 := (Below.refl w.heap.size w).alloc (Nat.le_refl _) (.cells #[.int .i64 0, .int .i64 0, .slice none 0 0, .slice none 0 0] 27)
  have h2 : IntsArg (w.alloc (.cells #[.int .i64 0, .int .i64 0, .slice none 0 0, .slice none 0 0] 27)) .u8 a n xs := ⟨(h.1.below hb0).more hb0.size, h.2.1, h.2.2⟩
  have FR := Lib.hid (from_dr a n c xs _ h2 hn)
  have R0 := Lib.hid (four_new w (.int .i64 0) (.int .i64 0) (.slice none 0 0) (.slice none 0 0) 27)
  have HB0 := Lib.hid hb0
  obtain ⟨W0, hW0⟩ : ∃ W, w.alloc (.cells #[.int .i64 0, .int .i64 0, .slice none 0 0, .slice none 0 0] 27) = W := ⟨_, rfl⟩
  have zW : W0.heap.size = w.heap.size + 1 := by rw [← hW0]; simp
  rw [hW0] at FR R0 HB0
  have HW0 := Lib.hid hW0
  have ZW := Lib.hid zW
  have zw1 : w.heap.size < W0.heap.size := by omega
  clear h h2 hb0 hW0 zW
  go_enter Try.func50, Try.ntmps50
  go_wp2_with fail
  rw [HW0.out]
  refine FR.out.mono ?_
  rintro e w1 ⟨rfl, hd1⟩
  have NX := Lib.hid (fun m W hm hD => next_dr m W0 W0.heap.size a n c xs W hD hm)
  have R1 := Lib.hid (rowIs_below R0.out hd1.below R0.out.lt)
  have D1 := Lib.hid hd1
  have z1 := hd1.below.size
  clear hd1
  go_wp2_with fail
  refine (NX.out 5 _ (by omega) D1.out).mono ?_
  rintro e w2 ⟨x, rfl, x1, x2, hd2, hg2⟩
  have x3 : x < 5 := by omega
  have R2 := Lib.hid (R1.out.of_block (hg2.block _ R1.out.lt (fun e => by injection e with e; omega)))
  have D2 := Lib.hid hd2
  have z2 := hg2.size
  have l2 := hd2.lt
  clear x2 hd2 hg2
  go_wp2_with fail
  refine (l23Draw_dr W0 W0.heap.size a n c xs w2 (1 + x) (by omega) (by omega) D2.out).mono ?_
  rintro e w3 ⟨i, hh, A, m, c', ys, B, q, d, zs, rfl, k1, k2, k3, k4, hA, hB, hd3, hg3⟩
  have R3 := Lib.hid ((R2.out.of_block (hg3.block _ R2.out.lt (fun e => by injection e with e; omega))).alloc (.cells #[.int .i64 i, .int .i64 hh, .slice A m c', .slice B q d] 27))
  have B3 := Lib.hid (four_new w3 (.int .i64 i) (.int .i64 hh) (.slice A m c') (.slice B q d) 27)
  have D3 := Lib.hid ((hd3.alloc (.cells #[.int .i64 i, .int .i64 hh, .slice A m c', .slice B q d] 27)).drw 1)
  have A3 := Lib.hid (hA.below ((Below.refl _ _).alloc (Nat.le_refl _) (.cells #[.int .i64 i, .int .i64 hh, .slice A m c', .slice B q d] 27)))
  have C3 := Lib.hid (hB.below ((Below.refl _ _).alloc (Nat.le_refl _) (.cells #[.int .i64 i, .int .i64 hh, .slice A m c', .slice B q d] 27)))
  have z3 := hg3.size
  have hne : W0.heap.size ≠ w3.heap.size := by omega
  have nwx : w3.heap.size ≠ w.heap.size := by omega
  clear hA hB hd3 hg3 R1 R2 D1 D2
  obtain ⟨v0, v1, v2, v3⟩ := four_cells B3.out
  obtain ⟨r0, r1, r2, r3⟩ := four_cells R3.out
  go_wp2_with fail
  go_region_held3 (fun w' => w'.cell? ⟨w3.heap.size, 0, none⟩ = some (.int .i64 i) ∧ w'.cell? ⟨w3.heap.size, 1, none⟩ = some (.int .i64 hh) ∧ w'.cell? ⟨w3.heap.size, 2, none⟩ = some (.slice A m c') ∧ w'.cell? ⟨w3.heap.size, 3, none⟩ = some (.slice B q d))
    (first | (with_reducible exact KS.out _ _ _ _) | go_keep)
    (first
      | (go_at_call 61; refine (l23DrawInputs_dr W0 W0.heap.size a n c xs _ i (by exact D3.out)).mono ?_; rintro e w4 ⟨C, l, r, vs, rfl, hl, hC, hd4, hg4⟩; have z4 := hg4.size; have R4 := Lib.hid (R3.out.of_block (hg4.block _ R3.out.lt (fun e => by injection e with e; omega))); have B4 := Lib.hid (B3.out.of_block (hg4.block _ B3.out.lt (fun e => by injection e with e; omega))); have A4 := Lib.hid (Iv.grown (w := _) (by exact A3.out) hg4 (by omega)); have C4 := Lib.hid (Iv.grown (w := _) (by exact C3.out) hg4 (by omega)); have V4 := Lib.hid hC; have D4 := Lib.hid hd4; obtain ⟨y0, y1, y2, y3⟩ := four_cells B4.out; obtain ⟨s0, s1, s2, s3⟩ := four_cells R4.out; obtain ⟨f0, f1, f2, f3⟩ : w4.frozen? ⟨w.heap.size, 0, none⟩ = false ∧ w4.frozen? ⟨w.heap.size, 1, none⟩ = false ∧ w4.frozen? ⟨w.heap.size, 2, none⟩ = false ∧ w4.frozen? ⟨w.heap.size, 3, none⟩ = false := ⟨R4.out.frozen 0, R4.out.frozen 1, R4.out.frozen 2, R4.out.frozen 3⟩; have l4 := R4.out.lt; have KS := Lib.hid (fun u0 u1 u2 u3 => four_cells ((((B4.out.setOther (a := ⟨w.heap.size, 0, none⟩) nwx u0).setOther (a := ⟨w.heap.size, 1, none⟩) nwx u1).setOther (a := ⟨w.heap.size, 2, none⟩) nwx u2).setOther (a := ⟨w.heap.size, 3, none⟩) nwx u3)); clear hC hd4 hg4))
  all_goals
    go_wp2
    obtain ⟨p0, p1, p2, p3⟩ := four_cells (four_set R4.out (.int .i64 i) (.int .i64 hh) (.slice A m c') (.slice B q d))
    have tw := (((((Tw.refl w.heap.size w.heap.size w4).set (p := ⟨w.heap.size, 0, none⟩) (.inl rfl) (.int .i64 i)).set (p := ⟨w.heap.size, 1, none⟩) (.inl rfl) (.int .i64 hh)).set (p := ⟨w.heap.size, 2, none⟩) (.inl rfl) (.slice A m c')).set (p := ⟨w.heap.size, 3, none⟩) (.inl rfl) (.slice B q d))
    refine bodyPost_ret (v := .tuple #[netV i hh A m c' B q d, .slice C l r]) (by simp [results, Try.results50, go_sem, p0, p1, p2, p3]) rfl ⟨i, hh, A, m, c', ys, B, q, d, zs, C, l, r, vs, rfl, k1, k2, k3, k4, hl, (A4.out.far tw (by omega)).lower (by omega), (C4.out.far tw (by omega)).lower (by omega), ((V4.out.lower (lo' := w3.heap.size) (by simp)).far tw (by omega)).lower (by omega), (HB0.out.trans (D4.out.below.mono (by omega))).trans (tw.below (Nat.le_refl _) (Nat.le_refl _))⟩

set_option maxHeartbeats 800000 in
theorem DrawOutputOf_any (a : Option Addr) (n c : Nat) (xs : List Int) (w : World) (h : IntsArg w .u8 a n xs) (hn : n ≤ 4096) :
    Calls Try.prog 31 #[.slice a n c] w fun e w' => DoPost w e w' := by
  have hb0 := (Below.refl w.heap.size w).alloc (Nat.le_refl _) (.cells #[.int .i64 0, .int .i64 0, .slice none 0 0, .slice none 0 0] 27)
  have h2 : IntsArg (w.alloc (.cells #[.int .i64 0, .int .i64 0, .slice none 0 0, .slice none 0 0] 27)) .u8 a n xs := ⟨(h.1.below hb0).more hb0.size, h.2.1, h.2.2⟩
  have FR := Lib.hid (DrawHiddenOf_any a n c xs _ h2 hn)
  have R0 := Lib.hid (four_new w (.int .i64 0) (.int .i64 0) (.slice none 0 0) (.slice none 0 0) 27)
  have HB0 := Lib.hid hb0
  clear h h2 hb0
  go_enter Try.func31, Try.ntmps31
  go_wp2_with fail
  refine FR.out.mono ?_
  rintro e w1 ⟨i, hh, A, m, c', ys, B, q, d, zs, C, l, r, vs, rfl, k1, k2, k3, k4, hl, hA, hB, hC, hb⟩
  have R1 := Lib.hid (rowIs_below R0.out hb R0.out.lt)
  have z1 := hb.size
  simp only [World.size_alloc] at z1
  have B1 := Lib.hid (HB0.out.trans (hb.mono HB0.out.size))
  obtain ⟨r0, r1, r2, r3⟩ := four_cells R1.out
  obtain ⟨f0, f1, f2, f3⟩ : w1.frozen? ⟨w.heap.size, 0, none⟩ = false ∧ w1.frozen? ⟨w.heap.size, 1, none⟩ = false ∧ w1.frozen? ⟨w.heap.size, 2, none⟩ = false ∧ w1.frozen? ⟨w.heap.size, 3, none⟩ = false := ⟨R1.out.frozen 0, R1.out.frozen 1, R1.out.frozen 2, R1.out.frozen 3⟩
  have HA := Lib.hid hA
  have HBB := Lib.hid hB
  have HCC := Lib.hid hC
  clear hA hB hC hb
  go_wp2
  obtain ⟨p0, p1, p2, p3⟩ := four_cells (four_set R1.out (.int .i64 i) (.int .i64 hh) (.slice A m c') (.slice B q d))
  have tw := (((((Tw.refl w.heap.size w.heap.size w1).set (p := ⟨w.heap.size, 0, none⟩) (.inl rfl) (.int .i64 i)).set (p := ⟨w.heap.size, 1, none⟩) (.inl rfl) (.int .i64 hh)).set (p := ⟨w.heap.size, 2, none⟩) (.inl rfl) (.slice A m c')).set (p := ⟨w.heap.size, 3, none⟩) (.inl rfl) (.slice B q d))
  refine bodyPost_ret (v := .tuple #[netV i hh A m c' B q d, .slice C l r]) (by simp [results, Try.results31, go_sem, p0, p1, p2, p3]) rfl ⟨i, hh, A, m, c', ys, B, q, d, zs, C, l, r, vs, rfl, k1, k2, k3, k4, hl, ((HA.out.lower (lo' := w.heap.size + 1) (by simp)).far tw (by omega)).lower (by omega), ((HBB.out.lower (lo' := w.heap.size + 1) (by simp)).far tw (by omega)).lower (by omega), ((HCC.out.lower (lo' := w.heap.size + 1) (by simp)).far tw (by omega)).lower (by omega), B1.out.trans (tw.below (Nat.le_refl _) (Nat.le_refl _))⟩
end Go.Proofs.Ytcpbaigghhjceaa
