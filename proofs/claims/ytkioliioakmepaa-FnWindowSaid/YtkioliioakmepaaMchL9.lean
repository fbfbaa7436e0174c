/-
  Drawing situations of matches with a cube (printed by gen_l9.py).
-/
import Derived.Test.YtkioliioakmepaaMchH
namespace Go.Proofs.Ytkioliioakmepaa
open Go.ChangeShapes Go.WideShapes Go.ChangeAt Go.RowKit
set_option linter.unusedVariables false

/-- a drawn model with a state and a cube -/
def L9Post (w0 : World) (g : Nat) (a : Option Addr) (n c : Nat) (xs : List Int) (w : World) (e : Ending) (w' : World) : Prop :=
  ∃ (M : Mm) (x y p q : Int), e = .returned (.tuple #[.agg #[.slice M.a M.n M.c, .slice M.b M.m M.d, .slice M.e M.p M.f], .int .i64 x, .int .i64 y, .int .i64 p, .int .i64 q]) ∧ M.sz ∧ Ig w' w.heap.size M.a M.n M.xs ∧ Ig w' w.heap.size M.b M.m M.ys ∧ Ig w' w.heap.size M.e M.p M.zs ∧ Drawing w0 g a n c xs w' ∧ w.grownBy w' (some g)
set_option maxHeartbeats 3200000 in
theorem l19Draw_dr (w0 : World) (g : Nat) (a : Option Addr) (n c : Nat) (xs : List Int) (w : World) (hd : Drawing w0 g a n c xs w) :
    Calls Try.prog 45 #[.pointer (some ⟨g, 0, none⟩)] w fun e w' => L9Post w0 g a n c xs w e w' := by
  have hlt := hd.lt
  have NX := Lib.hid (fun m W hm hD => next_dr m w0 g a n c xs W hD hm)
  have D0 := Lib.hid (hd.alloc (.cells #[.slice none 0 0, .slice none 0 0, .slice none 0 0] 26))
  have H0 := Lib.hid (grown_alloc (by_refl w (some g)) (.cells #[.slice none 0 0, .slice none 0 0, .slice none 0 0] 26))
  have R0 := Lib.hid (three_new w (.slice none 0 0) (.slice none 0 0) (.slice none 0 0) 26)
  clear hd
  go_enter Try.func45, Try.ntmps45
  go_wp2_with fail
  refine (l18Draw_dr w0 g a n c xs _ D0.out).mono ?_
  rintro e w1 ⟨M, rfl, hs, i1, i2, i3, hd1, hg1⟩
  have s1 := hg1.size
  simp only [World.size_alloc] at s1 i1 i2 i3
  have HSZ := Lib.hid hs
  have R1 := Lib.hid ((R0.out.of_block (hg1.block _ R0.out.lt (by simp; omega))).alloc (.cells #[.slice M.a M.n M.c, .slice M.b M.m M.d, .slice M.e M.p M.f] 26))
  have J1x1 := Lib.hid (i1.alloc (.cells #[.slice M.a M.n M.c, .slice M.b M.m M.d, .slice M.e M.p M.f] 26))
  have J2x1 := Lib.hid (i2.alloc (.cells #[.slice M.a M.n M.c, .slice M.b M.m M.d, .slice M.e M.p M.f] 26))
  have J3x1 := Lib.hid (i3.alloc (.cells #[.slice M.a M.n M.c, .slice M.b M.m M.d, .slice M.e M.p M.f] 26))
  have D1 := Lib.hid (hd1.alloc (.cells #[.slice M.a M.n M.c, .slice M.b M.m M.d, .slice M.e M.p M.f] 26))
  have H1 := Lib.hid (grown_alloc (by_trans H0.out hg1) (.cells #[.slice M.a M.n M.c, .slice M.b M.m M.d, .slice M.e M.p M.f] 26))
  have Q1 := Lib.hid (three_new w1 (.slice M.a M.n M.c) (.slice M.b M.m M.d) (.slice M.e M.p M.f) 26)
  clear hs i1 i2 i3 hd1 hg1
  go_wp2_with fail
  refine (l18DrawState_dr w0 g a n c xs _ D1.out).mono ?_
  rintro e w2 ⟨x, y, p, rfl, _, _, _, _, _, _, hd2, hg2⟩
  have l2 := hd2.lt
  have s2 := hg2.size
  simp only [World.size_alloc] at s2
  have R2 := Lib.hid ((R1.out.of_block (hg2.block _ R1.out.lt (by simp; omega))).alloc (.cells #[.int .i64 1, .int .i64 1, .int .i64 2, .int .i64 4, .int .i64 64] 2))
  have Q2 := Lib.hid ((Q1.out.of_block (hg2.block _ Q1.out.lt (by simp; omega))).alloc (.cells #[.int .i64 1, .int .i64 1, .int .i64 2, .int .i64 4, .int .i64 64] 2))
  have J1x2 := Lib.hid ((J1x1.out.grown hg2 (by omega)).alloc (.cells #[.int .i64 1, .int .i64 1, .int .i64 2, .int .i64 4, .int .i64 64] 2))
  have J2x2 := Lib.hid ((J2x1.out.grown hg2 (by omega)).alloc (.cells #[.int .i64 1, .int .i64 1, .int .i64 2, .int .i64 4, .int .i64 64] 2))
  have J3x2 := Lib.hid ((J3x1.out.grown hg2 (by omega)).alloc (.cells #[.int .i64 1, .int .i64 1, .int .i64 2, .int .i64 4, .int .i64 64] 2))
  have D2 := Lib.hid (hd2.alloc (.cells #[.int .i64 1, .int .i64 1, .int .i64 2, .int .i64 4, .int .i64 64] 2))
  have H2 := Lib.hid (grown_alloc (by_trans H1.out hg2) (.cells #[.int .i64 1, .int .i64 1, .int .i64 2, .int .i64 4, .int .i64 64] 2))
  clear hd2 hg2
  go_wp2_with fail
  refine (NX.out 5 _ (by omega) D2.out).mono ?_
  rintro e w3 ⟨s, rfl, k0, k1, hd3, hg3⟩
  have s3 := hg3.size
  simp only [World.size_alloc] at s3
  have R3 := Lib.hid (R2.out.of_block (hg3.block _ R2.out.lt (by simp; omega)))
  have Q3 := Lib.hid (Q2.out.of_block (hg3.block _ Q2.out.lt (by simp; omega)))
  have J1x3 := Lib.hid (J1x2.out.grown hg3 (by omega))
  have J2x3 := Lib.hid (J2x2.out.grown hg3 (by omega))
  have J3x3 := Lib.hid (J3x2.out.grown hg3 (by omega))
  have D3 := Lib.hid hd3
  have H3 := Lib.hid (by_trans H2.out hg3)
  obtain ⟨k, rfl⟩ := Int.eq_ofNat_of_zero_le k0
  have hk : k < 5 := by omega
  obtain ⟨v, hv⟩ : ∃ v : Int, w3.cell? ⟨w2.heap.size, k, none⟩ = some (.int .i64 v) := by
    have hc := new_kept hg3 l2 k
    match k, hk with
    | 0, _ => exact ⟨1, hc⟩
    | 1, _ => exact ⟨1, hc⟩
    | 2, _ => exact ⟨2, hc⟩
    | 3, _ => exact ⟨4, hc⟩
    | 4, _ => exact ⟨64, hc⟩
  have l3 := hd3.lt
  clear hd3 hg3 k1
  go_wp2_with fail
  refine (NX.out 24 _ (by omega) D3.out).mono ?_
  rintro e w4 ⟨t, rfl, t0, t1, hd4, hg4⟩
  have s4 := hg4.size
  have R4 := Lib.hid (R3.out.of_block (hg4.block _ R3.out.lt (by simp; omega)))
  have Q4 := Lib.hid (Q3.out.of_block (hg4.block _ Q3.out.lt (by simp; omega)))
  have J1x4 := Lib.hid (J1x3.out.grown hg4 (by omega))
  have J2x4 := Lib.hid (J2x3.out.grown hg4 (by omega))
  have J3x4 := Lib.hid (J3x3.out.grown hg4 (by omega))
  have D4 := Lib.hid hd4
  have H4 := Lib.hid (by_trans H3.out hg4)
  have l4 := hd4.lt
  clear hd4 hg4 hv
  by_cases ht : t = 0
  · subst ht
    have D5 := Lib.hid (D4.out.alloc (.cells #[.int .i64 0, .int .i64 3, .int .i64 128] 2))
    have H5 := Lib.hid (grown_alloc H4.out (.cells #[.int .i64 0, .int .i64 3, .int .i64 128] 2))
    have R5 := Lib.hid (R4.out.alloc (.cells #[.int .i64 0, .int .i64 3, .int .i64 128] 2))
    have Q5 := Lib.hid (Q4.out.alloc (.cells #[.int .i64 0, .int .i64 3, .int .i64 128] 2))
    have J1x5 := Lib.hid (J1x4.out.alloc (.cells #[.int .i64 0, .int .i64 3, .int .i64 128] 2))
    have J2x5 := Lib.hid (J2x4.out.alloc (.cells #[.int .i64 0, .int .i64 3, .int .i64 128] 2))
    have J3x5 := Lib.hid (J3x4.out.alloc (.cells #[.int .i64 0, .int .i64 3, .int .i64 128] 2))
    clear t1
    go_wp2_with fail
    refine (NX.out 3 _ (by omega) D5.out).mono ?_
    rintro e w6 ⟨u, rfl, u0, u1, hd6, hg6⟩
    have s6 := hg6.size
    simp only [World.size_alloc] at s6
    have R6 := Lib.hid (R5.out.of_block (hg6.block _ R5.out.lt (by simp; omega)))
    have Q6 := Lib.hid (Q5.out.of_block (hg6.block _ Q5.out.lt (by simp; omega)))
    have J1x6 := Lib.hid (J1x5.out.grown hg6 (by omega))
    have J2x6 := Lib.hid (J2x5.out.grown hg6 (by omega))
    have J3x6 := Lib.hid (J3x5.out.grown hg6 (by omega))
    have D6 := Lib.hid hd6
    have H6 := Lib.hid (by_trans H5.out hg6)
    obtain ⟨j, rfl⟩ := Int.eq_ofNat_of_zero_le u0
    have hj : j < 3 := by omega
    obtain ⟨z, hz⟩ : ∃ v : Int, w6.cell? ⟨w4.heap.size, j, none⟩ = some (.int .i64 v) := by
      have hc := new_kept hg6 l4 j
      match j, hj with
      | 0, _ => exact ⟨0, hc⟩
      | 1, _ => exact ⟨3, hc⟩
      | 2, _ => exact ⟨128, hc⟩
    clear hd6 hg6 u1
    obtain ⟨q0, q1, q2⟩ := three_cells Q6.out
    obtain ⟨b0, b1, b2⟩ := three_cells R6.out
    obtain ⟨f0, f1, f2⟩ := three_frozen R6.out
    obtain ⟨r0, r1, r2⟩ := three_cells (three_set2 (three_set1 (three_set0 R6.out (.slice M.a M.n M.c)) (.slice M.b M.m M.d)) (.slice M.e M.p M.f))
    go_wp2_with fail
    refine bodyPost_ret (v := .tuple #[.agg #[.slice M.a M.n M.c, .slice M.b M.m M.d, .slice M.e M.p M.f], .int .i64 x, .int .i64 y, .int .i64 p, .int .i64 z]) (by simp [results, Try.results45, go_sem, r0, r1, r2]) rfl ⟨M, x, y, p, z, rfl, HSZ.out, ?_, ?_, ?_, ?_, ?_⟩
    · exact ((((J1x6.out).set (by omega) _).set (by omega) _).set (by omega) _).lower (by omega)
    · exact ((((J2x6.out).set (by omega) _).set (by omega) _).set (by omega) _).lower (by omega)
    · exact ((((J3x6.out).set (by omega) _).set (by omega) _).set (by omega) _).lower (by omega)
    · exact ((D6.out.set (p := ⟨w.heap.size, 0, none⟩) hlt _).set (p := ⟨w.heap.size, 1, none⟩) hlt _).set (p := ⟨w.heap.size, 2, none⟩) hlt _
    · exact grown_set (grown_set (grown_set H6.out (p := ⟨w.heap.size, 0, none⟩) (Nat.le_refl _) _) (p := ⟨w.heap.size, 1, none⟩) (Nat.le_refl _) _) (p := ⟨w.heap.size, 2, none⟩) (Nat.le_refl _) _
  · have et : (t == 0) = false := by simpa using ht
    obtain ⟨q0, q1, q2⟩ := three_cells Q4.out
    obtain ⟨b0, b1, b2⟩ := three_cells R4.out
    obtain ⟨f0, f1, f2⟩ := three_frozen R4.out
    obtain ⟨r0, r1, r2⟩ := three_cells (three_set2 (three_set1 (three_set0 R4.out (.slice M.a M.n M.c)) (.slice M.b M.m M.d)) (.slice M.e M.p M.f))
    go_wp2_with fail
    refine bodyPost_ret (v := .tuple #[.agg #[.slice M.a M.n M.c, .slice M.b M.m M.d, .slice M.e M.p M.f], .int .i64 x, .int .i64 y, .int .i64 p, .int .i64 v]) (by simp [results, Try.results45, go_sem, r0, r1, r2]) rfl ⟨M, x, y, p, v, rfl, HSZ.out, ?_, ?_, ?_, ?_, ?_⟩
    · exact ((((J1x4.out).set (by omega) _).set (by omega) _).set (by omega) _).lower (by omega)
    · exact ((((J2x4.out).set (by omega) _).set (by omega) _).set (by omega) _).lower (by omega)
    · exact ((((J3x4.out).set (by omega) _).set (by omega) _).set (by omega) _).lower (by omega)
    · exact ((D4.out.set (p := ⟨w.heap.size, 0, none⟩) hlt _).set (p := ⟨w.heap.size, 1, none⟩) hlt _).set (p := ⟨w.heap.size, 2, none⟩) hlt _
    · exact grown_set (grown_set (grown_set H4.out (p := ⟨w.heap.size, 0, none⟩) (Nat.le_refl _) _) (p := ⟨w.heap.size, 1, none⟩) (Nat.le_refl _) _) (p := ⟨w.heap.size, 2, none⟩) (Nat.le_refl _) _
/-- a drawn situation -/
def DqPost (w : World) (e : Ending) (w' : World) : Prop :=
  ∃ (M : Mm) (x y p q : Int), e = .returned (.tuple #[.agg #[.slice M.a M.n M.c, .slice M.b M.m M.d, .slice M.e M.p M.f], .int .i64 x, .int .i64 y, .int .i64 p, .int .i64 q]) ∧ M.sz ∧ M.at w' w'.heap.size ∧ Below w.heap.size w w'
set_option maxHeartbeats 800000 in
theorem DrawMatchDoublePoint_any (a : Option Addr) (n c : Nat) (xs : List Int) (w : World) (h : IntsArg w .u8 a n xs) (hn : n ≤ 4096) :
    Calls Try.prog 42 #[.slice a n c] w fun e w' => DqPost w e w' := by
  have h' : IntsArg (w.alloc (.cells #[.slice none 0 0, .slice none 0 0, .slice none 0 0] 26)) .u8 a n xs := ⟨(h.1.al (Nat.le_refl _) _).more (by simp), h.2⟩
  have HB := Lib.hid ((Below.refl w.heap.size w).alloc (Nat.le_refl _) (.cells #[.slice none 0 0, .slice none 0 0, .slice none 0 0] 26))
  have R0 := Lib.hid (three_new w (.slice none 0 0) (.slice none 0 0) (.slice none 0 0) 26)
  have FR := Lib.hid (from_dr a n c xs _ h' hn)
  clear h h'
  go_enter Try.func42, Try.ntmps42
  go_wp2_with fail
  refine FR.out.mono ?_
  rintro e w1 ⟨rfl, hd1⟩
  rw [World.size_alloc] at hd1
  have b1 := hd1.below
  have s1 := b1.size
  simp only [World.size_alloc] at s1
  have R1 := Lib.hid (rowIs_below R0.out b1 (by simp))
  have D1 := Lib.hid hd1
  have l1 := hd1.lt
  clear b1 hd1
  go_wp2_with fail
  refine (l19Draw_dr _ _ a n c xs _ D1.out).mono ?_
  rintro e w2 ⟨M, x, y, p, q, rfl, hs, i1, i2, i3, hd2, hg2⟩
  have s2 := hg2.size
  have R3 := Lib.hid (R1.out.of_block (hg2.block _ R1.out.lt (by simp)))
  have B3 := Lib.hid (HB.out.trans (hd2.below.mono HB.out.size))
  have J1 := Lib.hid i1
  have J2 := Lib.hid i2
  have J3 := Lib.hid i3
  have HSZ := Lib.hid hs
  obtain ⟨b0, b1, b2⟩ := three_cells R3.out
  obtain ⟨f0, f1, f2⟩ := three_frozen R3.out
  obtain ⟨r0, r1, r2⟩ := three_cells (three_set2 (three_set1 (three_set0 R3.out (.slice M.a M.n M.c)) (.slice M.b M.m M.d)) (.slice M.e M.p M.f))
  clear hd2 hg2 i1 i2 i3 hs
  go_wp2_with fail
  refine bodyPost_ret (v := .tuple #[.agg #[.slice M.a M.n M.c, .slice M.b M.m M.d, .slice M.e M.p M.f], .int .i64 x, .int .i64 y, .int .i64 p, .int .i64 q]) (by simp [results, Try.results42, go_sem, r0, r1, r2]) rfl ⟨M, x, y, p, q, rfl, HSZ.out, ⟨?_, ?_, ?_⟩, ?_⟩
  · exact ((((J1.out.lower (lo' := w.heap.size + 1) (by omega)).set (by omega) _).set (by omega) _).set (by omega) _).1
  · exact ((((J2.out.lower (lo' := w.heap.size + 1) (by omega)).set (by omega) _).set (by omega) _).set (by omega) _).1
  · exact ((((J3.out.lower (lo' := w.heap.size + 1) (by omega)).set (by omega) _).set (by omega) _).set (by omega) _).1
  · exact ((B3.out.setCell (Nat.le_refl _) _).setCell (Nat.le_refl _) _).setCell (Nat.le_refl _) _
set_option maxHeartbeats 800000 in
theorem DrawDoublingWindow_any (a : Option Addr) (n c : Nat) (xs : List Int) (w : World) (h : IntsArg w .u8 a n xs) (hn : n ≤ 4096) :
    Calls Try.prog 15 #[.slice a n c] w fun e w' => DqPost w e w' := by
  have h' : IntsArg (w.alloc (.cells #[.slice none 0 0, .slice none 0 0, .slice none 0 0] 26)) .u8 a n xs := ⟨(h.1.al (Nat.le_refl _) _).more (by simp), h.2⟩
  have HB := Lib.hid ((Below.refl w.heap.size w).alloc (Nat.le_refl _) (.cells #[.slice none 0 0, .slice none 0 0, .slice none 0 0] 26))
  have R0 := Lib.hid (three_new w (.slice none 0 0) (.slice none 0 0) (.slice none 0 0) 26)
  have FR := Lib.hid (from_dr a n c xs _ h' hn)
  clear h h'
  go_enter Try.func15, Try.ntmps15
  go_wp2_with fail
  refine FR.out.mono ?_
  rintro e w1 ⟨rfl, hd1⟩
  rw [World.size_alloc] at hd1
  have b1 := hd1.below
  have s1 := b1.size
  simp only [World.size_alloc] at s1
  have R1 := Lib.hid (rowIs_below R0.out b1 (by simp))
  have D1 := Lib.hid hd1
  have l1 := hd1.lt
  clear b1 hd1
  go_wp2_with fail
  refine (l19Draw_dr _ _ a n c xs _ D1.out).mono ?_
  rintro e w2 ⟨M, x, y, p, q, rfl, hs, i1, i2, i3, hd2, hg2⟩
  have s2 := hg2.size
  have R3 := Lib.hid (R1.out.of_block (hg2.block _ R1.out.lt (by simp)))
  have B3 := Lib.hid (HB.out.trans (hd2.below.mono HB.out.size))
  have J1 := Lib.hid i1
  have J2 := Lib.hid i2
  have J3 := Lib.hid i3
  have HSZ := Lib.hid hs
  obtain ⟨b0, b1, b2⟩ := three_cells R3.out
  obtain ⟨f0, f1, f2⟩ := three_frozen R3.out
  obtain ⟨r0, r1, r2⟩ := three_cells (three_set2 (three_set1 (three_set0 R3.out (.slice M.a M.n M.c)) (.slice M.b M.m M.d)) (.slice M.e M.p M.f))
  clear hd2 hg2 i1 i2 i3 hs
  go_wp2_with fail
  refine bodyPost_ret (v := .tuple #[.agg #[.slice M.a M.n M.c, .slice M.b M.m M.d, .slice M.e M.p M.f], .int .i64 x, .int .i64 y, .int .i64 p, .int .i64 q]) (by simp [results, Try.results15, go_sem, r0, r1, r2]) rfl ⟨M, x, y, p, q, rfl, HSZ.out, ⟨?_, ?_, ?_⟩, ?_⟩
  · exact ((((J1.out.lower (lo' := w.heap.size + 1) (by omega)).set (by omega) _).set (by omega) _).set (by omega) _).1
  · exact ((((J2.out.lower (lo' := w.heap.size + 1) (by omega)).set (by omega) _).set (by omega) _).set (by omega) _).1
  · exact ((((J3.out.lower (lo' := w.heap.size + 1) (by omega)).set (by omega) _).set (by omega) _).set (by omega) _).1
  · exact ((B3.out.setCell (Nat.le_refl _) _).setCell (Nat.le_refl _) _).setCell (Nat.le_refl _) _
end Go.Proofs.Ytkioliioakmepaa
