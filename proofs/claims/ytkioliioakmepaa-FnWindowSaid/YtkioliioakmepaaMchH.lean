/-
  Drawing states of matches, and whole situations.
-/
import Derived.Test.YtkioliioakmepaaMchG
namespace Go.Proofs.Ytkioliioakmepaa
open Go.ChangeShapes Go.WideShapes Go.ChangeAt Go.RowKit
set_option linter.unusedVariables false

/-- what a draw of a state leaves -/
def StPost (w0 : World) (g : Nat) (a : Option Addr) (n c : Nat) (xs : List Int) (w : World) (e : Ending) (w' : World) : Prop :=
  ∃ x y p : Int, e = .returned (.tuple #[.int .i64 x, .int .i64 y, .int .i64 p]) ∧ -1 ≤ x ∧ x ≤ 10 ∧ 0 ≤ y ∧ y ≤ 10 ∧ 0 ≤ p ∧ p ≤ 3 ∧ Drawing w0 g a n c xs w' ∧ w.grownBy w' (some g)
set_option maxHeartbeats 3200000 in
theorem l18DrawState_dr (w0 : World) (g : Nat) (a : Option Addr) (n c : Nat) (xs : List Int) (w : World) (hd : Drawing w0 g a n c xs w) :
    Calls Try.prog 74 #[.pointer (some ⟨g, 0, none⟩)] w fun e w' => StPost w0 g a n c xs w e w' := by
  have NX := Lib.hid (fun m W hm hD => next_dr m w0 g a n c xs W hD hm)
  have HD := Lib.hid hd
  clear hd
  go_enter Try.func74, Try.ntmps74
  go_wp2_with fail
  refine (NX.out 7 _ (by omega) HD.out).mono ?_
  rintro e w1 ⟨x, rfl, x0, x1, hd1, hg1⟩
  have x2 : x < 7 := by omega
  have D1 := Lib.hid hd1
  have G1 := Lib.hid hg1
  clear x1 hd1 hg1
  go_wp2_with fail
  refine (NX.out 7 _ (by omega) D1.out).mono ?_
  rintro e w2 ⟨y, rfl, y0, y1, hd2, hg2⟩
  have y2 : y < 7 := by omega
  have D2 := Lib.hid hd2
  have G2 := Lib.hid (by_trans G1.out hg2)
  clear y1 hd2 hg2
  go_wp2_with fail
  refine (NX.out 16 _ (by omega) D2.out).mono ?_
  rintro e w3 ⟨t, rfl, t0, t1, hd3, hg3⟩
  have t2 : t < 16 := by omega
  have D3 := Lib.hid hd3
  have G3 := Lib.hid (by_trans G2.out hg3)
  have l3 := hd3.lt
  clear t1 hd3 hg3
  by_cases ht0 : t = 0
  · subst ht0
    have D4 := Lib.hid (D3.out.alloc (.cells #[.int .i64 0, .int .i64 (-1), .int .i64 9, .int .i64 10] 2))
    have G4 := Lib.hid (grown_alloc G3.out (.cells #[.int .i64 0, .int .i64 (-1), .int .i64 9, .int .i64 10] 2))
    go_wp2_with fail
    refine (NX.out 4 _ (by omega) D4.out).mono ?_
    rintro e w5 ⟨s, rfl, s0, s1, hd5, hg5⟩
    have D5 := Lib.hid hd5
    have G5 := Lib.hid (by_trans G4.out hg5)
    obtain ⟨k, rfl⟩ := Int.eq_ofNat_of_zero_le s0
    have hk : k < 4 := by omega
    obtain ⟨v, hv, v0, v1⟩ : ∃ v : Int, w5.cell? ⟨w3.heap.size, k, none⟩ = some (.int .i64 v) ∧ -1 ≤ v ∧ v ≤ 10 := by
      have hc := new_kept hg5 l3 k
      match k, hk with
      | 0, _ => exact ⟨0, hc, by omega, by omega⟩
      | 1, _ => exact ⟨-1, hc, by omega, by omega⟩
      | 2, _ => exact ⟨9, hc, by omega, by omega⟩
      | 3, _ => exact ⟨10, hc, by omega, by omega⟩
    clear hd5 hg5 s1
    go_wp2_with fail
    refine (NX.out 3 _ (by omega) D5.out).mono ?_
    rintro e w6 ⟨p, rfl, p0, p1, hd6, hg6⟩
    have p2 : p < 3 := by omega
    have D6 := Lib.hid hd6
    have G6 := Lib.hid (by_trans G5.out hg6)
    clear p1 hd6 hg6
    go_wp2_with fail
    refine (NX.out 30 _ (by omega) D6.out).mono ?_
    rintro e w7 ⟨z, rfl, z0, z1, hd7, hg7⟩
    have z2 : z < 30 := by omega
    have D7 := Lib.hid hd7
    have G7 := Lib.hid (by_trans G6.out hg7)
    clear z1 hd7 hg7
    go_wp2_with fail
    refine bodyPost_ret (v := .tuple #[.int .i64 (v), .int .i64 (1 + y), .int .i64 (p + z / 29)]) (by simp [results, Try.results74, go_sem]) rfl ⟨v, 1 + y, p + z / 29, rfl, by omega, by omega, by omega, by omega, by omega, by omega, D7.out, G7.out⟩
  have et0 : (t == 0) = false := by simpa using ht0
  by_cases ht1 : t = 1
  · subst ht1
    have D4 := Lib.hid (D3.out.alloc (.cells #[.int .i64 0, .int .i64 9, .int .i64 10] 2))
    have G4 := Lib.hid (grown_alloc G3.out (.cells #[.int .i64 0, .int .i64 9, .int .i64 10] 2))
    go_wp2_with fail
    refine (NX.out 3 _ (by omega) D4.out).mono ?_
    rintro e w5 ⟨s, rfl, s0, s1, hd5, hg5⟩
    have D5 := Lib.hid hd5
    have G5 := Lib.hid (by_trans G4.out hg5)
    obtain ⟨k, rfl⟩ := Int.eq_ofNat_of_zero_le s0
    have hk : k < 3 := by omega
    obtain ⟨v, hv, v0, v1⟩ : ∃ v : Int, w5.cell? ⟨w3.heap.size, k, none⟩ = some (.int .i64 v) ∧ 0 ≤ v ∧ v ≤ 10 := by
      have hc := new_kept hg5 l3 k
      match k, hk with
      | 0, _ => exact ⟨0, hc, by omega, by omega⟩
      | 1, _ => exact ⟨9, hc, by omega, by omega⟩
      | 2, _ => exact ⟨10, hc, by omega, by omega⟩
    clear hd5 hg5 s1
    go_wp2_with fail
    refine (NX.out 3 _ (by omega) D5.out).mono ?_
    rintro e w6 ⟨p, rfl, p0, p1, hd6, hg6⟩
    have p2 : p < 3 := by omega
    have D6 := Lib.hid hd6
    have G6 := Lib.hid (by_trans G5.out hg6)
    clear p1 hd6 hg6
    go_wp2_with fail
    refine (NX.out 30 _ (by omega) D6.out).mono ?_
    rintro e w7 ⟨z, rfl, z0, z1, hd7, hg7⟩
    have z2 : z < 30 := by omega
    have D7 := Lib.hid hd7
    have G7 := Lib.hid (by_trans G6.out hg7)
    clear z1 hd7 hg7
    go_wp2_with fail
    refine bodyPost_ret (v := .tuple #[.int .i64 (1 + x), .int .i64 (v), .int .i64 (p + z / 29)]) (by simp [results, Try.results74, go_sem]) rfl ⟨1 + x, v, p + z / 29, rfl, by omega, by omega, by omega, by omega, by omega, by omega, D7.out, G7.out⟩
  have et1 : (t == 1) = false := by simpa using ht1
  by_cases ht2 : t = 2
  · subst ht2
    go_wp2_with fail
    refine (NX.out 3 _ (by omega) D3.out).mono ?_
    rintro e w5 ⟨s, rfl, s0, s1, hd5, hg5⟩
    have s2 : s < 3 := by omega
    have D5 := Lib.hid hd5
    have G5 := Lib.hid (by_trans G3.out hg5)
    clear hd5 hg5 s1
    go_wp2_with fail
    refine (NX.out 3 _ (by omega) D5.out).mono ?_
    rintro e w6 ⟨p, rfl, p0, p1, hd6, hg6⟩
    have p2 : p < 3 := by omega
    have D6 := Lib.hid hd6
    have G6 := Lib.hid (by_trans G5.out hg6)
    clear p1 hd6 hg6
    go_wp2_with fail
    refine (NX.out 30 _ (by omega) D6.out).mono ?_
    rintro e w7 ⟨z, rfl, z0, z1, hd7, hg7⟩
    have z2 : z < 30 := by omega
    have D7 := Lib.hid hd7
    have G7 := Lib.hid (by_trans G6.out hg7)
    clear z1 hd7 hg7
    go_wp2_with fail
    refine bodyPost_ret (v := .tuple #[.int .i64 (1), .int .i64 (1 + s), .int .i64 (p + z / 29)]) (by simp [results, Try.results74, go_sem]) rfl ⟨1, 1 + s, p + z / 29, rfl, by omega, by omega, by omega, by omega, by omega, by omega, D7.out, G7.out⟩
  have et2 : (t == 2) = false := by simpa using ht2
  go_wp2_with fail
  refine (NX.out 3 _ (by omega) D3.out).mono ?_
  rintro e w6 ⟨p, rfl, p0, p1, hd6, hg6⟩
  have p2 : p < 3 := by omega
  have D6 := Lib.hid hd6
  have G6 := Lib.hid (by_trans G3.out hg6)
  clear p1 hd6 hg6
  go_wp2_with fail
  refine (NX.out 30 _ (by omega) D6.out).mono ?_
  rintro e w7 ⟨z, rfl, z0, z1, hd7, hg7⟩
  have z2 : z < 30 := by omega
  have D7 := Lib.hid hd7
  have G7 := Lib.hid (by_trans G6.out hg7)
  clear z1 hd7 hg7
  go_wp2_with fail
  refine bodyPost_ret (v := .tuple #[.int .i64 (1 + x), .int .i64 (1 + y), .int .i64 (p + z / 29)]) (by simp [results, Try.results74, go_sem]) rfl ⟨1 + x, 1 + y, p + z / 29, rfl, by omega, by omega, by omega, by omega, by omega, by omega, D7.out, G7.out⟩
/-- a drawn model with a state -/
def McPost (w : World) (e : Ending) (w' : World) : Prop :=
  ∃ (M : Mm) (x y p : Int), e = .returned (.tuple #[.agg #[.slice M.a M.n M.c, .slice M.b M.m M.d, .slice M.e M.p M.f], .int .i64 x, .int .i64 y, .int .i64 p]) ∧ M.sz ∧ M.at w' w'.heap.size ∧ -1 ≤ x ∧ x ≤ 10 ∧ 0 ≤ y ∧ y ≤ 10 ∧ 0 ≤ p ∧ p ≤ 3 ∧ Below w.heap.size w w'
set_option maxHeartbeats 800000 in
theorem DrawMatchChance_any (a : Option Addr) (n c : Nat) (xs : List Int) (w : World) (h : IntsArg w .u8 a n xs) (hn : n ≤ 4096) :
    Calls Try.prog 29 #[.slice a n c] w fun e w' => McPost w e w' := by
  have h' : IntsArg (w.alloc (.cells #[.slice none 0 0, .slice none 0 0, .slice none 0 0] 26)) .u8 a n xs := ⟨(h.1.al (Nat.le_refl _) _).more (by simp), h.2⟩
  have HB := Lib.hid ((Below.refl w.heap.size w).alloc (Nat.le_refl _) (.cells #[.slice none 0 0, .slice none 0 0, .slice none 0 0] 26))
  have R0 := Lib.hid (three_new w (.slice none 0 0) (.slice none 0 0) (.slice none 0 0) 26)
  have FR := Lib.hid (from_dr a n c xs _ h' hn)
  clear h h'
  go_enter Try.func29, Try.ntmps29
  go_wp2_with fail
  refine FR.out.mono ?_
  rintro e w1 ⟨rfl, hd1⟩
  rw [World.size_alloc] at hd1
  have b1 := hd1.below
  have s1 := b1.size
  simp only [World.size_alloc] at s1
  have R1 := Lib.hid (rowIs_below R0.out b1 (by simp))
  have D1 := Lib.hid hd1
  have l1 := hd1.lt
  clear b1 hd1
  go_wp2_with fail
  refine (l18Draw_dr _ _ a n c xs _ D1.out).mono ?_
  rintro e w2 ⟨M, rfl, hs, i1, i2, i3, hd2, hg2⟩
  have s2 := hg2.size
  have HSZ := Lib.hid hs
  have R2 := Lib.hid ((R1.out.of_block (hg2.block _ R1.out.lt (by simp))).alloc (.cells #[.slice M.a M.n M.c, .slice M.b M.m M.d, .slice M.e M.p M.f] 26))
  have I1 := Lib.hid (i1.alloc (.cells #[.slice M.a M.n M.c, .slice M.b M.m M.d, .slice M.e M.p M.f] 26))
  have I2 := Lib.hid (i2.alloc (.cells #[.slice M.a M.n M.c, .slice M.b M.m M.d, .slice M.e M.p M.f] 26))
  have I3 := Lib.hid (i3.alloc (.cells #[.slice M.a M.n M.c, .slice M.b M.m M.d, .slice M.e M.p M.f] 26))
  have D2 := Lib.hid (hd2.alloc (.cells #[.slice M.a M.n M.c, .slice M.b M.m M.d, .slice M.e M.p M.f] 26))
  have Q2 := Lib.hid (three_new w2 (.slice M.a M.n M.c) (.slice M.b M.m M.d) (.slice M.e M.p M.f) 26)
  clear hs i1 i2 i3 hd2 hg2
  go_wp2_with fail
  refine (l18DrawState_dr _ _ a n c xs _ D2.out).mono ?_
  rintro e w3 ⟨x, y, p, rfl, x0, x1, y0, y1, p0, p1, hd3, hg3⟩
  have s3 := hg3.size
  simp only [World.size_alloc] at s3
  have R3 := Lib.hid (R2.out.of_block (hg3.block _ R2.out.lt (by simp)))
  have Q3 := Lib.hid (Q2.out.of_block (hg3.block _ Q2.out.lt (by simp; omega)))
  have J1 := Lib.hid (I1.out.grown hg3 (by omega))
  have J2 := Lib.hid (I2.out.grown hg3 (by omega))
  have J3 := Lib.hid (I3.out.grown hg3 (by omega))
  have B3 := Lib.hid (HB.out.trans (hd3.below.mono HB.out.size))
  obtain ⟨q0, q1, q2⟩ := three_cells Q3.out
  obtain ⟨b0, b1, b2⟩ := three_cells R3.out
  obtain ⟨f0, f1, f2⟩ := three_frozen R3.out
  obtain ⟨r0, r1, r2⟩ := three_cells (three_set2 (three_set1 (three_set0 R3.out (.slice M.a M.n M.c)) (.slice M.b M.m M.d)) (.slice M.e M.p M.f))
  clear hd3 hg3
  go_wp2_with fail
  refine bodyPost_ret (v := .tuple #[.agg #[.slice M.a M.n M.c, .slice M.b M.m M.d, .slice M.e M.p M.f], .int .i64 x, .int .i64 y, .int .i64 p]) (by simp [results, Try.results29, go_sem, r0, r1, r2]) rfl ⟨M, x, y, p, rfl, HSZ.out, ⟨?_, ?_, ?_⟩, x0, x1, y0, y1, p0, p1, ?_⟩
  · exact ((((J1.out.lower (lo' := w.heap.size + 1) (by omega)).set (by omega) _).set (by omega) _).set (by omega) _).1
  · exact ((((J2.out.lower (lo' := w.heap.size + 1) (by omega)).set (by omega) _).set (by omega) _).set (by omega) _).1
  · exact ((((J3.out.lower (lo' := w.heap.size + 1) (by omega)).set (by omega) _).set (by omega) _).set (by omega) _).1
  · exact ((B3.out.setCell (Nat.le_refl _) _).setCell (Nat.le_refl _) _).setCell (Nat.le_refl _) _
end Go.Proofs.Ytkioliioakmepaa
