/-
  The draws of variants: small, full, valid.
-/
import Derived.Test.YtoolggmomlmnbaaDrK
import Derived.Test.YtoolggmomlmnbaaBrd
import Derived.StillTailTactics
import Derived.RegionTactic
import Derived.BigRegion
namespace Go.Proofs.Ytoolggmomlmnbaa
open Go.ChangeShapes Go.WideShapes Go.ChangeAt Go.RowKit
set_option linter.unusedVariables false

theorem vr4_set {w : World} {g t : Nat} {f : Nat → Value} (h : w.rowIs g t 4 f) (p q r s : Value) : ((((w.setCell ⟨g, 0, none⟩ p).setCell ⟨g, 1, none⟩ q).setCell ⟨g, 2, none⟩ r).setCell ⟨g, 3, none⟩ s).rowIs g t 4 (vr4 p q r s) :=
  ((((h.set 0 p).set 1 q).set 2 r).set 3 s).congr fun i hi => by
    match i, hi with
    | 0, _ => rfl
    | 1, _ => rfl
    | 2, _ => rfl
    | 3, _ => rfl
theorem vr4_two {w : World} {g t : Nat} {p q r s : Value} (h : w.rowIs g t 4 (vr4 p q r s)) (u : Value) : (w.setCell ⟨g, 2, none⟩ u).rowIs g t 4 (vr4 p q u s) :=
  (h.set 2 u).congr fun i hi => by
    match i, hi with
    | 0, _ => rfl
    | 1, _ => rfl
    | 2, _ => rfl
    | 3, _ => rfl
theorem vr4_froz {w : World} {g t : Nat} {f : Nat → Value} (h : w.rowIs g t 4 f) : w.frozen? ⟨g, 0, none⟩ = false ∧ w.frozen? ⟨g, 1, none⟩ = false ∧ w.frozen? ⟨g, 2, none⟩ = false ∧ w.frozen? ⟨g, 3, none⟩ = false := ⟨h.frozen 0, h.frozen 1, h.frozen 2, h.frozen 3⟩
/-- a variant that was drawn -/
def VrPost (w0 : World) (g : Nat) (a : Option Addr) (n c : Nat) (xs : List Int) (w : World) (e : Ending) (w' : World) : Prop :=
  ∃ p q r s : Int, e = .returned (vrV p q r s) ∧ vrB p q r s = true ∧ Drawing w0 g a n c xs w' ∧ w.grownBy w' (some g)
set_option maxHeartbeats 1600000 in
theorem l01DrawSmall_dr (w0 : World) (g : Nat) (a : Option Addr) (n c : Nat) (xs : List Int) (w : World) (hd : Drawing w0 g a n c xs w) :
    Calls Try.prog 101 #[.pointer (some ⟨g, 0, none⟩)] w fun e w' => VrPost w0 g a n c xs w e w' := by
  have NX := Lib.hid (fun m W hm hD => next_dr m w0 g a n c xs W hD hm)
  have hlt := hd.lt
  have D0 := Lib.hid (hd.alloc (.cells #[.int .i64 0, .int .i64 0, .int .i64 0, .int .i64 0] 30))
  have G0 := Lib.hid (grown_al (by_refl w (some g)) (.cells #[.int .i64 0, .int .i64 0, .int .i64 0, .int .i64 0] 30))
  have R0 := Lib.hid (vr4_new w (.int .i64 0) (.int .i64 0) (.int .i64 0) (.int .i64 0) 30)
  clear hd
  go_enter Try.func101, Try.ntmps101
  go_wp2_with fail
  refine (NX.out 5 _ (by omega) D0.out).mono ?_
  rintro e w1 ⟨x, rfl, x1, x2, hd1, hg1⟩
  have x3 : x < 5 := by omega
  have z1 := hg1.size
  simp only [World.size_alloc] at z1
  have D1 := Lib.hid hd1
  have G1 := Lib.hid (by_trans G0.out hg1)
  have R1 := Lib.hid (R0.out.of_block (hg1.block _ R0.out.lt (fun e => by cases e; omega)))
  clear x2 hd1 hg1
  go_wp2_with fail
  refine (NX.out 3 _ (by omega) D1.out).mono ?_
  rintro e w2 ⟨y, rfl, y1, y2, hd2, hg2⟩
  have y3 : y < 3 := by omega
  have z2 := hg2.size
  have D2 := Lib.hid hd2
  have G2 := Lib.hid (by_trans G1.out hg2)
  have R2 := Lib.hid (R1.out.of_block (hg2.block _ R1.out.lt (fun e => by cases e; omega)))
  clear y2 hd2 hg2
  go_wp2_with fail
  refine (NX.out 3 _ (by omega) D2.out).mono ?_
  rintro e w3 ⟨z, rfl, q1, q2, hd3, hg3⟩
  have q3 : z < 3 := by omega
  have z3 := hg3.size
  have D3 := Lib.hid (hd3.alloc (.cells #[.int .i64 (2 + x), .int .i64 (1 + y), .int .i64 0, .int .i64 (1 + z)] 30))
  have G3 := Lib.hid (grown_al (by_trans G2.out hg3) (.cells #[.int .i64 (2 + x), .int .i64 (1 + y), .int .i64 0, .int .i64 (1 + z)] 30))
  have R3 := Lib.hid ((R2.out.of_block (hg3.block _ R2.out.lt (fun e => by cases e; omega))).alloc (.cells #[.int .i64 (2 + x), .int .i64 (1 + y), .int .i64 0, .int .i64 (1 + z)] 30))
  have B3 := Lib.hid (vr4_new w3 (.int .i64 (2 + x)) (.int .i64 (1 + y)) (.int .i64 0) (.int .i64 (1 + z)) 30)
  clear q2 hd3 hg3 R0 R1 R2 D0 D1 D2 G0 G1 G2
  go_wp2_with fail
  refine (NX.out (2 + x) _ (by omega) D3.out).mono ?_
  rintro e w4 ⟨t, rfl, t1, t2, hd4, hg4⟩
  have t3 : t < 2 + x := by omega
  have D4 := Lib.hid hd4
  have G4 := Lib.hid (by_trans G3.out hg4)
  have z4 := hg4.size
  simp only [World.size_alloc] at z4
  have R4 := Lib.hid (R3.out.of_block (hg4.block _ R3.out.lt (fun e => by cases e; omega)))
  have B4 := Lib.hid (B3.out.of_block (hg4.block _ B3.out.lt (fun e => by cases e; omega)))
  clear t2 hd4 hg4 R3 B3
  obtain ⟨v0, v1, v2, v3⟩ := vr4_cells B4.out
  obtain ⟨f0, f1, f2, f3⟩ := vr4_froz B4.out
  obtain ⟨r0, r1, r2, r3⟩ := vr4_cells R4.out
  obtain ⟨g0, g1, g2, g3⟩ := vr4_froz R4.out
  have hne : w.heap.size ≠ w3.heap.size := by omega
  go_wp2
  obtain ⟨p0, p1, p2, p3⟩ := vr4_cells (vr4_set (R4.out.setOther (a := ⟨w3.heap.size, 2, none⟩) hne (.int .i64 (1 + t))) (.int .i64 (2 + x)) (.int .i64 (1 + y)) (.int .i64 (1 + t)) (.int .i64 (1 + z)))
  refine bodyPost_ret (v := vrV (2 + x) (1 + y) (1 + t) (1 + z)) (by simp [results, Try.results101, go_sem, p0, p1, p2, p3]) rfl ⟨_, _, _, _, rfl, vrB_true.2 ⟨by omega, by omega, by omega, by omega⟩, ?_, ?_⟩
  · exact ((((D4.out.setB (by show g < w3.heap.size; omega) _).setB hlt _).setB hlt _).setB hlt _).setB hlt _
  · exact grown_se (grown_se (grown_se (grown_se (grown_se G4.out (by show w.heap.size ≤ w3.heap.size; omega) _) (Nat.le_refl _) _) (Nat.le_refl _) _) (Nat.le_refl _) _) (Nat.le_refl _) _

theorem FullVariant_any (w : World) : Calls Try.prog 103 #[] w fun e w' => e = .returned (vrV 24 15 6 6) ∧ Below w.heap.size w w' := by
  have R0 := Lib.hid (vr4_new w (.int .i64 0) (.int .i64 0) (.int .i64 0) (.int .i64 0) 30)
  obtain ⟨r0, r1, r2, r3⟩ := vr4_cells R0.out
  obtain ⟨g0, g1, g2, g3⟩ := vr4_froz R0.out
  go_enter Try.func103, Try.ntmps103
  go_wp2
  refine bodyPost_ret (v := vrV 24 15 6 6) (by simp [results, Try.results103, go_sem]) rfl ⟨rfl, ?_⟩
  first
    | exact (((((Below.refl w.heap.size w).alloc (Nat.le_refl _) _).setCell (Nat.le_refl _) _).setCell (Nat.le_refl _) _).setCell (Nat.le_refl _) _).setCell (Nat.le_refl _) _
    | exact (Below.refl w.heap.size w).alloc (Nat.le_refl _) _

set_option maxHeartbeats 3200000 in
theorem l01DrawValid_dr (w0 : World) (g : Nat) (a : Option Addr) (n c : Nat) (xs : List Int) (w : World) (hd : Drawing w0 g a n c xs w) :
    Calls Try.prog 81 #[.pointer (some ⟨g, 0, none⟩)] w fun e w' => VrPost w0 g a n c xs w e w' := by
  have NX := Lib.hid (fun m W hm hD => next_dr m w0 g a n c xs W hD hm)
  have hlt := hd.lt
  have D0 := Lib.hid (hd.alloc (.cells #[.int .i64 0, .int .i64 0, .int .i64 0, .int .i64 0] 30))
  have G0 := Lib.hid (grown_al (by_refl w (some g)) (.cells #[.int .i64 0, .int .i64 0, .int .i64 0, .int .i64 0] 30))
  have R0 := Lib.hid (vr4_new w (.int .i64 0) (.int .i64 0) (.int .i64 0) (.int .i64 0) 30)
  clear hd
  go_enter Try.func81, Try.ntmps81
  go_wp2_with fail
  refine (NX.out 4 _ (by omega) D0.out).mono ?_
  rintro e w1 ⟨u, rfl, u1, u2, hd1, hg1⟩
  have z1 := hg1.size
  simp only [World.size_alloc] at z1
  have D1 := Lib.hid hd1
  have G1 := Lib.hid (by_trans G0.out hg1)
  have R1 := Lib.hid (R0.out.of_block (hg1.block _ R0.out.lt (fun e => by cases e; omega)))
  clear u1 u2 hd1 hg1 R0 D0 G0
  by_cases s0 : u = 0
  · subst s0
    go_wp2_with fail
    refine (FullVariant_any _).mono ?_
    rintro e w2 ⟨rfl, hb⟩
    have R2 := Lib.hid (rowIs_below R1.out hb R1.out.lt)
    have D2 := Lib.hid (D1.out.after hb)
    have G2 := Lib.hid (grown_be G1.out hb (by omega))
    clear hb
    obtain ⟨r0, r1, r2, r3⟩ := vr4_cells R2.out
    obtain ⟨g0, g1, g2, g3⟩ := vr4_froz R2.out
    go_wp2
    obtain ⟨p0, p1, p2, p3⟩ := vr4_cells (vr4_set R2.out (.int .i64 24) (.int .i64 15) (.int .i64 6) (.int .i64 6))
    refine bodyPost_ret (v := vrV 24 15 6 6) (by simp [results, Try.results81, go_sem, p0, p1, p2, p3]) rfl ⟨_, _, _, _, rfl, by decide, ?_, ?_⟩
    · exact (((D2.out.setB hlt _).setB hlt _).setB hlt _).setB hlt _
    · exact grown_se (grown_se (grown_se (grown_se G2.out (Nat.le_refl _) _) (Nat.le_refl _) _) (Nat.le_refl _) _) (Nat.le_refl _) _
  have t0 : (u == 0) = false := by simpa using s0
  by_cases s1 : u = 1
  · subst s1
    clear s0 t0
    go_wp2_with fail
    refine (NX.out 21 _ (by omega) D1.out).mono ?_
    rintro e w2 ⟨x, rfl, x1, x2, hd2, hg2⟩
    have x3 : x < 21 := by omega
    have z2 := hg2.size
    have D2 := Lib.hid hd2
    have G2 := Lib.hid (by_trans G1.out hg2)
    have R2 := Lib.hid (R1.out.of_block (hg2.block _ R1.out.lt (fun e => by cases e; omega)))
    clear x2 hd2 hg2 R1 D1 G1
    go_wp2_with fail
    refine (NX.out 15 _ (by omega) D2.out).mono ?_
    rintro e w3 ⟨y, rfl, y1, y2, hd3, hg3⟩
    have y3 : y < 15 := by omega
    have z3 := hg3.size
    have D3 := Lib.hid hd3
    have G3 := Lib.hid (by_trans G2.out hg3)
    have R3 := Lib.hid (R2.out.of_block (hg3.block _ R2.out.lt (fun e => by cases e; omega)))
    clear y2 hd3 hg3 R2 D2 G2
    go_wp2_with fail
    refine (NX.out 6 _ (by omega) D3.out).mono ?_
    rintro e w4 ⟨z, rfl, q1, q2, hd4, hg4⟩
    have q3 : z < 6 := by omega
    have z4 := hg4.size
    have D4 := Lib.hid (hd4.alloc (.cells #[.int .i64 (4 + x), .int .i64 (1 + y), .int .i64 0, .int .i64 (1 + z)] 30))
    have G4 := Lib.hid (grown_al (by_trans G3.out hg4) (.cells #[.int .i64 (4 + x), .int .i64 (1 + y), .int .i64 0, .int .i64 (1 + z)] 30))
    have R4 := Lib.hid ((R3.out.of_block (hg4.block _ R3.out.lt (fun e => by cases e; omega))).alloc (.cells #[.int .i64 (4 + x), .int .i64 (1 + y), .int .i64 0, .int .i64 (1 + z)] 30))
    have B4 := Lib.hid (vr4_new w4 (.int .i64 (4 + x)) (.int .i64 (1 + y)) (.int .i64 0) (.int .i64 (1 + z)) 30)
    have hq : IntKind.i64.wrap (Int.tdiv (4 + x) 2) = (4 + x) / 2 := by
      rw [Int.tdiv_eq_ediv_of_nonneg (by omega)]; exact IntWalk.i64_in _ (by omega)
    clear q2 hd4 hg4 R3 D3 G3
    go_wp2_with fail
    refine (NX.out ((4 + x) / 2) _ (by omega) D4.out).mono ?_
    rintro e w5 ⟨t, rfl, t1, t2, hd5, hg5⟩
    have t3 : t < 4 + x := by omega
    have D5 := Lib.hid hd5
    have G5 := Lib.hid (by_trans G4.out hg5)
    have z5 := hg5.size
    simp only [World.size_alloc] at z5
    have R5 := Lib.hid (R4.out.of_block (hg5.block _ R4.out.lt (fun e => by cases e; omega)))
    have B5 := Lib.hid (B4.out.of_block (hg5.block _ B4.out.lt (fun e => by cases e; omega)))
    clear t2 hd5 hg5 R4 B4
    obtain ⟨v0, v1, v2, v3⟩ := vr4_cells B5.out
    obtain ⟨f0, f1, f2, f3⟩ := vr4_froz B5.out
    obtain ⟨r0, r1, r2, r3⟩ := vr4_cells R5.out
    obtain ⟨g0, g1, g2, g3⟩ := vr4_froz R5.out
    have hne : w.heap.size ≠ w4.heap.size := by omega
    go_wp2
    obtain ⟨p0, p1, p2, p3⟩ := vr4_cells (vr4_set (R5.out.setOther (a := ⟨w4.heap.size, 2, none⟩) hne (.int .i64 (1 + t))) (.int .i64 (4 + x)) (.int .i64 (1 + y)) (.int .i64 (1 + t)) (.int .i64 (1 + z)))
    refine bodyPost_ret (v := vrV (4 + x) (1 + y) (1 + t) (1 + z)) (by simp [results, Try.results81, go_sem, p0, p1, p2, p3]) rfl ⟨_, _, _, _, rfl, vrB_true.2 ⟨by omega, by omega, by omega, by omega⟩, ?_, ?_⟩
    · exact ((((D5.out.setB (by show g < w4.heap.size; omega) _).setB hlt _).setB hlt _).setB hlt _).setB hlt _
    · exact grown_se (grown_se (grown_se (grown_se (grown_se G5.out (by show w.heap.size ≤ w4.heap.size; omega) _) (Nat.le_refl _) _) (Nat.le_refl _) _) (Nat.le_refl _) _) (Nat.le_refl _) _
  have t1 : (u == 1) = false := by simpa using s1
  clear s0 s1
  go_wp2_with fail
  refine (l01DrawSmall_dr w0 g a n c xs w1 D1.out).mono ?_
  rintro e w2 ⟨p, q, r, s, rfl, hv, hd2, hg2⟩
  have R2 := Lib.hid (R1.out.of_block (hg2.block _ R1.out.lt (fun e => by cases e; omega)))
  have G2 := Lib.hid (by_trans G1.out hg2)
  have HV := Lib.hid hv
  clear hg2 hv
  obtain ⟨r0, r1, r2, r3⟩ := vr4_cells R2.out
  obtain ⟨g0, g1, g2, g3⟩ := vr4_froz R2.out
  go_wp2
  obtain ⟨p0, p1, p2, p3⟩ := vr4_cells (vr4_set R2.out (.int .i64 p) (.int .i64 q) (.int .i64 r) (.int .i64 s))
  refine bodyPost_ret (v := vrV p q r s) (by simp [results, Try.results81, go_sem, p0, p1, p2, p3]) rfl ⟨_, _, _, _, rfl, HV.out, ?_, ?_⟩
  · exact (((hd2.setB hlt _).setB hlt _).setB hlt _).setB hlt _
  · exact grown_se (grown_se (grown_se (grown_se G2.out (Nat.le_refl _) _) (Nat.le_refl _) _) (Nat.le_refl _) _) (Nat.le_refl _) _
end Go.Proofs.Ytoolggmomlmnbaa
