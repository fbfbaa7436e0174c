/-
  The draws of variants: small, full, valid.
-/
import Derived.Test.YtjfmpnkbocilpaaDrK
import Derived.Test.YtjfmpnkbocilpaaBrd
import Derived.StillTailTactics
import Derived.RegionTactic
import Derived.BigRegion
namespace Go.Proofs.Ytjfmpnkbocilpaa
open Go.ChangeShapes Go.WideShapes Go.ChangeAt Go.RowKit
set_option linter.unusedVariables false

theorem vr4_set {w : World} {g t : Nat} {f : Nat → Value} (h : w.rowIs g t 4 f) (p q r s : Value) : ((((w.setCell ⟨g, 0, none⟩ p).setCell ⟨g, 1, none⟩ q).setCell ⟨g, 2, none⟩ r).setCell ⟨g, 3, none⟩ s).rowIs g t 4 (vr4 p q r s) :=
  ((((h.set 0 p).set 1 q).set 2 r).set 3 s).congr fun i hi => by
    match i, hi with
    | 0, _ => rfl
    | 1, _ => rfl
    | 2, _ => rfl
    | 3, _ => rfl
theorem vr4_two {w : World} {g t : Nat} {p q r s : Value} (h : w.rowIs g t 4 (vr4 p q r s)) (u : Value) : (w.setCell ⟨g, 2, none⟩ u).rowIs g t 4 (vr4 p q u s) :=
  (h.set 2 u).congr fun i hi => by
    match i, hi with
    | 0, _ => rfl
    | 1, _ => rfl
    | 2, _ => rfl
    | 3, _ => rfl
theorem vr4_froz {w : World} {g t : Nat} {f : Nat → Value} (h : w.rowIs g t 4 f) : w.frozen? ⟨g, 0, none⟩ = false ∧ w.frozen? ⟨g, 1, none⟩ = false ∧ w.frozen? ⟨g, 2, none⟩ = false ∧ w.frozen? ⟨g, 3, none⟩ = false := ⟨h.frozen 0, h.frozen 1, h.frozen 2, h.frozen 3⟩
/-- a variant that was drawn -/
def VrPost (w0 : World) (g : Nat) (a : Option Addr) (n c : Nat) (xs : List Int) (w : World) (e : Ending) (w' : World) : Prop :=
  ∃ p q r s : Int, e = .returned (vrV p q r s) ∧ vrB p q r s = true ∧ Drawing w0 g a n c xs w' ∧ w.grownBy w' (some g)
set_option maxHeartbeats 1600000 in
theorem l01DrawSmall_dr (w0 : World) (g : Nat) (a : Option Addr) (n c : Nat) (xs : List Int) (w : World) (hd : Drawing w0 g a n c xs w) :
    Calls Try.prog 48 #[.pointer (some ⟨g, 0, none⟩)] w fun e w' => VrPost w0 g a n c xs w e w' := by
  have NX := Lib.hid (fun m W hm hD => next_dr m w0 g a n c xs W hD hm)
  have hlt := hd.lt
  have D0 := Lib.hid (hd.alloc (.cells #[.int .i64 0, .int .i64 0, .int .i64 0, .int .i64 0] 30))
  have G0 := Lib.hid (grown_al (by_refl w (some g)) (.cells #[.int .i64 0, .int .i64 0, .int .i64 0, .int .i64 0] 30))
  have R0 := Lib.hid (vr4_new w (.int .i64 0) (.int .i64 0) (.int .i64 0) (.int .i64 0) 30)
  clear hd
  go_enter Try.func48, Try.ntmps48
  go_wp2_with fail
  refine (NX.out 5 _ (by omega) D0.out).mono ?_
  rintro e w1 ⟨x, rfl, x1, x2, hd1, hg1⟩
  have x3 : x < 5 := by omega
  have z1 := hg1.size
  simp only [World.size_alloc] at z1
  have D1 := Lib.hid hd1
  have G1 := Lib.hid (by_trans G0.out hg1)
  have R1 := Lib.hid (R0.out.of_block (hg1.block _ R0.out.lt (fun e => by cases e; omega)))
  clear x2 hd1 hg1
  go_wp2_with fail
  refine (NX.out 3 _ (by omega) D1.out).mono ?_
  rintro e w2 ⟨y, rfl, y1, y2, hd2, hg2⟩
  have y3 : y < 3 := by omega
  have z2 := hg2.size
  have D2 := Lib.hid hd2
  have G2 := Lib.hid (by_trans G1.out hg2)
  have R2 := Lib.hid (R1.out.of_block (hg2.block _ R1.out.lt (fun e => by cases e; omega)))
  clear y2 hd2 hg2
  go_wp2_with fail
  refine (NX.out 3 _ (by omega) D2.out).mono ?_
  rintro e w3 ⟨z, rfl, q1, q2, hd3, hg3⟩
  have q3 : z < 3 := by omega
  have z3 := hg3.size
  have D3 := Lib.hid (hd3.alloc (.cells #[.int .i64 (2 + x), .int .i64 (1 + y), .int .i64 0, .int .i64 (1 + z)] 30))
  have G3 := Lib.hid (grown_al (by_trans G2.out hg3) (.cells #[.int .i64 (2 + x), .int .i64 (1 + y), .int .i64 0, .int .i64 (1 + z)] 30))
  have R3 := Lib.hid ((R2.out.of_block (hg3.block _ R2.out.lt (fun e => by cases e; omega))).alloc (.cells #[.int .i64 (2 + x), .int .i64 (1 + y), .int .i64 0, .int .i64 (1 + z)] 30))
  have B3 := Lib.hid (vr4_new w3 (.int .i64 (2 + x)) (.int .i64 (1 + y)) (.int .i64 0) (.int .i64 (1 + z)) 30)
  clear q2 hd3 hg3 R0 R1 R2 D0 D1 D2 G0 G1 G2
  go_wp2_with fail
  refine (NX.out (2 + x) _ (by omega) D3.out).mono ?_
  rintro e w4 ⟨t, rfl, t1, t2, hd4, hg4⟩
  have t3 : t < 2 + x := by omega
  have D4 := Lib.hid hd4
  have G4 := Lib.hid (by_trans G3.out hg4)
  have z4 := hg4.size
  simp only [World.size_alloc] at z4
  have R4 := Lib.hid (R3.out.of_block (hg4.block _ R3.out.lt (fun e => by cases e; omega)))
  have B4 := Lib.hid (B3.out.of_block (hg4.block _ B3.out.lt (fun e => by cases e; omega)))
  clear t2 hd4 hg4 R3 B3
  obtain ⟨v0, v1, v2, v3⟩ := vr4_cells B4.out
  obtain ⟨f0, f1, f2, f3⟩ := vr4_froz B4.out
  obtain ⟨r0, r1, r2, r3⟩ := vr4_cells R4.out
  obtain ⟨g0, g1, g2, g3⟩ := vr4_froz R4.out
  have hne : w.heap.size ≠ w3.heap.size := by omega
  go_wp2
  obtain ⟨p0, p1, p2, p3⟩ := vr4_cells (vr4_set (R4.out.setOther (a := ⟨w3.heap.size, 2, none⟩) hne (.int .i64 (1 + t))) (.int .i64 (2 + x)) (.int .i64 (1 + y)) (.int .i64 (1 + t)) (.int .i64 (1 + z)))
  refine bodyPost_ret (v := vrV (2 + x) (1 + y) (1 + t) (1 + z)) (by simp [results, Try.results48, go_sem, p0, p1, p2, p3]) rfl ⟨_, _, _, _, rfl, vrB_true.2 ⟨by omega, by omega, by omega, by omega⟩, ?_, ?_⟩
  · exact ((((D4.out.setB (by show g < w3.heap.size; omega) _).setB hlt _).setB hlt _).setB hlt _).setB hlt _
  · exact grown_se (grown_se (grown_se (grown_se (grown_se G4.out (by show w.heap.size ≤ w3.heap.size; omega) _) (Nat.le_refl _) _) (Nat.le_refl _) _) (Nat.le_refl _) _) (Nat.le_refl _) _

theorem FullVariant_any (w : World) : Calls Try.prog 72 #[] w fun e w' => e = .returned (vrV 24 15 6 6) ∧ Below w.heap.size w w' := by
  have R0 := Lib.hid (vr4_new w (.int .i64 0) (.int .i64 0) (.int .i64 0) (.int .i64 0) 30)
  obtain ⟨r0, r1, r2, r3⟩ := vr4_cells R0.out
  obtain ⟨g0, g1, g2, g3⟩ := vr4_froz R0.out
  go_enter Try.func72, Try.ntmps72
  go_wp2
  refine bodyPost_ret (v := vrV 24 15 6 6) (by simp [results, Try.results72, go_sem]) rfl ⟨rfl, ?_⟩
  first
    | exact (((((Below.refl w.heap.size w).alloc (Nat.le_refl _) _).setCell (Nat.le_refl _) _).setCell (Nat.le_refl _) _).setCell (Nat.le_refl _) _).setCell (Nat.le_refl _) _
    | exact (Below.refl w.heap.size w).alloc (Nat.le_refl _) _

end Go.Proofs.Ytjfmpnkbocilpaa
