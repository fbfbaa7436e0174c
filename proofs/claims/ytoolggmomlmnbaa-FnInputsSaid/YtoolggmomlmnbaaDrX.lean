/-
  The draws of variants with boards for the laws of features.
-/
import Derived.Test.YtoolggmomlmnbaaDrW
namespace Go.Proofs.Ytoolggmomlmnbaa
open Go.ChangeShapes Go.WideShapes Go.ChangeAt Go.RowKit
set_option linter.unusedVariables false

set_option maxRecDepth 16000 in
set_option maxHeartbeats 3200000 in
theorem l22DrawAny_dr (w0 : World) (gs : Nat) (a : Option Addr) (nn cc : Nat) (xs : List Int) (w : World) (hd : Drawing w0 gs a nn cc xs w) :
    Calls Try.prog 54 #[.pointer (some ⟨gs, 0, none⟩)] w fun e w' => VbPost w0 gs a nn cc xs w e w' := by
  have NX := Lib.hid (fun m W hm hD => next_dr m w0 gs a nn cc xs W hD hm)
  have hlt := hd.lt
  have hb0 := (((Below.refl w.heap.size w).alloc (Nat.le_refl _) (.cells #[.int .i64 0, .int .i64 0, .int .i64 0, .int .i64 0] 30)).alloc (by simp) (.cells #[.slice none 0 0, .slice none 0 0] 32))
  have R0 := Lib.hid ((vr4_new w (.int .i64 0) (.int .i64 0) (.int .i64 0) (.int .i64 0) 30).alloc (.cells #[.slice none 0 0, .slice none 0 0] 32))
  have Q0 := Lib.hid (pr_new (w.alloc (.cells #[.int .i64 0, .int .i64 0, .int .i64 0, .int .i64 0] 30)) (.slice none 0 0) (.slice none 0 0) 32)
  rw [World.size_alloc] at Q0
  have D0 := Lib.hid (hd.after hb0)
  have G0 := Lib.hid (grown_al (grown_al (by_refl w (some gs)) (.cells #[.int .i64 0, .int .i64 0, .int .i64 0, .int .i64 0] 30)) (.cells #[.slice none 0 0, .slice none 0 0] 32))
  have n1 : w.heap.size ≠ w.heap.size + 1 := by omega
  clear hd hb0
  go_enter Try.func54, Try.ntmps54
  go_wp2_with fail
  refine (NX.out 3 _ (by omega) D0.out).mono ?_
  rintro e w1 ⟨u, rfl, u1, u2, hd1, hg1⟩
  have R1 := Lib.hid (R0.out.of_block (hg1.block _ R0.out.lt (fun e => by injection e with e; omega)))
  have Q1 := Lib.hid (Q0.out.of_block (hg1.block _ Q0.out.lt (fun e => by injection e with e; omega)))
  have D1 := Lib.hid hd1
  have G1 := Lib.hid (by_trans G0.out hg1)
  have z1 : w.heap.size + 1 < w1.heap.size := Q1.out.lt
  clear u2 hd1 hg1 R0 Q0 D0 G0
  by_cases hu : 0 < u
  · go_wp2_with fail
    refine (l22Draw_dr w0 gs a nn cc xs w1 D1.out).mono ?_
    rintro e w2 ⟨p, c, h, s, A, m, d, ys, B, q, f, zs, rfl, hm, hq, hA, hB, hd2, hg2⟩
    have R2 := Lib.hid (R1.out.of_block (hg2.block _ R1.out.lt (fun e => by injection e with e; omega)))
    have Q2 := Lib.hid (Q1.out.of_block (hg2.block _ Q1.out.lt (fun e => by injection e with e; omega)))
    have G2 := Lib.hid (by_trans G1.out hg2)
    have z2 := hg2.size
    have HA := Lib.hid hA
    have HBB := Lib.hid hB
    have D2 := Lib.hid hd2
    clear hA hB hd2 hg2
    obtain ⟨r0, r1, r2, r3⟩ := vr4_cells R2.out
    obtain ⟨fr0, fr1, fr2, fr3⟩ := vr4_froz R2.out
    obtain ⟨q0, q1⟩ := pr_cells Q2.out
    obtain ⟨fq0, fq1⟩ := pr_froz Q2.out
    go_wp2
    obtain ⟨⟨p0, p1, p2, p3⟩, p4, p5⟩ := six_cells (w := w2) R2.out Q2.out n1 (.int .i64 p) (.int .i64 c) (.int .i64 h) (.int .i64 s) (.slice A m d) (.slice B q f)
    have tw := six_tw w.heap.size (w.heap.size + 1) w2 (.int .i64 p) (.int .i64 c) (.int .i64 h) (.int .i64 s) (.slice A m d) (.slice B q f)
    refine bodyPost_ret (v := .tuple #[vrV p c h s, bdV A m d B q f]) (by simp [results, Try.results54, go_sem, p0, p1, p2, p3, p4, p5]) rfl ⟨p, c, h, s, A, m, d, ys, B, q, f, zs, rfl, hm, hq, (HA.out.far2 tw (by omega) (by omega)).lower (by omega), (HBB.out.far2 tw (by omega) (by omega)).lower (by omega), D2.out.keepB (tw.below (B := w.heap.size) (Nat.le_refl _) (by omega)) hlt, tw.grown G2.out (Nat.le_refl _) (by omega)⟩
  · go_wp2_with fail
    refine (l01DrawValid_dr w0 gs a nn cc xs w1 D1.out).mono ?_
    rintro e w2 ⟨P0, c, h, s, rfl, hv, hd2, hg2⟩
    obtain ⟨P, rfl⟩ := Int.eq_ofNat_of_zero_le (show 0 ≤ P0 by have := vrB_true.1 hv; omega)
    have R2 := Lib.hid ((R1.out.of_block (hg2.block _ R1.out.lt (fun e => by injection e with e; omega))).alloc (.cells #[.int .i64 (P : Int), .int .i64 c, .int .i64 h, .int .i64 s] 30))
    have Q2 := Lib.hid ((Q1.out.of_block (hg2.block _ Q1.out.lt (fun e => by injection e with e; omega))).alloc (.cells #[.int .i64 (P : Int), .int .i64 c, .int .i64 h, .int .i64 s] 30))
    have V2 := Lib.hid (vr4_new w2 (.int .i64 (P : Int)) (.int .i64 c) (.int .i64 h) (.int .i64 s) 30)
    have D2 := Lib.hid ((hd2.alloc (.cells #[.int .i64 (P : Int), .int .i64 c, .int .i64 h, .int .i64 s] 30)).drw 1)
    have G2 := Lib.hid (by_drew (grown_al (by_trans G1.out hg2) (.cells #[.int .i64 (P : Int), .int .i64 c, .int .i64 h, .int .i64 s] 30)))
    have z2 := hg2.size
    have HV := Lib.hid hv
    have n2 : w2.heap.size ≠ w.heap.size := by omega
    have n3 : w2.heap.size ≠ w.heap.size + 1 := by omega
    clear hv hd2 hg2
    obtain ⟨v0, v1, v2, v3⟩ := vr4_cells V2.out
    obtain ⟨rr0, rr1, rr2, rr3⟩ := vr4_cells R2.out
    obtain ⟨qq0, qq1⟩ := pr_cells Q2.out
    go_wp2_with fail
    go_region_held3 (fun w' => w'.cell? ⟨w2.heap.size, 0, none⟩ = some (.int .i64 (P : Int)) ∧ w'.cell? ⟨w2.heap.size, 1, none⟩ = some (.int .i64 c) ∧ w'.cell? ⟨w2.heap.size, 2, none⟩ = some (.int .i64 h) ∧ w'.cell? ⟨w2.heap.size, 3, none⟩ = some (.int .i64 s))
      (first | (with_reducible exact K4.out _ _ _ _) | (with_reducible exact K6.out _ _ _ _ _ _) | go_keep)
      (first
        | (go_at_call 82; refine (l02Draw_dr w0 gs a nn cc xs P c h s _ (by exact D2.out) HV.out).mono ?_; rintro e w3 ⟨g1, m, d, ys, g2, q, f, zs, rfl, hm, hq, _, hA, hB, hd3, hg3⟩; have z3 := hg3.size; have R3 := Lib.hid (R2.out.of_block (hg3.block _ R2.out.lt (fun e => by injection e with e; omega))); have Q3 := Lib.hid (Q2.out.of_block (hg3.block _ Q2.out.lt (fun e => by injection e with e; omega))); have V3 := Lib.hid (V2.out.of_block (hg3.block _ V2.out.lt (fun e => by injection e with e; omega))); have G3 := Lib.hid (by_trans G2.out hg3); have D3 := Lib.hid hd3; have HA := Lib.hid (hA.lower (lo' := w2.heap.size) (by simp)); have HBB := Lib.hid (hB.lower (lo' := w2.heap.size) (by simp)); have K4 := Lib.hid (fun x0 x1 x2 x3 => vr4_cells ((((V3.out.setOther (a := ⟨w.heap.size, 0, none⟩) n2 x0).setOther (a := ⟨w.heap.size, 1, none⟩) n2 x1).setOther (a := ⟨w.heap.size, 2, none⟩) n2 x2).setOther (a := ⟨w.heap.size, 3, none⟩) n2 x3)); have K6 := Lib.hid (fun x0 x1 x2 x3 x4 x5 => vr4_cells ((((((V3.out.setOther (a := ⟨w.heap.size, 0, none⟩) n2 x0).setOther (a := ⟨w.heap.size, 1, none⟩) n2 x1).setOther (a := ⟨w.heap.size, 2, none⟩) n2 x2).setOther (a := ⟨w.heap.size, 3, none⟩) n2 x3).setOther (a := ⟨w.heap.size + 1, 0, none⟩) n3 x4).setOther (a := ⟨w.heap.size + 1, 1, none⟩) n3 x5)); obtain ⟨y0, y1, y2, y3⟩ := vr4_cells V3.out; obtain ⟨r0, r1, r2, r3⟩ := vr4_cells R3.out; obtain ⟨fr0, fr1, fr2, fr3⟩ := vr4_froz R3.out; obtain ⟨q0, q1⟩ := pr_cells Q3.out; obtain ⟨fq0, fq1⟩ := pr_froz Q3.out; have l3 := Q3.out.lt; clear hA hB hd3 hg3))
    all_goals
      go_wp2
      obtain ⟨⟨p0, p1, p2, p3⟩, p4, p5⟩ := six_cells (w := w3) R3.out Q3.out n1 (.int .i64 (P : Int)) (.int .i64 c) (.int .i64 h) (.int .i64 s) (.slice (some ⟨g1, 0, none⟩) m d) (.slice (some ⟨g2, 0, none⟩) q f)
      have tw := six_tw w.heap.size (w.heap.size + 1) w3 (.int .i64 (P : Int)) (.int .i64 c) (.int .i64 h) (.int .i64 s) (.slice (some ⟨g1, 0, none⟩) m d) (.slice (some ⟨g2, 0, none⟩) q f)
      refine bodyPost_ret (v := .tuple #[vrV (P : Int) c h s, bdV (some ⟨g1, 0, none⟩) m d (some ⟨g2, 0, none⟩) q f]) (by simp [results, Try.results54, go_sem, p0, p1, p2, p3, p4, p5]) rfl ⟨(P : Int), c, h, s, some ⟨g1, 0, none⟩, m, d, ys, some ⟨g2, 0, none⟩, q, f, zs, rfl, by omega, by omega, (HA.out.far2 tw (by omega) (by omega)).lower (by omega), (HBB.out.far2 tw (by omega) (by omega)).lower (by omega), D3.out.keepB (tw.below (B := w.heap.size) (Nat.le_refl _) (by omega)) hlt, tw.grown G3.out (Nat.le_refl _) (by omega)⟩

/-- a variant with a board, for a law -/
def DvPost (w : World) (e : Ending) (w' : World) : Prop :=
  ∃ (p c h s : Int) (A : Option Addr) (m d : Nat) (ys : List Int) (B : Option Addr) (q f : Nat) (zs : List Int), e = .returned (.tuple #[vrV p c h s, bdV A m d B q f]) ∧ m ≤ 200 ∧ q ≤ 200 ∧ Ints w' w'.heap.size .i64 A m ys ∧ Ints w' w'.heap.size .i64 B q zs ∧ Below w.heap.size w w'

set_option maxRecDepth 16000 in
set_option maxHeartbeats 1600000 in
theorem DrawFeaturesOf_any (a : Option Addr) (n cc : Nat) (xs : List Int) (w : World) (h : IntsArg w .u8 a n xs) (hn : n ≤ 4096) :
    Calls Try.prog 28 #[.slice a n cc] w fun e w' => DvPost w e w' := by
  have hb0 := (((Below.refl w.heap.size w).alloc (Nat.le_refl _) (.cells #[.int .i64 0, .int .i64 0, .int .i64 0, .int .i64 0] 30)).alloc (by simp) (.cells #[.slice none 0 0, .slice none 0 0] 32))
  have R0 := Lib.hid ((vr4_new w (.int .i64 0) (.int .i64 0) (.int .i64 0) (.int .i64 0) 30).alloc (.cells #[.slice none 0 0, .slice none 0 0] 32))
  have Q0 := Lib.hid (pr_new (w.alloc (.cells #[.int .i64 0, .int .i64 0, .int .i64 0, .int .i64 0] 30)) (.slice none 0 0) (.slice none 0 0) 32)
  rw [World.size_alloc] at Q0
  obtain ⟨W0, hW0⟩ : ∃ W, (w.alloc (.cells #[.int .i64 0, .int .i64 0, .int .i64 0, .int .i64 0] 30)).alloc (.cells #[.slice none 0 0, .slice none 0 0] 32) = W := ⟨_, rfl⟩
  have zW : W0.heap.size = w.heap.size + 1 + 1 := by rw [← hW0]; simp
  have h2 : IntsArg W0 .u8 a n xs := by rw [← hW0]; exact ⟨(h.1.below hb0).more hb0.size, h.2.1, h.2.2⟩
  rw [hW0] at R0 Q0 hb0
  have HB0 := Lib.hid hb0
  have FR := Lib.hid (from_dr a n cc xs W0 h2 hn)
  have HW0 := Lib.hid hW0
  have zw1 : w.heap.size + 1 < W0.heap.size := by omega
  have n1 : w.heap.size ≠ w.heap.size + 1 := by omega
  clear h h2 hb0 hW0 zW
  go_enter Try.func28, Try.ntmps28
  go_wp2_with fail
  rw [HW0.out]
  refine FR.out.mono ?_
  rintro e w1 ⟨rfl, hd1⟩
  have R1 := Lib.hid (rowIs_below R0.out hd1.below R0.out.lt)
  have Q1 := Lib.hid (rowIs_below Q0.out hd1.below Q0.out.lt)
  have D1 := Lib.hid hd1
  have z1 := hd1.below.size
  clear hd1
  go_wp2_with fail
  refine (l22DrawAny_dr W0 W0.heap.size a n cc xs w1 D1.out).mono ?_
  rintro e w2 ⟨p, c, h, s, A, m, d, ys, B, q, f, zs, rfl, hm, hq, hA, hB, hd2, hg2⟩
  have R2 := Lib.hid (R1.out.of_block (hg2.block _ R1.out.lt (fun e => by injection e with e; omega)))
  have Q2 := Lib.hid (Q1.out.of_block (hg2.block _ Q1.out.lt (fun e => by injection e with e; omega)))
  have z2 := hg2.size
  have B2 := Lib.hid (HB0.out.trans (hd2.below.mono (by omega)))
  have HA := Lib.hid hA
  have HBB := Lib.hid hB
  clear hA hB hd2 hg2 R1 Q1
  obtain ⟨r0, r1, r2, r3⟩ := vr4_cells R2.out
  obtain ⟨fr0, fr1, fr2, fr3⟩ := vr4_froz R2.out
  obtain ⟨q0, q1⟩ := pr_cells Q2.out
  obtain ⟨fq0, fq1⟩ := pr_froz Q2.out
  go_wp2
  obtain ⟨⟨p0, p1, p2, p3⟩, p4, p5⟩ := six_cells (w := w2) R2.out Q2.out n1 (.int .i64 p) (.int .i64 c) (.int .i64 h) (.int .i64 s) (.slice A m d) (.slice B q f)
  have tw := six_tw w.heap.size (w.heap.size + 1) w2 (.int .i64 p) (.int .i64 c) (.int .i64 h) (.int .i64 s) (.slice A m d) (.slice B q f)
  refine bodyPost_ret (v := .tuple #[vrV p c h s, bdV A m d B q f]) (by simp [results, Try.results28, go_sem, p0, p1, p2, p3, p4, p5]) rfl ⟨p, c, h, s, A, m, d, ys, B, q, f, zs, rfl, hm, hq, (HA.out.far2 tw (by omega) (by omega)).1, (HBB.out.far2 tw (by omega) (by omega)).1, B2.out.trans (tw.below (Nat.le_refl _) (by omega))⟩

set_option maxRecDepth 16000 in
set_option maxHeartbeats 1600000 in
theorem DrawInputsOf_any (a : Option Addr) (n cc : Nat) (xs : List Int) (w : World) (h : IntsArg w .u8 a n xs) (hn : n ≤ 4096) :
    Calls Try.prog 33 #[.slice a n cc] w fun e w' => DvPost w e w' := by
  have hb0 := (((Below.refl w.heap.size w).alloc (Nat.le_refl _) (.cells #[.int .i64 0, .int .i64 0, .int .i64 0, .int .i64 0] 30)).alloc (by simp) (.cells #[.slice none 0 0, .slice none 0 0] 32))
  have R0 := Lib.hid ((vr4_new w (.int .i64 0) (.int .i64 0) (.int .i64 0) (.int .i64 0) 30).alloc (.cells #[.slice none 0 0, .slice none 0 0] 32))
  have Q0 := Lib.hid (pr_new (w.alloc (.cells #[.int .i64 0, .int .i64 0, .int .i64 0, .int .i64 0] 30)) (.slice none 0 0) (.slice none 0 0) 32)
  rw [World.size_alloc] at Q0
  obtain ⟨W0, hW0⟩ : ∃ W, (w.alloc (.cells #[.int .i64 0, .int .i64 0, .int .i64 0, .int .i64 0] 30)).alloc (.cells #[.slice none 0 0, .slice none 0 0] 32) = W := ⟨_, rfl⟩
  have zW : W0.heap.size = w.heap.size + 1 + 1 := by rw [← hW0]; simp
  have h2 : IntsArg W0 .u8 a n xs := by rw [← hW0]; exact ⟨(h.1.below hb0).more hb0.size, h.2.1, h.2.2⟩
  rw [hW0] at R0 Q0 hb0
  have HB0 := Lib.hid hb0
  have FR := Lib.hid (from_dr a n cc xs W0 h2 hn)
  have HW0 := Lib.hid hW0
  have zw1 : w.heap.size + 1 < W0.heap.size := by omega
  have n1 : w.heap.size ≠ w.heap.size + 1 := by omega
  clear h h2 hb0 hW0 zW
  go_enter Try.func33, Try.ntmps33
  go_wp2_with fail
  rw [HW0.out]
  refine FR.out.mono ?_
  rintro e w1 ⟨rfl, hd1⟩
  have R1 := Lib.hid (rowIs_below R0.out hd1.below R0.out.lt)
  have Q1 := Lib.hid (rowIs_below Q0.out hd1.below Q0.out.lt)
  have D1 := Lib.hid hd1
  have z1 := hd1.below.size
  clear hd1
  go_wp2_with fail
  refine (l22DrawAny_dr W0 W0.heap.size a n cc xs w1 D1.out).mono ?_
  rintro e w2 ⟨p, c, h, s, A, m, d, ys, B, q, f, zs, rfl, hm, hq, hA, hB, hd2, hg2⟩
  have R2 := Lib.hid (R1.out.of_block (hg2.block _ R1.out.lt (fun e => by injection e with e; omega)))
  have Q2 := Lib.hid (Q1.out.of_block (hg2.block _ Q1.out.lt (fun e => by injection e with e; omega)))
  have z2 := hg2.size
  have B2 := Lib.hid (HB0.out.trans (hd2.below.mono (by omega)))
  have HA := Lib.hid hA
  have HBB := Lib.hid hB
  clear hA hB hd2 hg2 R1 Q1
  obtain ⟨r0, r1, r2, r3⟩ := vr4_cells R2.out
  obtain ⟨fr0, fr1, fr2, fr3⟩ := vr4_froz R2.out
  obtain ⟨q0, q1⟩ := pr_cells Q2.out
  obtain ⟨fq0, fq1⟩ := pr_froz Q2.out
  go_wp2
  obtain ⟨⟨p0, p1, p2, p3⟩, p4, p5⟩ := six_cells (w := w2) R2.out Q2.out n1 (.int .i64 p) (.int .i64 c) (.int .i64 h) (.int .i64 s) (.slice A m d) (.slice B q f)
  have tw := six_tw w.heap.size (w.heap.size + 1) w2 (.int .i64 p) (.int .i64 c) (.int .i64 h) (.int .i64 s) (.slice A m d) (.slice B q f)
  refine bodyPost_ret (v := .tuple #[vrV p c h s, bdV A m d B q f]) (by simp [results, Try.results33, go_sem, p0, p1, p2, p3, p4, p5]) rfl ⟨p, c, h, s, A, m, d, ys, B, q, f, zs, rfl, hm, hq, (HA.out.far2 tw (by omega) (by omega)).1, (HBB.out.far2 tw (by omega) (by omega)).1, B2.out.trans (tw.below (Nat.le_refl _) (by omega))⟩

set_option maxRecDepth 16000 in
set_option maxHeartbeats 1600000 in
theorem DrawLongestPrime_any (a : Option Addr) (n cc : Nat) (xs : List Int) (w : World) (h : IntsArg w .u8 a n xs) (hn : n ≤ 4096) :
    Calls Try.prog 38 #[.slice a n cc] w fun e w' => DvPost w e w' := by
  have hb0 := (((Below.refl w.heap.size w).alloc (Nat.le_refl _) (.cells #[.int .i64 0, .int .i64 0, .int .i64 0, .int .i64 0] 30)).alloc (by simp) (.cells #[.slice none 0 0, .slice none 0 0] 32))
  have R0 := Lib.hid ((vr4_new w (.int .i64 0) (.int .i64 0) (.int .i64 0) (.int .i64 0) 30).alloc (.cells #[.slice none 0 0, .slice none 0 0] 32))
  have Q0 := Lib.hid (pr_new (w.alloc (.cells #[.int .i64 0, .int .i64 0, .int .i64 0, .int .i64 0] 30)) (.slice none 0 0) (.slice none 0 0) 32)
  rw [World.size_alloc] at Q0
  obtain ⟨W0, hW0⟩ : ∃ W, (w.alloc (.cells #[.int .i64 0, .int .i64 0, .int .i64 0, .int .i64 0] 30)).alloc (.cells #[.slice none 0 0, .slice none 0 0] 32) = W := ⟨_, rfl⟩
  have zW : W0.heap.size = w.heap.size + 1 + 1 := by rw [← hW0]; simp
  have h2 : IntsArg W0 .u8 a n xs := by rw [← hW0]; exact ⟨(h.1.below hb0).more hb0.size, h.2.1, h.2.2⟩
  rw [hW0] at R0 Q0 hb0
  have HB0 := Lib.hid hb0
  have FR := Lib.hid (from_dr a n cc xs W0 h2 hn)
  have HW0 := Lib.hid hW0
  have zw1 : w.heap.size + 1 < W0.heap.size := by omega
  have n1 : w.heap.size ≠ w.heap.size + 1 := by omega
  clear h h2 hb0 hW0 zW
  go_enter Try.func38, Try.ntmps38
  go_wp2_with fail
  rw [HW0.out]
  refine FR.out.mono ?_
  rintro e w1 ⟨rfl, hd1⟩
  have R1 := Lib.hid (rowIs_below R0.out hd1.below R0.out.lt)
  have Q1 := Lib.hid (rowIs_below Q0.out hd1.below Q0.out.lt)
  have D1 := Lib.hid hd1
  have z1 := hd1.below.size
  clear hd1
  go_wp2_with fail
  refine (l22DrawAny_dr W0 W0.heap.size a n cc xs w1 D1.out).mono ?_
  rintro e w2 ⟨p, c, h, s, A, m, d, ys, B, q, f, zs, rfl, hm, hq, hA, hB, hd2, hg2⟩
  have R2 := Lib.hid (R1.out.of_block (hg2.block _ R1.out.lt (fun e => by injection e with e; omega)))
  have Q2 := Lib.hid (Q1.out.of_block (hg2.block _ Q1.out.lt (fun e => by injection e with e; omega)))
  have z2 := hg2.size
  have B2 := Lib.hid (HB0.out.trans (hd2.below.mono (by omega)))
  have HA := Lib.hid hA
  have HBB := Lib.hid hB
  clear hA hB hd2 hg2 R1 Q1
  obtain ⟨r0, r1, r2, r3⟩ := vr4_cells R2.out
  obtain ⟨fr0, fr1, fr2, fr3⟩ := vr4_froz R2.out
  obtain ⟨q0, q1⟩ := pr_cells Q2.out
  obtain ⟨fq0, fq1⟩ := pr_froz Q2.out
  go_wp2
  obtain ⟨⟨p0, p1, p2, p3⟩, p4, p5⟩ := six_cells (w := w2) R2.out Q2.out n1 (.int .i64 p) (.int .i64 c) (.int .i64 h) (.int .i64 s) (.slice A m d) (.slice B q f)
  have tw := six_tw w.heap.size (w.heap.size + 1) w2 (.int .i64 p) (.int .i64 c) (.int .i64 h) (.int .i64 s) (.slice A m d) (.slice B q f)
  refine bodyPost_ret (v := .tuple #[vrV p c h s, bdV A m d B q f]) (by simp [results, Try.results38, go_sem, p0, p1, p2, p3, p4, p5]) rfl ⟨p, c, h, s, A, m, d, ys, B, q, f, zs, rfl, hm, hq, (HA.out.far2 tw (by omega) (by omega)).1, (HBB.out.far2 tw (by omega) (by omega)).1, B2.out.trans (tw.below (Nat.le_refl _) (by omega))⟩
end Go.Proofs.Ytoolggmomlmnbaa
