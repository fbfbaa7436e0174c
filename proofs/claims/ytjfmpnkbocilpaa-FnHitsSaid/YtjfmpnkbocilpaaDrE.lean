/-
  The draws of boards: StartBoard, l02Draw.
-/
import Derived.Test.YtjfmpnkbocilpaaDrD
namespace Go.Proofs.Ytjfmpnkbocilpaa
open Go.ChangeShapes Go.WideShapes Go.ChangeAt Go.RowKit
set_option linter.unusedVariables false

theorem pr_froz {w : World} {g t : Nat} {f : Nat → Value} (h : w.rowIs g t 2 f) : w.frozen? ⟨g, 0, none⟩ = false ∧ w.frozen? ⟨g, 1, none⟩ = false := ⟨h.frozen 0, h.frozen 1⟩
theorem SdAt.setO {w : World} {base g n b i : Nat} {M : Int} (h : SdAt w base g n M) (hb : b ≠ g) (u : Value) : SdAt (w.setCell ⟨b, i, none⟩ u) base g n M := by
  obtain ⟨h1, zs, h2, h3, h4⟩ := h
  exact ⟨h1, zs, h2, h3, ((Tw.refl b b w).set (p := ⟨b, i, none⟩) (.inl rfl) u).row h4 (by omega) (by omega)⟩
set_option maxHeartbeats 1600000 in
theorem StartBoard_any (P : Nat) (c h s : Int) (w : World) (hv : vrB P c h s = true) (hP : 4 ≤ P) :
    Calls Try.prog 62 #[vrV P c h s] w fun e w' => ∃ g1 g2, e = .returned (.tuple #[bdV (some ⟨g1, 0, none⟩) (P + 1) (P + 1) (some ⟨g2, 0, none⟩) (P + 1) (P + 1), .bool true]) ∧ SdAt w' w.heap.size g1 (P + 1) 15 ∧ SdAt w' w.heap.size g2 (P + 1) 15 ∧ Below w.heap.size w w' := by
  have hb0 := (((Below.refl w.heap.size w).alloc (Nat.le_refl _) (.cells #[.int .i64 (P : Int), .int .i64 c, .int .i64 h, .int .i64 s] 30)).alloc (by simp) (.cells #[.slice none 0 0, .slice none 0 0] 32))
  have R0 := Lib.hid ((vr4_new w (.int .i64 (P : Int)) (.int .i64 c) (.int .i64 h) (.int .i64 s) 30).alloc (.cells #[.slice none 0 0, .slice none 0 0] 32))
  have Q0 := Lib.hid (pr_new (w.alloc (.cells #[.int .i64 (P : Int), .int .i64 c, .int .i64 h, .int .i64 s] 30)) (.slice none 0 0) (.slice none 0 0) 32)
  rw [World.size_alloc] at Q0
  have HV := Lib.hid hv
  have hP' : ¬ ((P : Int) < 4) := by omega
  clear hv
  go_enter Try.func62, Try.ntmps62
  go_wp2_with fail
  refine (spec_IsVariant_any _ _ _ _ _).mono ?_
  rw [HV.out]
  rintro e w1 ⟨rfl, hb⟩
  have R1 := Lib.hid (rowIs_below R0.out hb R0.out.lt)
  have Q1 := Lib.hid (rowIs_below Q0.out hb Q0.out.lt)
  have B1 := Lib.hid (hb0.trans (hb.mono hb0.size))
  clear hb hb0 R0 Q0
  obtain ⟨v0, v1, v2, v3⟩ := vr4_cells R1.out
  have R1d : Hid (w1.drew.rowIs w.heap.size 30 4 (vr4 (.int .i64 (P : Int)) (.int .i64 c) (.int .i64 h) (.int .i64 s))) := Lib.hid R1.out
  have Q1d : Hid (w1.drew.rowIs (w.heap.size + 1) 32 2 (pr (.slice none 0 0) (.slice none 0 0))) := Lib.hid Q1.out
  have B1d := Lib.hid (below_drewN B1.out 1)
  have z1d : w.heap.size ≤ w1.drew.heap.size := B1.out.size
  have z1e : w.heap.size + 1 < w1.drew.heap.size := Q1.out.lt
  go_wp2_with fail
  go_region_held3 (fun w' => w'.cell? ⟨w.heap.size, 0, none⟩ = some (.int .i64 (P : Int)) ∧ w'.cell? ⟨w.heap.size, 1, none⟩ = some (.int .i64 c) ∧ w'.cell? ⟨w.heap.size, 2, none⟩ = some (.int .i64 h) ∧ w'.cell? ⟨w.heap.size, 3, none⟩ = some (.int .i64 s))
    (first | go_keep)
    (first
      | (go_at_call 69; (with_reducible refine (l02Start_any P c h s w1.drew HV.out hP).mono ?_); rintro e w2 ⟨g1, rfl, hA, hb⟩; have R2 := Lib.hid (rowIs_below R1d.out hb R1d.out.lt); have Q2 := Lib.hid (rowIs_below Q1d.out hb Q1d.out.lt); have A2 := Lib.hid hA; have B2 := Lib.hid (B1d.out.trans (hb.mono B1d.out.size)); have z2 := hb.size; obtain ⟨y0, y1, y2, y3⟩ := vr4_cells R2.out; clear hb hA)
      | (go_at_call 69; (with_reducible refine (l02Start_any P c h s w2 HV.out hP).mono ?_); rintro e w3 ⟨g2, rfl, hA, hb⟩; have R3 := Lib.hid (rowIs_below R2.out hb R2.out.lt); have Q3 := Lib.hid (rowIs_below Q2.out hb Q2.out.lt); have A3 := Lib.hid (A2.out.below hb); have C3 := Lib.hid hA; have B3 := Lib.hid (B2.out.trans (hb.mono B2.out.size)); obtain ⟨x0, x1, x2, x3⟩ := vr4_cells R3.out; obtain ⟨f0, f1⟩ := pr_froz Q3.out; obtain ⟨q0, q1⟩ := pr_cells Q3.out; have lq := Q3.out.lt; clear hb hA))
  all_goals
    have g1w : w.heap.size + 1 < g1 := by have := A2.out.1; omega
    have g2w : w.heap.size + 1 < g2 := by have := C3.out.1; omega
    go_wp2
    obtain ⟨p0, p1⟩ := pr_cells (pr_set Q3.out (.slice (some ⟨g1, 0, none⟩) (P + 1) (P + 1)) (.slice (some ⟨g2, 0, none⟩) (P + 1) (P + 1)))
    refine bodyPost_ret (v := .tuple #[bdV (some ⟨g1, 0, none⟩) (P + 1) (P + 1) (some ⟨g2, 0, none⟩) (P + 1) (P + 1), .bool true]) (by simp [results, Try.results62, go_sem, p0, p1]) rfl ⟨g1, g2, rfl, ?_, ?_, ?_⟩
    · exact (((A3.out.lower z1d).setO (by omega) _).setO (by omega) _)
    · exact (((C3.out.lower (by omega)).setO (by omega) _).setO (by omega) _)
    · exact (B3.out.setCell (by show w.heap.size ≤ w.heap.size + 1; omega) _).setCell (by show w.heap.size ≤ w.heap.size + 1; omega) _

/-- a board that was drawn -/
def BdgPost (w0 : World) (gs : Nat) (a : Option Addr) (nn cc : Nat) (xs : List Int) (w : World) (e : Ending) (w' : World) : Prop :=
  ∃ (g1 m d : Nat) (ys : List Int) (g2 q f : Nat) (zs : List Int), e = .returned (bdV (some ⟨g1, 0, none⟩) m d (some ⟨g2, 0, none⟩) q f) ∧ m ≤ 100 ∧ q ≤ 100 ∧ m ≤ d ∧ Iv w' w.heap.size (some ⟨g1, 0, none⟩) m ys ∧ Iv w' w.heap.size (some ⟨g2, 0, none⟩) q zs ∧ Drawing w0 gs a nn cc xs w' ∧ w.grownBy w' (some gs)
set_option maxRecDepth 16000 in
set_option maxHeartbeats 3200000 in
theorem l02Draw_dr (w0 : World) (gs : Nat) (a : Option Addr) (nn cc : Nat) (xs : List Int) (P : Nat) (c h s : Int) (w : World) (hd : Drawing w0 gs a nn cc xs w) (hv : vrB P c h s = true) :
    Calls Try.prog 49 #[.pointer (some ⟨gs, 0, none⟩), vrV P c h s] w fun e w' => BdgPost w0 gs a nn cc xs w e w' := by
  have NX := Lib.hid (fun m W hm hD => next_dr m w0 gs a nn cc xs W hD hm)
  have hlt := hd.lt
  have P24 : P ≤ 24 := by have := vrB_true.1 hv; omega
  have hb0 := (((Below.refl w.heap.size w).alloc (Nat.le_refl _) (.cells #[.int .i64 (P : Int), .int .i64 c, .int .i64 h, .int .i64 s] 30)).alloc (by simp) (.cells #[.slice none 0 0, .slice none 0 0] 32))
  have R0 := Lib.hid ((vr4_new w (.int .i64 (P : Int)) (.int .i64 c) (.int .i64 h) (.int .i64 s) 30).alloc (.cells #[.slice none 0 0, .slice none 0 0] 32))
  have Q0 := Lib.hid (pr_new (w.alloc (.cells #[.int .i64 (P : Int), .int .i64 c, .int .i64 h, .int .i64 s] 30)) (.slice none 0 0) (.slice none 0 0) 32)
  rw [World.size_alloc] at Q0
  have D0 := Lib.hid (hd.after hb0)
  have G0 := Lib.hid (grown_al (grown_al (by_refl w (some gs)) (.cells #[.int .i64 (P : Int), .int .i64 c, .int .i64 h, .int .i64 s] 30)) (.cells #[.slice none 0 0, .slice none 0 0] 32))
  have HV := Lib.hid hv
  clear hv hd hb0
  go_enter Try.func49, Try.ntmps49
  go_wp2_with fail
  refine (NX.out 4 _ (by omega) D0.out).mono ?_
  rintro e w1 ⟨u, rfl, u1, u2, hd1, hg1⟩
  have R1 := Lib.hid (R0.out.of_block (hg1.block _ R0.out.lt (fun e => by cases e; omega)))
  have Q1 := Lib.hid (Q0.out.of_block (hg1.block _ Q0.out.lt (fun e => by cases e; omega)))
  have D1 := Lib.hid hd1
  have G1 := Lib.hid (by_trans G0.out hg1)
  have z1 : w.heap.size + 1 < w1.heap.size := Q1.out.lt
  clear u1 u2 hd1 hg1 R0 Q0 D0 G0
  obtain ⟨v0, v1, v2, v3⟩ := vr4_cells R1.out
  by_cases hst : u = 0 ∧ 4 ≤ P
  · obtain ⟨rfl, hP⟩ := hst
    have hP' : (4 : Int) ≤ (P : Int) := by omega
    go_wp2_with fail
    refine (StartBoard_any P c h s w1 HV.out hP).mono ?_
    rintro e w2 ⟨g1, g2, rfl, hA, hC, hb⟩
    have Q2 := Lib.hid ((rowIs_below Q1.out hb Q1.out.lt).alloc (.cells #[.slice (some ⟨g1, 0, none⟩) (P + 1) (P + 1), .slice (some ⟨g2, 0, none⟩) (P + 1) (P + 1)] 32))
    have D2 := Lib.hid ((D1.out.after hb).alloc (.cells #[.slice (some ⟨g1, 0, none⟩) (P + 1) (P + 1), .slice (some ⟨g2, 0, none⟩) (P + 1) (P + 1)] 32))
    have G2 := Lib.hid (grown_al (grown_be G1.out hb (by omega)) (.cells #[.slice (some ⟨g1, 0, none⟩) (P + 1) (P + 1), .slice (some ⟨g2, 0, none⟩) (P + 1) (P + 1)] 32))
    have A2 := Lib.hid (hA.below ((Below.refl _ _).alloc (Nat.le_refl _) (.cells #[.slice (some ⟨g1, 0, none⟩) (P + 1) (P + 1), .slice (some ⟨g2, 0, none⟩) (P + 1) (P + 1)] 32)))
    have C2 := Lib.hid (hC.below ((Below.refl _ _).alloc (Nat.le_refl _) (.cells #[.slice (some ⟨g1, 0, none⟩) (P + 1) (P + 1), .slice (some ⟨g2, 0, none⟩) (P + 1) (P + 1)] 32)))
    have z2 := hb.size
    have k1 : w.heap.size + 1 ≠ g1 := by have := hA.1; omega
    have k2 : w.heap.size + 1 ≠ g2 := by have := hC.1; omega
    clear hA hC hb v0 v1 v2 v3
    obtain ⟨f0, f1⟩ := pr_froz Q2.out
    obtain ⟨q0, q1⟩ := pr_cells Q2.out
    go_wp2
    obtain ⟨p0, p1⟩ := pr_cells (pr_set Q2.out (.slice (some ⟨g1, 0, none⟩) (P + 1) (P + 1)) (.slice (some ⟨g2, 0, none⟩) (P + 1) (P + 1)))
    obtain ⟨ys, _, _, hy⟩ := ((((A2.out.lower (base' := w.heap.size) (by omega)).setO (b := w.heap.size + 1) (i := 0) k1 (.slice (some ⟨g1, 0, none⟩) (P + 1) (P + 1))).setO (b := w.heap.size + 1) (i := 1) k1 (.slice (some ⟨g2, 0, none⟩) (P + 1) (P + 1)))).iv (by omega)
    obtain ⟨zs, _, _, hz⟩ := ((((C2.out.lower (base' := w.heap.size) (by omega)).setO (b := w.heap.size + 1) (i := 0) k2 (.slice (some ⟨g1, 0, none⟩) (P + 1) (P + 1))).setO (b := w.heap.size + 1) (i := 1) k2 (.slice (some ⟨g2, 0, none⟩) (P + 1) (P + 1)))).iv (by omega)
    refine bodyPost_ret (v := bdV (some ⟨g1, 0, none⟩) (P + 1) (P + 1) (some ⟨g2, 0, none⟩) (P + 1) (P + 1)) (by simp [results, Try.results49, go_sem, p0, p1]) rfl ⟨g1, _, _, ys, g2, _, _, zs, rfl, by omega, by omega, Nat.le_refl _, hy, hz, ?_, ?_⟩
    · exact (D2.out.setB (by show gs < w.heap.size + 1; omega) _).setB (by show gs < w.heap.size + 1; omega) _
    · exact grown_se (grown_se G2.out (by show w.heap.size ≤ w.heap.size + 1; omega) _) (by show w.heap.size ≤ w.heap.size + 1; omega) _
  · have hcc : (u == 0) = false ∨ (u = 0 ∧ ¬ (4 : Int) ≤ (P : Int)) := by
      by_cases hu : u = 0
      · exact .inr ⟨hu, fun h4 => hst ⟨hu, by omega⟩⟩
      · exact .inl (by simpa using hu)
    have R1d : Hid (w1.drew.rowIs w.heap.size 30 4 (vr4 (.int .i64 (P : Int)) (.int .i64 c) (.int .i64 h) (.int .i64 s))) := Lib.hid R1.out
    have Q1d : Hid (w1.drew.rowIs (w.heap.size + 1) 32 2 (pr (.slice none 0 0) (.slice none 0 0))) := Lib.hid Q1.out
    have D1d := Lib.hid (show Drawing w0 gs a nn cc xs w1.drew from D1.out.drw 1)
    have G1d := Lib.hid (by_drew G1.out)
    have z1d : w.heap.size + 1 < w1.drew.heap.size := z1
    clear hst
    rcases hcc with hcc | ⟨rfl, hcc⟩
    all_goals
      go_wp2_with fail
      go_region_held3 (fun w' => w'.cell? ⟨w.heap.size, 0, none⟩ = some (.int .i64 (P : Int)) ∧ w'.cell? ⟨w.heap.size, 1, none⟩ = some (.int .i64 c) ∧ w'.cell? ⟨w.heap.size, 2, none⟩ = some (.int .i64 h) ∧ w'.cell? ⟨w.heap.size, 3, none⟩ = some (.int .i64 s))
        (first | go_keep)
        (first
          | (go_at_call 64; refine (l02Empty_any P c h s (P + 1) w1.drew (by omega) (by omega)).mono ?_; rintro e w2 ⟨g0, rfl, hg0, hr0, hb⟩; have R2 := Lib.hid (rowIs_below R1d.out hb R1d.out.lt); have Q2 := Lib.hid (rowIs_below Q1d.out hb Q1d.out.lt); have D2 := Lib.hid (D1d.out.after hb); have G2 := Lib.hid (grown_be G1d.out hb (by omega)); have z2 := hb.size; have l0 := hr0.lt; obtain ⟨y0, y1, y2, y3⟩ := vr4_cells R2.out; obtain ⟨ts, _, _, hts⟩ := (SdAt.zero (M := 0) hr0 (show w.heap.size ≤ g0 by omega) (by omega)).iv (by omega); have T2 := Lib.hid hts; clear hb hr0 hts)
          | (go_at_call 63; refine (l02DrawSide_dr w0 gs a nn cc xs P c h s _ _ ts w2 D2.out HV.out ⟨w.heap.size, g0, hlt, l0, rfl, T2.out⟩).mono ?_; rintro e w3 ⟨g1, rfl, hA, hd3, hg3⟩; have R3 := Lib.hid (R2.out.of_block (hg3.block _ R2.out.lt (fun e => by cases e; omega))); have Q3 := Lib.hid (Q2.out.of_block (hg3.block _ Q2.out.lt (fun e => by cases e; omega))); have D3 := Lib.hid hd3; have G3 := Lib.hid (by_trans G2.out hg3); have z3 := hg3.size; have A3 := Lib.hid hA; obtain ⟨x0, x1, x2, x3⟩ := vr4_cells R3.out; clear hA hd3 hg3))
      all_goals
        obtain ⟨ys, ly, by1, hys⟩ := (A3.out.lower (base' := w.heap.size) (by omega)).iv (by omega)
        have T3 := Lib.hid hys
        have l1 : g1 < w3.heap.size := by
          obtain ⟨b', o', e', hb', _⟩ := hys.1.2 (by omega)
          cases e'; exact hb'
        go_wp2_with fail
        refine (l02DrawSide_dr w0 gs a nn cc xs P c h s _ _ ys w3 D3.out HV.out ⟨w.heap.size, g1, hlt, l1, rfl, T3.out⟩).mono ?_
        rintro e w4 ⟨g2, rfl, hC, hd4, hg4⟩
        have Q4 := Lib.hid (Q3.out.of_block (hg4.block _ Q3.out.lt (fun e => by cases e; omega)))
        have D4 := Lib.hid hd4
        have G4 := Lib.hid (by_trans G3.out hg4)
        have z4 := hg4.size
        have A4 := Lib.hid ((A3.out.lower (base' := w.heap.size) (by omega)).grown hg4 hlt)
        have C4 := Lib.hid (hC.lower (base' := w.heap.size) (by omega))
        have k12 : g1 ≠ g2 := by have := hC.1; omega
        have k1 : w.heap.size + 1 ≠ g1 := by have := A3.out.1; omega
        have k2 : w.heap.size + 1 ≠ g2 := by have := hC.1; omega
        obtain ⟨ya, la, ba, ha⟩ := A4.out.iv (by omega)
        obtain ⟨yb, lb, bb, hbv⟩ := C4.out.iv (by omega)
        have S1 := Lib.hid (l02Sum_any _ (P + 1) (P + 1) _ ya w4 15 ha.1 ba (by omega) (by omega) (by omega))
        have S2 := Lib.hid (l02Sum_any _ (P + 1) (P + 1) _ yb w4 15 hbv.1 bb (by omega) (by omega) (by omega))
        have b1 := psum_bd ya 15 (P + 1) (fun i hi => by have := ba i hi; omega)
        have b2 := psum_bd yb 15 (P + 1) (fun i hi => by have := bb i hi; omega)
        obtain ⟨sa, hsa⟩ : ∃ x, psum ya (P + 1) = x := ⟨_, rfl⟩
        obtain ⟨sb, hsb⟩ : ∃ x, psum yb (P + 1) = x := ⟨_, rfl⟩
        rw [hsa] at S1 b1
        rw [hsb] at S2 b2
        have c1 : -1000 ≤ sa := by omega
        have c2 : sa ≤ 1000 := by omega
        have c3 : -1000 ≤ sb := by omega
        have c4 : sb ≤ 1000 := by omega
        clear hC hd4 hg4 hsa hsb b1 b2 ha hbv hys ba bb by1
        obtain ⟨f0, f1⟩ := pr_froz Q4.out
        obtain ⟨q0, q1⟩ := pr_cells Q4.out
        obtain ⟨z, z0, z15, cz, fz⟩ := A4.out.cell (i := 0) (by omega)
        by_cases h0 : sa + sb = 0
        · have e0 : (sa + sb == 0) = true := by simpa using h0
          have A5 := Lib.hid (A4.out.put (i := 0) (by omega) (u := 1) (by omega) (by omega))
          have C5 := Lib.hid (C4.out.setO (b := g1) (i := 0) k12 (.int .i64 1))
          have Q5 := Lib.hid (Q4.out.setOther (a := ⟨g1, 0, none⟩) k1 (.int .i64 1))
          have D5 := Lib.hid (D4.out.setB (p := ⟨g1, 0, none⟩) (by show gs < g1; have := A4.out.1; omega) (.int .i64 1))
          have G5 := Lib.hid (grown_se G4.out (p := ⟨g1, 0, none⟩) (by show w.heap.size ≤ g1; exact A4.out.1) (.int .i64 1))
          clear h0
          go_wp2_with (first | (go_at_call 36; (with_reducible refine S1.out.mono ?_); rintro e w' ⟨rfl, rfl⟩) | (go_at_call 36; (with_reducible refine S2.out.mono ?_); rintro e w' ⟨rfl, rfl⟩))
          obtain ⟨p0, p1⟩ := pr_cells (pr_set Q5.out (.slice (some ⟨g1, 0, none⟩) (P + 1) (P + 1)) (.slice (some ⟨g2, 0, none⟩) (P + 1) (P + 1)))
          obtain ⟨yf, _, _, hy⟩ := ((A5.out.setO (b := w.heap.size + 1) (i := 0) k1 (.slice (some ⟨g1, 0, none⟩) (P + 1) (P + 1))).setO (b := w.heap.size + 1) (i := 1) k1 (.slice (some ⟨g2, 0, none⟩) (P + 1) (P + 1))).iv (by omega)
          obtain ⟨zf, _, _, hz⟩ := ((C5.out.setO (b := w.heap.size + 1) (i := 0) k2 (.slice (some ⟨g1, 0, none⟩) (P + 1) (P + 1))).setO (b := w.heap.size + 1) (i := 1) k2 (.slice (some ⟨g2, 0, none⟩) (P + 1) (P + 1))).iv (by omega)
          refine bodyPost_ret (v := bdV (some ⟨g1, 0, none⟩) (P + 1) (P + 1) (some ⟨g2, 0, none⟩) (P + 1) (P + 1)) (by simp [results, Try.results49, go_sem, p0, p1]) rfl ⟨g1, _, _, yf, g2, _, _, zf, rfl, by omega, by omega, Nat.le_refl _, hy, hz, ?_, ?_⟩
          · exact (D5.out.setB (by show gs < w.heap.size + 1; omega) _).setB (by show gs < w.heap.size + 1; omega) _
          · exact grown_se (grown_se G5.out (by show w.heap.size ≤ w.heap.size + 1; omega) _) (by show w.heap.size ≤ w.heap.size + 1; omega) _
        · have e0 : (sa + sb == 0) = false := by simpa using h0
          clear h0
          go_wp2_with (first | (go_at_call 36; (with_reducible refine S1.out.mono ?_); rintro e w' ⟨rfl, rfl⟩) | (go_at_call 36; (with_reducible refine S2.out.mono ?_); rintro e w' ⟨rfl, rfl⟩))
          obtain ⟨p0, p1⟩ := pr_cells (pr_set Q4.out (.slice (some ⟨g1, 0, none⟩) (P + 1) (P + 1)) (.slice (some ⟨g2, 0, none⟩) (P + 1) (P + 1)))
          obtain ⟨yf, _, _, hy⟩ := ((A4.out.setO (b := w.heap.size + 1) (i := 0) k1 (.slice (some ⟨g1, 0, none⟩) (P + 1) (P + 1))).setO (b := w.heap.size + 1) (i := 1) k1 (.slice (some ⟨g2, 0, none⟩) (P + 1) (P + 1))).iv (by omega)
          obtain ⟨zf, _, _, hz⟩ := ((C4.out.setO (b := w.heap.size + 1) (i := 0) k2 (.slice (some ⟨g1, 0, none⟩) (P + 1) (P + 1))).setO (b := w.heap.size + 1) (i := 1) k2 (.slice (some ⟨g2, 0, none⟩) (P + 1) (P + 1))).iv (by omega)
          refine bodyPost_ret (v := bdV (some ⟨g1, 0, none⟩) (P + 1) (P + 1) (some ⟨g2, 0, none⟩) (P + 1) (P + 1)) (by simp [results, Try.results49, go_sem, p0, p1]) rfl ⟨g1, _, _, yf, g2, _, _, zf, rfl, by omega, by omega, Nat.le_refl _, hy, hz, ?_, ?_⟩
          · exact (D4.out.setB (by show gs < w.heap.size + 1; omega) _).setB (by show gs < w.heap.size + 1; omega) _
          · exact grown_se (grown_se G4.out (by show w.heap.size ≤ w.heap.size + 1; omega) _) (by show w.heap.size ≤ w.heap.size + 1; omega) _
end Go.Proofs.Ytjfmpnkbocilpaa
