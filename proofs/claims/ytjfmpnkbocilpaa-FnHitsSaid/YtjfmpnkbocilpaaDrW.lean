/-
  The draws of variants with boards: l22Draw, l22DrawAny and what calls it.
-/
import Derived.Test.YtjfmpnkbocilpaaDrE
namespace Go.Proofs.Ytjfmpnkbocilpaa
open Go.ChangeShapes Go.WideShapes Go.ChangeAt Go.RowKit
set_option linter.unusedVariables false

/-- a variant with a board -/
def VbPost (w0 : World) (gs : Nat) (a : Option Addr) (nn cc : Nat) (xs : List Int) (w : World) (e : Ending) (w' : World) : Prop :=
  ∃ (p c h s : Int) (A : Option Addr) (m d : Nat) (ys : List Int) (B : Option Addr) (q f : Nat) (zs : List Int), e = .returned (.tuple #[vrV p c h s, bdV A m d B q f]) ∧ m ≤ 200 ∧ q ≤ 200 ∧ Iv w' w.heap.size A m ys ∧ Iv w' w.heap.size B q zs ∧ Drawing w0 gs a nn cc xs w' ∧ w.grownBy w' (some gs)
theorem Iv.put0 {w : World} {lo m b i : Nat} {A : Option Addr} {ys : List Int} (h : Iv w lo A m ys) {u : Value} (hb : 0 < m → ∀ b' o t, A = some ⟨b', o, t⟩ → b' ≠ b) : Iv (w.setCell ⟨b, i, none⟩ u) lo A m ys := by
  obtain ⟨⟨h1, h2⟩, h3⟩ := h
  refine ⟨⟨h1, fun hm => ?_⟩, h3⟩
  obtain ⟨b', off, hA, hb', hc⟩ := h2 hm
  refine ⟨b', off, hA, by rw [World.size_setCell]; exact hb', fun j hj => ?_⟩
  rw [World.cell?_setCell_far _ _ _ _ (by show b ≠ b'; exact fun e => hb hm b' off none hA e.symm)]
  exact hc j hj
theorem pr_one {w : World} {g t : Nat} {p q : Value} (h : w.rowIs g t 2 (pr p q)) (u : Value) : (w.setCell ⟨g, 0, none⟩ u).rowIs g t 2 (pr u q) :=
  (h.set 0 u).congr fun i hi => by
    match i, hi with
    | 0, _ => rfl
    | 1, _ => rfl
theorem Iv.drw {w : World} {lo m : Nat} {A : Option Addr} {ys : List Int} (h : Iv w lo A m ys) : Iv w.drew lo A m ys := h
theorem vr4_one {w : World} {g t : Nat} {p q r s : Value} (h : w.rowIs g t 4 (vr4 p q r s)) (u : Value) : (w.setCell ⟨g, 1, none⟩ u).rowIs g t 4 (vr4 p u r s) :=
  (h.set 1 u).congr fun i hi => by
    match i, hi with
    | 0, _ => rfl
    | 1, _ => rfl
    | 2, _ => rfl
    | 3, _ => rfl
theorem Iv.far2 {w w' : World} {b1 b2 lo m : Nat} {A : Option Addr} {ys : List Int} (h : Iv w lo A m ys) (tw : Tw b1 b2 w w') (hb : b1 < lo) (hb2 : b2 < lo) : Iv w' lo A m ys := by
  obtain ⟨⟨h1, h2⟩, h3⟩ := h
  refine ⟨⟨h1, fun hm => ?_⟩, h3⟩
  obtain ⟨b', off, hA, hb', hc⟩ := h2 hm
  have hlo := h3 b' off none hA
  exact ⟨b', off, hA, by rw [tw.size]; exact hb', fun j hj => (World.cell?_of_block (w := w) (a := ⟨b', off + j, none⟩) (tw.block b' (by omega) (by omega))).trans (hc j hj)⟩
theorem Tw.grown {b1 b2 g : Nat} {w0 w w' : World} (tw : Tw b1 b2 w w') (h : w0.grownBy w (some g)) (h1 : w0.heap.size ≤ b1) (h2 : w0.heap.size ≤ b2) : w0.grownBy w' (some g) := grown_be h (tw.below h1 h2) (Nat.le_refl _)
/-- the last six stores: a variant and a board into the result's cells -/
theorem six_tw (b1 b2 : Nat) (w : World) (x0 x1 x2 x3 x4 x5 : Value) : Tw b1 b2 w ((((((w.setCell ⟨b1, 0, none⟩ x0).setCell ⟨b1, 1, none⟩ x1).setCell ⟨b1, 2, none⟩ x2).setCell ⟨b1, 3, none⟩ x3).setCell ⟨b2, 0, none⟩ x4).setCell ⟨b2, 1, none⟩ x5) :=
  ((((((Tw.refl b1 b2 w).set (.inl rfl) _).set (.inl rfl) _).set (.inl rfl) _).set (.inl rfl) _).set (.inr rfl) _).set (.inr rfl) _
theorem six_cells {w : World} {b1 b2 t1 t2 : Nat} {f g : Nat → Value} (h1 : w.rowIs b1 t1 4 f) (h2 : w.rowIs b2 t2 2 g) (hne : b1 ≠ b2) (x0 x1 x2 x3 x4 x5 : Value) :
    let W := ((((((w.setCell ⟨b1, 0, none⟩ x0).setCell ⟨b1, 1, none⟩ x1).setCell ⟨b1, 2, none⟩ x2).setCell ⟨b1, 3, none⟩ x3).setCell ⟨b2, 0, none⟩ x4).setCell ⟨b2, 1, none⟩ x5)
    (W.cell? ⟨b1, 0, none⟩ = some x0 ∧ W.cell? ⟨b1, 1, none⟩ = some x1 ∧ W.cell? ⟨b1, 2, none⟩ = some x2 ∧ W.cell? ⟨b1, 3, none⟩ = some x3) ∧ W.cell? ⟨b2, 0, none⟩ = some x4 ∧ W.cell? ⟨b2, 1, none⟩ = some x5 := by
  have k1 := ((vr4_set h1 x0 x1 x2 x3).setOther (a := ⟨b2, 0, none⟩) hne x4).setOther (a := ⟨b2, 1, none⟩) hne x5
  have k2 := pr_set ((((h2.setOther (a := ⟨b1, 0, none⟩) (fun e => hne e.symm) x0).setOther (a := ⟨b1, 1, none⟩) (fun e => hne e.symm) x1).setOther (a := ⟨b1, 2, none⟩) (fun e => hne e.symm) x2).setOther (a := ⟨b1, 3, none⟩) (fun e => hne e.symm) x3) x4 x5
  exact ⟨vr4_cells k1, pr_cells k2⟩
set_option maxRecDepth 16000 in
set_option maxHeartbeats 3200000 in
theorem l22Draw_dr (w0 : World) (gs : Nat) (a : Option Addr) (nn cc : Nat) (xs : List Int) (w : World) (hd : Drawing w0 gs a nn cc xs w) :
    Calls Try.prog 29 #[.pointer (some ⟨gs, 0, none⟩)] w fun e w' => VbPost w0 gs a nn cc xs w e w' := by
  have NX := Lib.hid (fun m W hm hD => next_dr m w0 gs a nn cc xs W hD hm)
  have hlt := hd.lt
  have hb0 := (((Below.refl w.heap.size w).alloc (Nat.le_refl _) (.cells #[.int .i64 0, .int .i64 0, .int .i64 0, .int .i64 0] 30)).alloc (by simp) (.cells #[.slice none 0 0, .slice none 0 0] 32))
  have R0 := Lib.hid ((vr4_new w (.int .i64 0) (.int .i64 0) (.int .i64 0) (.int .i64 0) 30).alloc (.cells #[.slice none 0 0, .slice none 0 0] 32))
  have Q0 := Lib.hid (pr_new (w.alloc (.cells #[.int .i64 0, .int .i64 0, .int .i64 0, .int .i64 0] 30)) (.slice none 0 0) (.slice none 0 0) 32)
  rw [World.size_alloc] at Q0
  have D0 := Lib.hid (hd.after hb0)
  have G0 := Lib.hid (grown_al (grown_al (by_refl w (some gs)) (.cells #[.int .i64 0, .int .i64 0, .int .i64 0, .int .i64 0] 30)) (.cells #[.slice none 0 0, .slice none 0 0] 32))
  clear hd hb0
  go_enter Try.func29, Try.ntmps29
  go_wp2_with fail
  refine (l01DrawSmall_dr w0 gs a nn cc xs _ D0.out).mono ?_
  rintro e w1 ⟨P0, c, h, s, rfl, hv, hd1, hg1⟩
  obtain ⟨P, rfl⟩ := Int.eq_ofNat_of_zero_le (show 0 ≤ P0 by have := vrB_true.1 hv; omega)
  have R1 := Lib.hid ((R0.out.of_block (hg1.block _ R0.out.lt (fun e => by injection e with e; omega))).alloc (.cells #[.int .i64 (P : Int), .int .i64 c, .int .i64 h, .int .i64 s] 30))
  have Q1 := Lib.hid ((Q0.out.of_block (hg1.block _ Q0.out.lt (fun e => by injection e with e; omega))).alloc (.cells #[.int .i64 (P : Int), .int .i64 c, .int .i64 h, .int .i64 s] 30))
  have V1 := Lib.hid (vr4_new w1 (.int .i64 (P : Int)) (.int .i64 c) (.int .i64 h) (.int .i64 s) 30)
  have D1 := Lib.hid (hd1.alloc (.cells #[.int .i64 (P : Int), .int .i64 c, .int .i64 h, .int .i64 s] 30))
  have G1 := Lib.hid (grown_al (by_trans G0.out hg1) (.cells #[.int .i64 (P : Int), .int .i64 c, .int .i64 h, .int .i64 s] 30))
  have z1 := hg1.size
  simp only [World.size_alloc] at z1
  have HV := Lib.hid hv
  clear hv hd1 hg1 R0 Q0 D0 G0
  obtain ⟨v0, v1, v2, v3⟩ := vr4_cells V1.out
  go_wp2_with fail
  refine (l02Draw_dr w0 gs a nn cc xs P c h s _ D1.out HV.out).mono ?_
  rintro e w2 ⟨g1, m, d, ys, g2, q, f, zs, rfl, hm, hq, hmd, hA, hB, hd2, hg2⟩
  have z2 := hg2.size
  simp only [World.size_alloc] at z2 hA hB
  have R2 := Lib.hid ((R1.out.of_block (hg2.block _ R1.out.lt (fun e => by injection e with e; omega))).alloc (.cells #[.slice (some ⟨g1, 0, none⟩) m d, .slice (some ⟨g2, 0, none⟩) q f] 32))
  have Q2 := Lib.hid ((Q1.out.of_block (hg2.block _ Q1.out.lt (fun e => by injection e with e; omega))).alloc (.cells #[.slice (some ⟨g1, 0, none⟩) m d, .slice (some ⟨g2, 0, none⟩) q f] 32))
  have V2 := Lib.hid ((V1.out.of_block (hg2.block _ V1.out.lt (fun e => by injection e with e; omega))).alloc (.cells #[.slice (some ⟨g1, 0, none⟩) m d, .slice (some ⟨g2, 0, none⟩) q f] 32))
  have B2 := Lib.hid (pr_new w2 (.slice (some ⟨g1, 0, none⟩) m d) (.slice (some ⟨g2, 0, none⟩) q f) 32)
  have D2 := Lib.hid (hd2.alloc (.cells #[.slice (some ⟨g1, 0, none⟩) m d, .slice (some ⟨g2, 0, none⟩) q f] 32))
  have G2 := Lib.hid (grown_al (by_trans G1.out hg2) (.cells #[.slice (some ⟨g1, 0, none⟩) m d, .slice (some ⟨g2, 0, none⟩) q f] 32))
  have A2 := Lib.hid (hA.below ((Below.refl _ _).alloc (Nat.le_refl _) (.cells #[.slice (some ⟨g1, 0, none⟩) m d, .slice (some ⟨g2, 0, none⟩) q f] 32)))
  have C2 := Lib.hid (hB.below ((Below.refl _ _).alloc (Nat.le_refl _) (.cells #[.slice (some ⟨g1, 0, none⟩) m d, .slice (some ⟨g2, 0, none⟩) q f] 32)))
  have hg2l : 0 < q → g2 < w2.heap.size := fun h0 => by
    obtain ⟨b', o', e', hb', _⟩ := hB.1.2 h0
    cases e'; exact hb'
  have hg1w : w1.heap.size + 1 ≤ g1 := hA.2 g1 0 none rfl
  have hg2w : w1.heap.size + 1 ≤ g2 := hB.2 g2 0 none rfl
  clear hA hB hd2 hg2 R1 Q1 V1 D1 G1 v0 v1 v2 v3
  go_wp2_with fail
  refine (NX.out 30 _ (by omega) D2.out).mono ?_
  rintro e w3 ⟨u, rfl, u1, u2, hd3, hg3⟩
  have R3 := Lib.hid (R2.out.of_block (hg3.block _ R2.out.lt (fun e => by injection e with e; omega)))
  have Q3 := Lib.hid (Q2.out.of_block (hg3.block _ Q2.out.lt (fun e => by injection e with e; omega)))
  have V3 := Lib.hid (V2.out.of_block (hg3.block _ V2.out.lt (fun e => by injection e with e; omega)))
  have B3 := Lib.hid (B2.out.of_block (hg3.block _ B2.out.lt (fun e => by injection e with e; omega)))
  have D3 := Lib.hid hd3
  have G3 := Lib.hid (by_trans G2.out hg3)
  have A3 := Lib.hid ((A2.out.lower (lo' := w.heap.size + 1 + 1) (by omega)).grown hg3 (by omega))
  have C3 := Lib.hid ((C2.out.lower (lo' := w.heap.size + 1 + 1) (by omega)).grown hg3 (by omega))
  have z3 := hg3.size
  simp only [World.size_alloc] at z3
  have n1 : w.heap.size ≠ w.heap.size + 1 := by omega
  have n2 : w.heap.size ≠ w1.heap.size := by omega
  have n3 : w.heap.size ≠ w2.heap.size := by omega
  have n4 : w.heap.size + 1 ≠ w1.heap.size := by omega
  have n5 : w.heap.size + 1 ≠ w2.heap.size := by omega
  have n6 : w1.heap.size ≠ w2.heap.size := by omega
  clear u1 u2 hd3 hg3 R2 Q2 V2 B2 D2 G2 A2 C2
  by_cases s0 : u = 0
  · subst s0
    have HG := Lib.hid (Grows.new w3 w3.heap.size (Nat.le_refl _))
    have HB3 := Lib.hid ((Below.refl w3.heap.size w3).alloc (Nat.le_refl _) (.cells #[] 2))
    have LY := Lib.hid A3.out.1.len
    have HCC : Hid (∀ i, i < m → (w3.alloc (.cells #[] 2)).cell? ((⟨g1, 0, none⟩ : Addr).add i) = some (.int .i64 (ys.getD i 0))) := Lib.hid (fun i hi => by
      obtain ⟨b', o', e', hb', hc'⟩ := A3.out.1.2 (by omega)
      cases e'
      have e : (⟨g1, 0, none⟩ : Addr).add i = ⟨g1, i, none⟩ := by by_cases h0 : i = 0 <;> simp [Addr.add, h0]
      rw [e]
      have := hc' i hi
      rw [Nat.zero_add] at this
      exact (HB3.out.cell (p := ⟨g1, i, none⟩) hb').trans this)
    obtain ⟨b0, b1⟩ := pr_cells B3.out
    have zl : w2.heap.size < w3.heap.size := by omega
    go_wp2_with (first
      | (at_builtin; refine app_grows rfl (.tmp 15) (.tmp 17) rfl rfl HG.out ⟨g1, 0, none⟩ ys m d rfl LY.out.symm HCC.out (by simp; omega) (by simp) ?_; intro v5 w5 hg5 hb5; rw [List.nil_append] at hg5; have H5 := HB3.out.trans hb5; have z5 := H5.size)
      | (at_builtin; refine app_grows rfl (.tmp 18) (.tmp 19) rfl rfl (hg5.alloc _) ⟨w5.heap.size, 0, none⟩ [1] 1 1 rfl rfl (news1 (new_cell w5 #[.int .i64 1] 2 0)) (by rw [LY.out]; omega) (by simp; omega) ?_; intro v6 w6 hg6 hb6; have H6 := (H5.alloc (by omega) (.cells #[.int .i64 1] 2)).trans hb6; have B6 := Lib.hid (rowIs_below B3.out H6 B3.out.lt); obtain ⟨A6, d6, hv6, hi6⟩ := hg6.iv; have hl6 : (ys ++ [1]).length = m + 1 := (by rw [List.length_append, LY.out]; rfl); rw [hl6] at hv6 hi6; clear hl6; subst hv6; obtain ⟨c0, c1⟩ := pr_cells B6.out; obtain ⟨fc0, fc1⟩ := pr_froz B6.out; clear b0 b1))
    have z6 := H6.size
    have R6 := Lib.hid ((rowIs_below R3.out H6 R3.out.lt).setOther (a := ⟨w2.heap.size, 0, none⟩) n3 (.slice A6 (m + 1) d6))
    have Q6 := Lib.hid ((rowIs_below Q3.out H6 Q3.out.lt).setOther (a := ⟨w2.heap.size, 0, none⟩) n5 (.slice A6 (m + 1) d6))
    have V6 := Lib.hid ((rowIs_below V3.out H6 V3.out.lt).setOther (a := ⟨w2.heap.size, 0, none⟩) n6 (.slice A6 (m + 1) d6))
    have B7 := Lib.hid (pr_one B6.out (.slice A6 (m + 1) d6))
    have D6 := Lib.hid ((D3.out.keepB H6 (by omega)).setB (p := ⟨w2.heap.size, 0, none⟩) (by show gs < w2.heap.size; omega) (.slice A6 (m + 1) d6))
    have G6 := Lib.hid (grown_se (grown_be G3.out H6 (by omega)) (p := ⟨w2.heap.size, 0, none⟩) (by show w.heap.size ≤ w2.heap.size; omega) (.slice A6 (m + 1) d6))
    have A7 := Lib.hid ((hi6.lower (lo' := w.heap.size + 1 + 1) (by omega)).put0 (b := w2.heap.size) (i := 0) (u := (.slice A6 (m + 1) d6)) (fun _ b' o t e => by have := hi6.2 b' o t e; omega))
    have C7 := Lib.hid ((C3.out.below H6).put0 (b := w2.heap.size) (i := 0) (u := (.slice A6 (m + 1) d6)) (fun h0 b' o t e => by have := hg2l h0; injection e with e; injection e with e; omega))
    obtain ⟨v0, v1, v2, v3⟩ := vr4_cells V6.out
    obtain ⟨e0, e1⟩ := pr_cells B7.out
    obtain ⟨r0, r1, r2, r3⟩ := vr4_cells R6.out
    obtain ⟨fr0, fr1, fr2, fr3⟩ := vr4_froz R6.out
    obtain ⟨q0, q1⟩ := pr_cells Q6.out
    obtain ⟨fq0, fq1⟩ := pr_froz Q6.out
    clear c0 c1 fc0 fc1
    go_region
    go_wp2
    have six := six_cells (w := w6.setCell ⟨w2.heap.size, 0, none⟩ (.slice A6 (m + 1) d6)) R6.out Q6.out n1 (.int .i64 (P : Int)) (.int .i64 c) (.int .i64 h) (.int .i64 s) (.slice A6 (m + 1) d6) (.slice (some ⟨g2, 0, none⟩) q f)
    obtain ⟨⟨p0, p1, p2, p3⟩, p4, p5⟩ := six
    have tw := six_tw w.heap.size (w.heap.size + 1) (w6.setCell ⟨w2.heap.size, 0, none⟩ (.slice A6 (m + 1) d6)) (.int .i64 (P : Int)) (.int .i64 c) (.int .i64 h) (.int .i64 s) (.slice A6 (m + 1) d6) (.slice (some ⟨g2, 0, none⟩) q f)
    refine bodyPost_ret (v := .tuple #[vrV (P : Int) c h s, bdV A6 (m + 1) d6 (some ⟨g2, 0, none⟩) q f]) (by simp [results, Try.results29, go_sem, p0, p1, p2, p3, p4, p5]) rfl ⟨(P : Int), c, h, s, A6, m + 1, d6, ys ++ [1], some ⟨g2, 0, none⟩, q, f, zs, rfl, (by omega), (by omega), ((A7.out.far2 tw (by omega) (by omega)).lower (by omega)).drw, ((C7.out.far2 tw (by omega) (by omega)).lower (by omega)).drw, (D6.out.keepB (tw.below (B := w.heap.size) (Nat.le_refl _) (by omega)) hlt).drw 1, by_drew (tw.grown G6.out (Nat.le_refl _) (by omega))⟩
  have t0 : (u == 0) = false := by simpa using s0
  by_cases s1 : u = 1
  · subst s1
    clear s0 t0
    have l3 := D3.out.lt
    have D4 := Lib.hid (D3.out.alloc (.cells #[.int .i64 0, .int .i64 16] 2))
    go_wp2_with fail
    refine (NX.out 2 _ (by omega) D4.out).mono ?_
    rintro e w5 ⟨t, rfl, t1, t2, hd5, hg5⟩
    obtain ⟨T, rfl⟩ := Int.eq_ofNat_of_zero_le t1
    have hT : T < 2 := by omega
    obtain ⟨v, hv⟩ : ∃ v : Int, w5.cell? ⟨w3.heap.size, T, none⟩ = some (.int .i64 v) := by
      have hc := new_kept hg5 l3 T
      match T, hT with
      | 0, _ => exact ⟨_, hc⟩
      | 1, _ => exact ⟨_, hc⟩
    have z5 := hg5.size
    simp only [World.size_alloc] at z5
    have R5 := Lib.hid ((R3.out.alloc (.cells #[.int .i64 0, .int .i64 16] 2)).of_block (hg5.block _ (R3.out.alloc (.cells #[.int .i64 0, .int .i64 16] 2)).lt (fun e => by injection e with e; omega)))
    have Q5 := Lib.hid ((Q3.out.alloc (.cells #[.int .i64 0, .int .i64 16] 2)).of_block (hg5.block _ (Q3.out.alloc (.cells #[.int .i64 0, .int .i64 16] 2)).lt (fun e => by injection e with e; omega)))
    have V5 := Lib.hid ((V3.out.alloc (.cells #[.int .i64 0, .int .i64 16] 2)).of_block (hg5.block _ (V3.out.alloc (.cells #[.int .i64 0, .int .i64 16] 2)).lt (fun e => by injection e with e; omega)))
    have B5 := Lib.hid ((B3.out.alloc (.cells #[.int .i64 0, .int .i64 16] 2)).of_block (hg5.block _ (B3.out.alloc (.cells #[.int .i64 0, .int .i64 16] 2)).lt (fun e => by injection e with e; omega)))
    have D5 := Lib.hid hd5
    have G5 := Lib.hid (by_trans (grown_al G3.out (.cells #[.int .i64 0, .int .i64 16] 2)) hg5)
    have A5 := Lib.hid ((A3.out.below ((Below.refl _ _).alloc (Nat.le_refl _) (.cells #[.int .i64 0, .int .i64 16] 2))).grown hg5 (by omega))
    have C5 := Lib.hid ((C3.out.below ((Below.refl _ _).alloc (Nat.le_refl _) (.cells #[.int .i64 0, .int .i64 16] 2))).grown hg5 (by omega))
    clear t2 hd5 hg5
    obtain ⟨v0, v1, v2, v3⟩ := vr4_cells V5.out
    obtain ⟨fv0, fv1, fv2, fv3⟩ := vr4_froz V5.out
    obtain ⟨b0, b1⟩ := pr_cells B5.out
    obtain ⟨fb0, fb1⟩ := pr_froz B5.out
    obtain ⟨r0, r1, r2, r3⟩ := vr4_cells R5.out
    obtain ⟨fr0, fr1, fr2, fr3⟩ := vr4_froz R5.out
    obtain ⟨q0, q1⟩ := pr_cells Q5.out
    obtain ⟨fq0, fq1⟩ := pr_froz Q5.out
    go_wp2_with fail
    have tv := (Tw.refl w1.heap.size w1.heap.size w5).set (p := ⟨w1.heap.size, 1, none⟩) (.inl rfl) (.int .i64 v)
    have R6 := Lib.hid (R5.out.setOther (a := ⟨w1.heap.size, 1, none⟩) n2 (.int .i64 v))
    have Q6 := Lib.hid (Q5.out.setOther (a := ⟨w1.heap.size, 1, none⟩) n4 (.int .i64 v))
    have D6 := Lib.hid (D5.out.setB (p := ⟨w1.heap.size, 1, none⟩) (by show gs < w1.heap.size; omega) (.int .i64 v))
    have G6 := Lib.hid (grown_se G5.out (p := ⟨w1.heap.size, 1, none⟩) (by show w.heap.size ≤ w1.heap.size; omega) (.int .i64 v))
    have A6 := Lib.hid (A5.out.put (b := w1.heap.size) (i := 1) (u := .int .i64 v) (fun b' o t e => by injection e with e; injection e with e; omega))
    have C6 := Lib.hid (C5.out.put (b := w1.heap.size) (i := 1) (u := .int .i64 v) (fun b' o t e => by injection e with e; injection e with e; omega))
    obtain ⟨u0, u1, u2, u3⟩ := vr4_cells (vr4_one V5.out (.int .i64 v))
    go_region
    go_wp2
    have six := six_cells (w := w5.setCell ⟨w1.heap.size, 1, none⟩ (.int .i64 v)) R6.out Q6.out n1 (.int .i64 (P : Int)) (.int .i64 v) (.int .i64 h) (.int .i64 s) (.slice (some ⟨g1, 0, none⟩) m d) (.slice (some ⟨g2, 0, none⟩) q f)
    obtain ⟨⟨p0, p1, p2, p3⟩, p4, p5⟩ := six
    have tw := six_tw w.heap.size (w.heap.size + 1) (w5.setCell ⟨w1.heap.size, 1, none⟩ (.int .i64 v)) (.int .i64 (P : Int)) (.int .i64 v) (.int .i64 h) (.int .i64 s) (.slice (some ⟨g1, 0, none⟩) m d) (.slice (some ⟨g2, 0, none⟩) q f)
    refine bodyPost_ret (v := .tuple #[vrV (P : Int) v h s, bdV (some ⟨g1, 0, none⟩) m d (some ⟨g2, 0, none⟩) q f]) (by simp [results, Try.results29, go_sem, p0, p1, p2, p3, p4, p5]) rfl ⟨(P : Int), v, h, s, some ⟨g1, 0, none⟩, m, d, ys, some ⟨g2, 0, none⟩, q, f, zs, rfl, (by omega), (by omega), ((A6.out.far2 tw (by omega) (by omega)).lower (by omega)).drw, ((C6.out.far2 tw (by omega) (by omega)).lower (by omega)).drw, (D6.out.keepB (tw.below (B := w.heap.size) (Nat.le_refl _) (by omega)) hlt).drw 1, by_drew (tw.grown G6.out (Nat.le_refl _) (by omega))⟩
  have t1 : (u == 1) = false := by simpa using s1
  by_cases s2 : u = 2
  · subst s2
    clear s0 t0 s1 t1
    obtain ⟨v0, v1, v2, v3⟩ := vr4_cells V3.out
    obtain ⟨fv0, fv1, fv2, fv3⟩ := vr4_froz V3.out
    obtain ⟨b0, b1⟩ := pr_cells B3.out
    obtain ⟨fb0, fb1⟩ := pr_froz B3.out
    obtain ⟨r0, r1, r2, r3⟩ := vr4_cells R3.out
    obtain ⟨fr0, fr1, fr2, fr3⟩ := vr4_froz R3.out
    obtain ⟨q0, q1⟩ := pr_cells Q3.out
    obtain ⟨fq0, fq1⟩ := pr_froz Q3.out
    go_wp2
    have six := six_cells (w := w3) R3.out Q3.out n1 (.int .i64 (P : Int)) (.int .i64 c) (.int .i64 h) (.int .i64 s) (.slice none 0 0) (.slice none 0 0)
    obtain ⟨⟨p0, p1, p2, p3⟩, p4, p5⟩ := six
    have tw := six_tw w.heap.size (w.heap.size + 1) (w3) (.int .i64 (P : Int)) (.int .i64 c) (.int .i64 h) (.int .i64 s) (.slice none 0 0) (.slice none 0 0)
    refine bodyPost_ret (v := .tuple #[vrV (P : Int) c h s, bdV none 0 0 none 0 0]) (by simp [results, Try.results29, go_sem, p0, p1, p2, p3, p4, p5]) rfl ⟨(P : Int), c, h, s, none, 0, 0, [], none, 0, 0, [], rfl, (by omega), (by omega), ((show Iv w3 (w.heap.size + 1 + 1) none 0 [] from ⟨Ints.nil, fun b o t e => by cases e⟩).far2 tw (by omega) (by omega)).lower (by omega), ((show Iv w3 (w.heap.size + 1 + 1) none 0 [] from ⟨Ints.nil, fun b o t e => by cases e⟩).far2 tw (by omega) (by omega)).lower (by omega), D3.out.keepB (tw.below (B := w.heap.size) (Nat.le_refl _) (by omega)) hlt, tw.grown G3.out (Nat.le_refl _) (by omega)⟩
  have t2 : (u == 2) = false := by simpa using s2
  clear s0 s1 s2
  obtain ⟨v0, v1, v2, v3⟩ := vr4_cells V3.out
  obtain ⟨fv0, fv1, fv2, fv3⟩ := vr4_froz V3.out
  obtain ⟨b0, b1⟩ := pr_cells B3.out
  obtain ⟨fb0, fb1⟩ := pr_froz B3.out
  obtain ⟨r0, r1, r2, r3⟩ := vr4_cells R3.out
  obtain ⟨fr0, fr1, fr2, fr3⟩ := vr4_froz R3.out
  obtain ⟨q0, q1⟩ := pr_cells Q3.out
  obtain ⟨fq0, fq1⟩ := pr_froz Q3.out
  go_wp2_with fail
  go_region
  go_wp2
  have six := six_cells (w := w3) R3.out Q3.out n1 (.int .i64 (P : Int)) (.int .i64 c) (.int .i64 h) (.int .i64 s) (.slice (some ⟨g1, 0, none⟩) m d) (.slice (some ⟨g2, 0, none⟩) q f)
  obtain ⟨⟨p0, p1, p2, p3⟩, p4, p5⟩ := six
  have tw := six_tw w.heap.size (w.heap.size + 1) (w3) (.int .i64 (P : Int)) (.int .i64 c) (.int .i64 h) (.int .i64 s) (.slice (some ⟨g1, 0, none⟩) m d) (.slice (some ⟨g2, 0, none⟩) q f)
  refine bodyPost_ret (v := .tuple #[vrV (P : Int) c h s, bdV (some ⟨g1, 0, none⟩) m d (some ⟨g2, 0, none⟩) q f]) (by simp [results, Try.results29, go_sem, p0, p1, p2, p3, p4, p5]) rfl ⟨(P : Int), c, h, s, some ⟨g1, 0, none⟩, m, d, ys, some ⟨g2, 0, none⟩, q, f, zs, rfl, (by omega), (by omega), ((A3.out.far2 tw (by omega) (by omega)).lower (by omega)).drw, ((C3.out.far2 tw (by omega) (by omega)).lower (by omega)).drw, (D3.out.keepB (tw.below (B := w.heap.size) (Nat.le_refl _) (by omega)) hlt).drw 1, by_drew (tw.grown G3.out (Nat.le_refl _) (by omega))⟩
end Go.Proofs.Ytjfmpnkbocilpaa
