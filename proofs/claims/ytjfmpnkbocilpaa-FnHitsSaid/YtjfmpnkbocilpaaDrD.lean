/-
  The draws of sides of boards: l02Empty, l02Start, l02DrawSide.
-/
import Derived.Test.YtjfmpnkbocilpaaDrV
import Derived.Deep.QuietTactic
import Derived.BigQuiet
import Derived.Deep.RegionWith
import Derived.Deep.RegionHeld3
namespace Go.Proofs.Ytjfmpnkbocilpaa
open Go.ChangeShapes Go.WideShapes Go.ChangeAt Go.RowKit
set_option linter.unusedVariables false

theorem make_i64_i (P : Int) (n : Nat) (hn : n ≤ 1048576) (h : P + 1 = n) (W : World) : (Instr.makeSlice 24 (.int .i64 (P + 1)) (.int .i64 (P + 1))).run Try.prog W = .ok (.slice (some ⟨W.heap.size, 0, none⟩) n n) (W.alloc (.cells (madeCells #[.int .i64 0] n) 2)) := by
  rw [h]; exact make_i64 n hn W
theorem l02Empty_any (P c h s : Int) (n : Nat) (w : World) (hn : P + 1 = (n : Int)) (hn2 : n ≤ 1000) :
    Calls Try.prog 64 #[vrV P c h s] w fun e w' => ∃ g, e = .returned (.slice (some ⟨g, 0, none⟩) n n) ∧ w.heap.size ≤ g ∧ w'.rowIs g 2 n (fun _ => .int .i64 0) ∧ Below w.heap.size w w' := by
  have hmk := make_i64_i P n (by omega) hn
  have HB := Lib.hid ((Below.refl w.heap.size w).alloc (Nat.le_refl _) (.cells #[.int .i64 P, .int .i64 c, .int .i64 h, .int .i64 s] 30))
  have HR := Lib.hid (World.rowIs_made (w.alloc (.cells #[.int .i64 P, .int .i64 c, .int .i64 h, .int .i64 s] 30)) (.int .i64 0) n 2)
  have p1 : 0 ≤ P + 1 := by omega
  have p2 : P ≤ 1000 := by omega
  have p3 : -1 ≤ P := by omega
  clear hn
  go_enter Try.func64, Try.ntmps64
  go_wp2
  go_ret
  exact ⟨_, rfl, by simp, by first | exact HR.out | simpa using HR.out, HB.out.alloc HB.out.size _⟩
/-- a side: n integers from 0 to M in own memory from base on -/
def SdAt (w : World) (base g n : Nat) (M : Int) : Prop := base ≤ g ∧ ∃ zs : List Int, zs.length = n ∧ (∀ i, i < n → 0 ≤ zs.getD i 0 ∧ zs.getD i 0 ≤ M) ∧ RowN w g (g + 1) 2 (some ⟨g, 0, none⟩) n (icell .i64 zs)
section
variable {w w' : World} {base g gs n : Nat} {M : Int}
theorem SdAt.zero (h : w.rowIs g 2 n (fun _ => .int .i64 0)) (hb : base ≤ g) (hM : 0 ≤ M) : SdAt w base g n M := by
  refine ⟨hb, List.replicate n 0, by simp, fun i hi => ?_, (RowN.of_row (lo := g) (hi := g + 1) h (Nat.le_refl _) (Nat.lt_succ_self _)).congr fun i hi => ?_⟩
  · rw [List.getD_eq_getElem?_getD, List.getElem?_replicate, if_pos hi]
    exact ⟨Int.le_refl _, hM⟩
  · rw [icell, List.getD_eq_getElem?_getD, List.getElem?_replicate, if_pos hi]
    rfl
theorem SdAt.grown (h : SdAt w base g n M) (hg : w.grownBy w' (some gs)) (hl : gs < base) : SdAt w' base g n M := by
  obtain ⟨h1, zs, h2, h3, h4⟩ := h
  exact ⟨h1, zs, h2, h3, h4.grown hg (by omega)⟩
theorem SdAt.below (h : SdAt w base g n M) (hb : Below w.heap.size w w') : SdAt w' base g n M := by
  obtain ⟨h1, zs, h2, h3, h4⟩ := h
  exact ⟨h1, zs, h2, h3, h4.below hb⟩
theorem SdAt.lower {base' : Nat} (h : SdAt w base g n M) (hb : base' ≤ base) : SdAt w base' g n M := ⟨Nat.le_trans hb h.1, h.2⟩
theorem SdAt.more {M' : Int} (h : SdAt w base g n M) (hM : M ≤ M') : SdAt w base g n M' := by
  obtain ⟨h1, zs, h2, h3, h4⟩ := h
  exact ⟨h1, zs, h2, fun i hi => ⟨(h3 i hi).1, by have := (h3 i hi).2; omega⟩, h4⟩
theorem SdAt.cell (h : SdAt w base g n M) {i : Nat} (hi : i < n) : ∃ z : Int, 0 ≤ z ∧ z ≤ M ∧ w.cell? ⟨g, i, none⟩ = some (.int .i64 z) ∧ w.frozen? ⟨g, i, none⟩ = false := by
  obtain ⟨h1, zs, h2, h3, h4⟩ := h
  obtain ⟨c0, f0⟩ := row_cells h4 hi
  exact ⟨_, (h3 i hi).1, (h3 i hi).2, c0, f0⟩
theorem SdAt.put (h : SdAt w base g n M) {i : Nat} (hi : i < n) {u : Int} (hu : 0 ≤ u) (hu2 : u ≤ M) : SdAt (w.setCell ⟨g, i, none⟩ (.int .i64 u)) base g n M := by
  obtain ⟨h1, zs, h2, h3, h4⟩ := h
  refine ⟨h1, zs.set i u, by rw [List.length_set, h2], fun j hj => ?_, (h4.set hi (.int .i64 u)).congr fun j _ => icell_set u h2 hi j⟩
  have e := icell_set u h2 hi j
  by_cases c : j = i
  · rw [if_pos c] at e
    have e' : u = (zs.set i u).getD j 0 := by unfold icell at e; injection e
    rw [← e']; exact ⟨hu, hu2⟩
  · rw [if_neg c] at e
    have e' : zs.getD j 0 = (zs.set i u).getD j 0 := by unfold icell at e; injection e
    rw [← e']; exact h3 j hj
theorem Iv.put {w : World} {lo m b i : Nat} {A : Option Addr} {ys : List Int} (h : Iv w lo A m ys) {u : Value} (hb : ∀ b' o t, A = some ⟨b', o, t⟩ → b' ≠ b) : Iv (w.setCell ⟨b, i, none⟩ u) lo A m ys := by
  obtain ⟨⟨h1, h2⟩, h3⟩ := h
  refine ⟨⟨h1, fun hm => ?_⟩, h3⟩
  obtain ⟨b', off, hA, hb', hc⟩ := h2 hm
  refine ⟨b', off, hA, by rw [World.size_setCell]; exact hb', fun j hj => ?_⟩
  rw [World.cell?_setCell_far _ _ _ _ (by show b ≠ b'; exact fun e => hb b' off none hA e.symm)]
  exact hc j hj
theorem SdAt.iv (h : SdAt w base g n M) (h0 : 0 < n) : ∃ zs : List Int, zs.length = n ∧ (∀ i, i < n → 0 ≤ zs.getD i 0 ∧ zs.getD i 0 ≤ M) ∧ Iv w base (some ⟨g, 0, none⟩) n zs := by
  obtain ⟨h1, zs, h2, h3, h4⟩ := h
  exact ⟨zs, h2, h3, (iv_row h4 h2 h0).lower h1⟩
end

theorem vr_eq (P c h s : Int) (W : World) : (binOp .eql 30 (vrV P c h s) (vrV 24 15 6 6)).run Try.prog W = .ok (.bool (decide (P = 24 ∧ c = 15 ∧ h = 6 ∧ s = 6))) W := by
  have hS : Try.prog.underlying 30 = some (.struct (Try.prog.fieldsOf 30)) := by kernel_rfl
  have hp : Try.prog.stoodInHeld 30 = false := by kernel_rfl
  have u3 := Try.underlying2
  have a3 := Try.isAgg2
  have z3 := Try.sizeOf2
  rw [run_eql_struct, show (10000 : Nat) = 9999 + 1 from rfl, run_equalIn_agg W 9999 30 _ _ hS hp]
  simp only [Program.fieldsOf, Try.underlying30]
  go_simp
  by_cases h1 : P = 24 <;> by_cases h2 : c = 15 <;> by_cases h3 : h = 6 <;> by_cases h4 : s = 6 <;> simp [h1, h2, h3, h4]
set_option maxHeartbeats 1600000 in
theorem l02Start_any (P : Nat) (c h s : Int) (w : World) (hv : vrB P c h s = true) (hP : 4 ≤ P) :
    Calls Try.prog 69 #[vrV P c h s] w fun e w' => ∃ g, e = .returned (.slice (some ⟨g, 0, none⟩) (P + 1) (P + 1)) ∧ SdAt w' w.heap.size g (P + 1) 15 ∧ Below w.heap.size w w' := by
  obtain ⟨⟨p1, p2⟩, ⟨c1, c2⟩, ⟨h1, h2⟩, ⟨s1, s2⟩⟩ := vrB_true.1 hv
  have HB := Lib.hid ((Below.refl w.heap.size w).alloc (Nat.le_refl _) (.cells #[.int .i64 P, .int .i64 c, .int .i64 h, .int .i64 s] 30))
  have R0 := Lib.hid (vr4_new w (.int .i64 P) (.int .i64 c) (.int .i64 h) (.int .i64 s) 30)
  clear hv
  go_enter Try.func69, Try.ntmps69
  go_wp2_with fail
  refine (l02Empty_any P c h s (P + 1) _ (by omega) (by omega)).mono ?_
  rintro e w1 ⟨g, rfl, hg, hr, hb⟩
  simp only [World.size_alloc] at hg
  have hgw : w.heap.size ≠ g := by omega
  have R1 := Lib.hid (rowIs_below R0.out hb R0.out.lt)
  have A1 := Lib.hid (SdAt.zero (M := 15) hr (show w.heap.size ≤ g by omega) (by omega))
  have B1 := Lib.hid (HB.out.trans (hb.mono HB.out.size))
  have z1 := B1.out.size
  obtain ⟨v0, v1, v2, v3⟩ := vr4_cells R1.out
  clear hr hb
  have hgd : Try.prog.eqGuardType Try.prog.depth 30 = false := by kernel_rfl
  obtain ⟨E, hE⟩ : ∃ E, decide ((P : Int) = 24 ∧ c = 15 ∧ h = 6 ∧ s = 6) = E := ⟨_, rfl⟩
  have hq := fun W => vr_eq (P : Int) c h s W
  rw [hE] at hq
  have HE := Lib.hid hE
  clear hE
  have R1d : Hid (w1.drew.rowIs w.heap.size 30 4 (vr4 (.int .i64 (P : Int)) (.int .i64 c) (.int .i64 h) (.int .i64 s))) := Lib.hid R1.out
  have A1d : Hid (SdAt w1.drew w.heap.size g (P + 1) 15) := Lib.hid A1.out
  have B1d := Lib.hid (below_drewN B1.out 1)
  go_wp2_with fail
  go_region_held3 (fun w' => w'.cell? ⟨w.heap.size, 0, none⟩ = some (.int .i64 (P : Int)) ∧ w'.cell? ⟨w.heap.size, 1, none⟩ = some (.int .i64 c) ∧ w'.cell? ⟨w.heap.size, 2, none⟩ = some (.int .i64 h) ∧ w'.cell? ⟨w.heap.size, 3, none⟩ = some (.int .i64 s))
    (first | go_keep)
    (first
      | (go_at_call 72; refine (FullVariant_any _).mono ?_; rintro e w2 ⟨rfl, hb⟩; have R2 := Lib.hid (rowIs_below R1d.out hb R1d.out.lt); have A2 := Lib.hid (A1d.out.below hb); have B2 := Lib.hid (B1d.out.trans (hb.mono B1d.out.size)); obtain ⟨y0, y1, y2, y3⟩ := vr4_cells R2.out; clear hb))
  all_goals
    cases E
    · obtain ⟨zA, zA1, zA2, cA, fA⟩ := A2.out.cell (i := P - 1) (by omega)
      have A3 := Lib.hid (A2.out.put (i := P - 1) (by omega) (u := c / 2) (by omega) (by omega))
      obtain ⟨zB, zB1, zB2, cB, fB⟩ := A3.out.cell (i := P / 2 - 1) (by omega)
      have A4 := Lib.hid (A3.out.put (i := P / 2 - 1) (by omega) (u := c - c / 2) (by omega) (by omega))
      have R3 := Lib.hid (R2.out.setOther (a := ⟨g, P - 1, none⟩) (by show w.heap.size ≠ g; have := A1.out.1; omega) (.int .i64 (c / 2)))
      obtain ⟨x0, x1, x2, x3⟩ := vr4_cells R3.out
      have e1 : IntKind.i64.wrap ((P : Int) - 1) = (P : Int) - 1 := IntWalk.i64_in _ (by omega)
      have e2 : (P : Int) - 1 = ((P - 1 : Nat) : Int) := by omega
      have e3 : IntKind.i64.wrap (Int.tdiv c 2) = c / 2 := by
        rw [Int.tdiv_eq_ediv_of_nonneg (by omega)]; exact IntWalk.i64_in _ (by omega)
      have e4 : IntKind.i64.wrap (Int.tdiv (P : Int) 2) = (P : Int) / 2 := by
        rw [Int.tdiv_eq_ediv_of_nonneg (by omega)]; exact IntWalk.i64_in _ (by omega)
      have e5 : (P : Int) / 2 - 1 = ((P / 2 - 1 : Nat) : Int) := by omega
      have e6 : IntKind.i64.wrap ((P : Int) / 2 - 1) = (P : Int) / 2 - 1 := IntWalk.i64_in _ (by omega)
      have e7 : IntKind.i64.wrap (c - c / 2) = c - c / 2 := IntWalk.i64_in _ (by omega)
      clear hq HE R1d A1d B1d v0 v1 v2 v3
      go_wp2
      go_ret
      exact ⟨g, rfl, A4.out, (B2.out.setCell (p := ⟨g, P - 1, none⟩) A1.out.1 _).setCell (p := ⟨g, P / 2 - 1, none⟩) A1.out.1 _⟩
    · obtain ⟨hP24, _⟩ := of_decide_eq_true HE.out
      obtain rfl : P = 24 := by omega
      obtain ⟨zA, _, _, cA, fA⟩ := A2.out.cell (i := 5) (by omega)
      obtain ⟨zB, _, _, cB, fB⟩ := A2.out.cell (i := 7) (by omega)
      obtain ⟨zC, _, _, cC, fC⟩ := A2.out.cell (i := 12) (by omega)
      obtain ⟨zD, _, _, cD, fD⟩ := A2.out.cell (i := 23) (by omega)
      have A6 := Lib.hid ((((A2.out.put (i := 5) (by omega) (u := 5) (by omega) (by omega)).put (i := 7) (by omega) (u := 3) (by omega) (by omega)).put (i := 12) (by omega) (u := 5) (by omega) (by omega)).put (i := 23) (by omega) (u := 2) (by omega) (by omega))
      clear hq HE R1d A1d B1d v0 v1 v2 v3
      go_wp2
      go_ret
      exact ⟨g, rfl, A6.out, (((B2.out.setCell (p := ⟨g, 5, none⟩) A1.out.1 _).setCell (p := ⟨g, 7, none⟩) A1.out.1 _).setCell (p := ⟨g, 12, none⟩) A1.out.1 _).setCell (p := ⟨g, 23, none⟩) A1.out.1 _⟩

def SdrPost (w0 : World) (gs : Nat) (a : Option Addr) (nn cc : Nat) (xs : List Int) (n : Nat) (w : World) (e : Ending) (w' : World) : Prop :=
  ∃ g, e = .returned (.slice (some ⟨g, 0, none⟩) n n) ∧ SdAt w' w.heap.size g n 15 ∧ Drawing w0 gs a nn cc xs w' ∧ w.grownBy w' (some gs)
set_option maxRecDepth 16000 in
set_option maxHeartbeats 3200000 in
theorem l02DrawSide_dr (w0 : World) (gs : Nat) (a : Option Addr) (nn cc : Nat) (xs : List Int) (P : Nat) (c h s : Int) (b : Option Addr) (d : Nat) (ys : List Int) (w : World) (hd : Drawing w0 gs a nn cc xs w) (hv : vrB P c h s = true) (hI : ∃ lo gb, gs < lo ∧ gb < w.heap.size ∧ b = some ⟨gb, 0, none⟩ ∧ Iv w lo b (P + 1) ys) :
    Calls Try.prog 63 #[.pointer (some ⟨gs, 0, none⟩), vrV P c h s, .slice b (P + 1) d] w fun e w' => SdrPost w0 gs a nn cc xs (P + 1) w e w' := by
  obtain ⟨⟨p1, p2⟩, ⟨c1, c2⟩, ⟨h1, h2⟩, ⟨s1, s2⟩⟩ := vrB_true.1 hv
  obtain ⟨lo, gb, hlo, hgb, rfl, hIv⟩ := hI
  have NX := Lib.hid (fun m W hm hD => next_dr m w0 gs a nn cc xs W hD hm)
  have hlt := hd.lt
  have hb0 := (Below.refl w.heap.size w).alloc (Nat.le_refl _) (.cells #[.int .i64 (P : Int), .int .i64 c, .int .i64 h, .int .i64 s] 30)
  have D0 := Lib.hid (hd.after hb0)
  have G0 := Lib.hid (grown_al (by_refl w (some gs)) (.cells #[.int .i64 (P : Int), .int .i64 c, .int .i64 h, .int .i64 s] 30))
  have R0 := Lib.hid (vr4_new w (.int .i64 (P : Int)) (.int .i64 c) (.int .i64 h) (.int .i64 s) 30)
  have T0 := Lib.hid (hIv.below hb0)
  clear hd hv hb0 hIv
  go_enter Try.func63, Try.ntmps63
  go_wp2_with fail
  refine (l02Empty_any P c h s (P + 1) _ (by omega) (by omega)).mono ?_
  rintro e w1 ⟨g, rfl, hg, hr, hb⟩
  have z1 := hb.size
  simp only [World.size_alloc] at hg z1
  have R1 := Lib.hid (rowIs_below R0.out hb R0.out.lt)
  have A1 := Lib.hid (SdAt.zero (M := 0) hr (show w.heap.size ≤ g by omega) (by omega))
  have D1 := Lib.hid (D0.out.after hb)
  have G1 := Lib.hid (grown_be G0.out hb (by simp))
  have T1 := Lib.hid (T0.out.below hb)
  have hgw : w.heap.size ≠ g := by omega
  have hbg : ∀ b' o t, (some ⟨gb, 0, none⟩ : Option Addr) = some ⟨b', o, t⟩ → b' ≠ g := fun b' o t e => by cases e; omega
  have HBG := Lib.hid hbg
  obtain ⟨v0, v1, v2, v3⟩ := vr4_cells R1.out
  clear hr hb hbg R0 D0 G0 T0
  go_wp2_with fail
  refine (NX.out P _ (by omega) D1.out).mono ?_
  rintro e w2 ⟨x, rfl, x1, x2, hd2, hg2⟩
  have x3 : x < P := by omega
  have R2 := Lib.hid (R1.out.of_block (hg2.block _ R1.out.lt (fun e => by cases e; omega)))
  have A2 := Lib.hid (A1.out.grown hg2 (by omega))
  have D2 := Lib.hid hd2
  have G2 := Lib.hid (by_trans G1.out hg2)
  have T2 := Lib.hid (T1.out.grown hg2 hlo)
  clear x2 hd2 hg2 R1 A1 D1 G1 T1 v0 v1 v2 v3
  obtain ⟨v0, v1, v2, v3⟩ := vr4_cells R2.out
  go_wp2_with fail
  refine (NX.out (c + 1) _ (by omega) D2.out).mono ?_
  rintro e w3 ⟨k, rfl, k1, k2, hd3, hg3⟩
  have k3 : k ≤ 15 := by omega
  have R3 := Lib.hid (R2.out.of_block (hg3.block _ R2.out.lt (fun e => by cases e; omega)))
  have A3 := Lib.hid (A2.out.grown hg3 (by omega))
  have D3 := Lib.hid hd3
  have G3 := Lib.hid (by_trans G2.out hg3)
  have T3 := Lib.hid (T2.out.grown hg3 hlo)
  clear k2 hd3 hg3 R2 A2 D2 G2 T2 v0 v1 v2 v3
  go_wp2_with fail
  go_loopw [9] (fun r wr => ∃ (q : Int), r = .int .i64 q ∧ 0 ≤ q ∧ q ≤ k ∧ Hid (wr.rowIs w.heap.size 30 4 (vr4 (.int .i64 (P : Int)) (.int .i64 c) (.int .i64 h) (.int .i64 s))) ∧ Hid (SdAt wr w.heap.size g (P + 1) (k - q)) ∧ Hid (Drawing w0 gs a nn cc xs wr) ∧ Hid (w.grownBy wr (some gs)) ∧ Hid (Iv wr lo (some ⟨gb, 0, none⟩) (P + 1) ys)) (fun r _ => (intOf r).toNat)
  case atStart => exact ⟨k, rfl, k1, Int.le_refl _, R3, by rw [show k - k = 0 by omega]; exact A3, D3, G3, T3⟩
  case round =>
    obtain ⟨q, rfl, q0, q1, hR, hA, hD, hG, hT⟩ := hrel
    by_cases hq : 0 < q
    · obtain ⟨v0, v1, v2, v3⟩ := vr4_cells hR.out
      go_wp2_with fail
      refine (NX.out (1 + x) _ (by omega) hD.out).mono ?_
      rintro e w4 ⟨i0, rfl, i1, i2, hd4, hg4⟩
      have i3 : i0 < P := by omega
      have R4 := Lib.hid (hR.out.of_block (hg4.block _ hR.out.lt (fun e => by cases e; omega)))
      have A4 := Lib.hid (hA.out.grown hg4 (by omega))
      have D4 := Lib.hid hd4
      have G4 := Lib.hid (by_trans hG.out hg4)
      have T4 := Lib.hid (hT.out.grown hg4 hlo)
      clear i2 hd4 hg4 v0 v1 v2 v3
      go_wp2_with fail
      refine (NX.out 10 _ (by omega) D4.out).mono ?_
      rintro e w5 ⟨t, rfl, t1, t2, hd5, hg5⟩
      have R5 := Lib.hid (R4.out.of_block (hg5.block _ R4.out.lt (fun e => by cases e; omega)))
      have A5 := Lib.hid (A4.out.grown hg5 (by omega))
      have D5 := Lib.hid hd5
      have G5 := Lib.hid (by_trans G4.out hg5)
      have T5 := Lib.hid (T4.out.grown hg5 hlo)
      clear t2 hd5 hg5
      obtain ⟨v0, v1, v2, v3⟩ := vr4_cells R5.out
      obtain ⟨I, rfl⟩ := Int.eq_ofNat_of_zero_le i1
      have FIN := Lib.hid (fun (j : Nat) (z : Int) (hj : j < P + 1) (hz0 : 0 ≤ z) (hz1 : z ≤ k - q) => show (w5.setCell ⟨g, j, none⟩ (.int .i64 (z + 1))).rowIs w.heap.size 30 4 (vr4 (.int .i64 (P : Int)) (.int .i64 c) (.int .i64 h) (.int .i64 s)) ∧ SdAt (w5.setCell ⟨g, j, none⟩ (.int .i64 (z + 1))) w.heap.size g (P + 1) (k - (q - 1)) ∧ Drawing w0 gs a nn cc xs (w5.setCell ⟨g, j, none⟩ (.int .i64 (z + 1))) ∧ w.grownBy (w5.setCell ⟨g, j, none⟩ (.int .i64 (z + 1))) (some gs) from
        ⟨R5.out.setOther (a := ⟨g, j, none⟩) hgw _, (A5.out.more (by omega)).put hj (by omega) (by omega), D5.out.setB (by show gs < g; omega) _, grown_se G5.out (by show w.heap.size ≤ g; omega) _⟩)
      by_cases ht : t = 0
      · subst ht
        obtain ⟨z, z1, z2, cz, fz⟩ := A5.out.cell (i := P) (by omega)
        have z3 : z ≤ 15 := by omega
        have F := Lib.hid (FIN.out P z (by omega) z1 z2)
        have T6 := Lib.hid (T5.out.put (b := g) (i := P) (u := .int .i64 (z + 1)) HBG.out)
        clear z2
        go_wp2_with fail
        go_roundw
        case rel => exact ⟨q - 1, by go_num, by omega, by omega, Lib.hid F.out.1, Lib.hid F.out.2.1, Lib.hid F.out.2.2.1, Lib.hid F.out.2.2.2, T6⟩
        case measure => simp [intOf]; omega
      · have nt : (t == 0) = false := by simpa using ht
        have nP : ((I : Int) == (P : Int)) = false := by simp; omega
        obtain ⟨y, cy⟩ : ∃ y : Int, w5.cell? ⟨gb, P - 1 - I, none⟩ = some (.int .i64 y) := by
          obtain ⟨b', o', e', _, hc⟩ := T5.out.1.2 (by omega)
          cases e'
          have := hc (P - 1 - I) (by omega)
          rw [Nat.zero_add] at this
          exact ⟨_, this⟩
        have ix : (P : Int) - 1 - (I : Int) = ((P - 1 - I : Nat) : Int) := by omega
        by_cases hy : y = 0
        · subst hy
          obtain ⟨z, z1, z2, cz, fz⟩ := A5.out.cell (i := I) (by omega)
          have z3 : z ≤ 15 := by omega
          have F := Lib.hid (FIN.out I z (by omega) z1 z2)
          have T6 := Lib.hid (T5.out.put (b := g) (i := I) (u := .int .i64 (z + 1)) HBG.out)
          clear z2 ht
          go_wp2_with fail
          go_roundw
          case rel => exact ⟨q - 1, by go_num, by omega, by omega, Lib.hid F.out.1, Lib.hid F.out.2.1, Lib.hid F.out.2.2.1, Lib.hid F.out.2.2.2, T6⟩
          case measure => simp [intOf]; omega
        · have ny : (y == 0) = false := by simpa using hy
          have A6 := Lib.hid (A5.out.more (M' := k - (q - 1)) (by omega))
          clear ht hy
          go_wp2_with fail
          go_roundw
          case rel => exact ⟨q - 1, by go_num, by omega, by omega, R5, A6, D5, G5, T5⟩
          case measure => simp [intOf]; omega
    · go_wp2_with fail
      go_ret
      exact ⟨g, rfl, hA.out.more (by omega), hD.out, hG.out⟩
end Go.Proofs.Ytjfmpnkbocilpaa
