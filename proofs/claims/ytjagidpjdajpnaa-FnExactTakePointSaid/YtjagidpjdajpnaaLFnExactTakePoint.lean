/-
  FnExactTakePoint returns true for all arguments: TakePoint of the program and of the reference agree. No condition.
-/
import Derived.Test.YtjagidpjdajpnaaOpen
import Derived.Test.YtjagidpjdajpnaaTp
import Derived.StillTailTactics
import Derived.RegionTactic
import Derived.BigRegion
import Derived.Deep.RegionWith
import Derived.Deep.RegionHeld3
import Derived.Deep.Cut
import Derived.Deep.CutRange
import Derived.Deep.DeepCutAuto
namespace Go.Proofs.Ytjagidpjdajpnaa
open Go.ChangeShapes Go.WideShapes Go.ChangeAt Go.RowKit
set_option linter.unusedVariables false

theorem keep2 {w : World} {g b t T : Nat} {x y x' y' : Int} (h : w.rowIs b T 2 (two x y)) (sn : w.rowIs g t 2 (two x' y')) (hne : ¬ b = g) (v1 v2 : Value) : ((w.setCell ⟨g, 0, none⟩ v1).setCell ⟨g, 1, none⟩ v2).rowIs b T 2 (two x y) :=
  (h.setOther (a := ⟨g, 0, none⟩) (by simpa using hne) v1).setOther (a := ⟨g, 1, none⟩) (by simpa using hne) v2

set_option maxHeartbeats 6400000 in
theorem walk_FnExactTakePoint (w : World) (x0 y0 : Int) (wx0 : (Lit.int .i64 x0).wf = true ∧ (Lit.int .i64 y0).wf = true) (x1 y1 : Int) (wx1 : (Lit.int .i64 x1).wf = true ∧ (Lit.int .i64 y1).wf = true) (x2 y2 : Int) (wx2 : (Lit.int .i64 x2).wf = true ∧ (Lit.int .i64 y2).wf = true) :
    Calls Try.prog 6 #[.agg #[.int .i64 x0, .int .i64 y0], .agg #[.int .i64 x1, .int .i64 y1], .agg #[.int .i64 x2, .int .i64 y2]] w fun e w' => e = .returned (.bool true) ∧ Below w.heap.size w w' := by
  have HB0 := ((((Below.refl w.heap.size w).alloc (Nat.le_refl _) (.cells #[.int .i64 x0, .int .i64 y0] 32)).alloc (by simp) (.cells #[.int .i64 x1, .int .i64 y1] 32)).alloc (by simp; omega) (.cells #[.int .i64 x2, .int .i64 y2] 32))
  have r0 := ((two_new w x0 y0 32).alloc (.cells #[.int .i64 x1, .int .i64 y1] 32)).alloc (.cells #[.int .i64 x2, .int .i64 y2] 32)
  have r1 := (two_new (w.alloc (.cells #[.int .i64 x0, .int .i64 y0] 32)) x1 y1 32).alloc (.cells #[.int .i64 x2, .int .i64 y2] 32)
  have r2 := two_new ((w.alloc (.cells #[.int .i64 x0, .int .i64 y0] 32)).alloc (.cells #[.int .i64 x1, .int .i64 y1] 32)) x2 y2 32
  simp only [World.size_alloc] at r1 r2
  have R0 := Lib.hid r0
  have R1 := Lib.hid r1
  have R2 := Lib.hid r2
  clear r0 r1 r2
  obtain ⟨N, hN⟩ : ∃ x, (tpA x0 y0 x1 y1 x2 y2).1 = x := ⟨_, rfl⟩
  obtain ⟨D, hD⟩ : ∃ x, (tpA x0 y0 x1 y1 x2 y2).2.1 = x := ⟨_, rfl⟩
  obtain ⟨C, hC⟩ : ∃ x, (tpA x0 y0 x1 y1 x2 y2).2.2 = x := ⟨_, rfl⟩
  have SP := Lib.hid (fun W => spec_TakePoint_any x0 y0 x1 y1 x2 y2 W)
  have IM := Lib.hid (fun W => impl_TakePoint_any x0 y0 x1 y1 x2 y2 W)
  rw [hN, hD, hC] at SP IM
  clear hN hD hC
  have hcc : (C != C) = false := by simp
  go_enter Try.func6, Try.ntmps6
  go_upto_region 1 with fail
  go_cut [7, 8] (fun t c wx => ∃ g, t = .pointer (some ⟨g, 0, none⟩) ∧ c = .int .i64 C ∧ wx.rowIs g 23 2 (two N D) ∧ wx.rowIs (w.heap.size) 32 2 (two x0 y0) ∧ wx.rowIs (w.heap.size + 1) 32 2 (two x1 y1) ∧ wx.rowIs (w.heap.size + 1 + 1) 32 2 (two x2 y2) ∧ Below w.heap.size w wx ∧ w.heap.size + 3 ≤ g)
  case first =>
    obtain ⟨a00, a01, _, _⟩ := two_cells R0.out
    obtain ⟨a10, a11, _, _⟩ := two_cells R1.out
    obtain ⟨a20, a21, _, _⟩ := two_cells R2.out
    replace R0 := Lib.hid (rowIs_drewN R0.out 1)
    replace R1 := Lib.hid (rowIs_drewN R1.out 1)
    replace R2 := Lib.hid (rowIs_drewN R2.out 1)
    replace HB0 : Below w.heap.size w ((((w.alloc (.cells #[.int .i64 x0, .int .i64 y0] 32)).alloc (.cells #[.int .i64 x1, .int .i64 y1] 32)).alloc (.cells #[.int .i64 x2, .int .i64 y2] 32))).drew := below_drewN HB0 1
    have hz0 : w.heap.size + 3 ≤ ((((w.alloc (.cells #[.int .i64 x0, .int .i64 y0] 32)).alloc (.cells #[.int .i64 x1, .int .i64 y1] 32)).alloc (.cells #[.int .i64 x2, .int .i64 y2] 32))).drew.heap.size := (by first | omega | (simp; done) | (simp; omega))
    go_region_held3 (fun w' => w'.cell? ⟨w.heap.size, 0, none⟩ = some (.int .i64 x0) ∧ w'.cell? ⟨w.heap.size, 1, none⟩ = some (.int .i64 y0) ∧ w'.cell? ⟨w.heap.size + 1, 0, none⟩ = some (.int .i64 x1) ∧ w'.cell? ⟨w.heap.size + 1, 1, none⟩ = some (.int .i64 y1) ∧ w'.cell? ⟨w.heap.size + 1 + 1, 0, none⟩ = some (.int .i64 x2) ∧ w'.cell? ⟨w.heap.size + 1 + 1, 1, none⟩ = some (.int .i64 y2))
      (first | exact KS.out _ _ | exact ⟨(two_cells (R0.out)).1, (two_cells (R0.out)).2.1, (two_cells (R1.out)).1, (two_cells (R1.out)).2.1, (two_cells (R2.out)).1, (two_cells (R2.out)).2.1⟩ | exact ⟨(two_cells (R0.out.alloc _)).1, (two_cells (R0.out.alloc _)).2.1, (two_cells (R1.out.alloc _)).1, (two_cells (R1.out.alloc _)).2.1, (two_cells (R2.out.alloc _)).1, (two_cells (R2.out.alloc _)).2.1⟩ | go_keep)
      (first
        | (go_at_call 16; (with_reducible refine (toShare_any x0 y0 ((((w.alloc (.cells #[.int .i64 x0, .int .i64 y0] 32)).alloc (.cells #[.int .i64 x1, .int .i64 y1] 32)).alloc (.cells #[.int .i64 x2, .int .i64 y2] 32)).drew)).mono ?_); rintro e p10 ⟨rfl, hb⟩; replace R0 := Lib.hid (rowIs_below (R0.out) hb (R0.out).lt); replace R1 := Lib.hid (rowIs_below (R1.out) hb (R1.out).lt); replace R2 := Lib.hid (rowIs_below (R2.out) hb (R2.out).lt); replace HB0 := HB0.trans (hb.mono HB0.size); have zlp10 := hb.size; obtain ⟨p10a0, p10b0, _, _⟩ := two_cells R0.out; obtain ⟨p10a1, p10b1, _, _⟩ := two_cells R1.out; obtain ⟨p10a2, p10b2, _, _⟩ := two_cells R2.out; clear hb)
        | (go_at_call 16; (with_reducible refine (toShare_any x0 y0 (((((w.alloc (.cells #[.int .i64 x0, .int .i64 y0] 32)).alloc (.cells #[.int .i64 x1, .int .i64 y1] 32)).alloc (.cells #[.int .i64 x2, .int .i64 y2] 32)).alloc (.cells #[.int .i64 0, .int .i64 0] 23)).drew)).mono ?_); rintro e h10 ⟨rfl, hb⟩; have hgb : w.heap.size + 3 ≤ w.heap.size + 1 + 1 + 1 := (by first | omega | (simp at hz0; omega)); have sn0 := two_new ((((w.alloc (.cells #[.int .i64 x0, .int .i64 y0] 32)).alloc (.cells #[.int .i64 x1, .int .i64 y1] 32)).alloc (.cells #[.int .i64 x2, .int .i64 y2] 32))) 0 0 23; (try simp only [World.size_alloc] at sn0); have SN := Lib.hid (rowIs_below (w := ((((w.alloc (.cells #[.int .i64 x0, .int .i64 y0] 32)).alloc (.cells #[.int .i64 x1, .int .i64 y1] 32)).alloc (.cells #[.int .i64 x2, .int .i64 y2] 32)).alloc (.cells #[.int .i64 0, .int .i64 0] 23)).drew) sn0 hb sn0.lt); clear sn0; replace R0 := Lib.hid (rowIs_below (R0.out.alloc _) hb (R0.out.alloc _).lt); replace R1 := Lib.hid (rowIs_below (R1.out.alloc _) hb (R1.out.alloc _).lt); replace R2 := Lib.hid (rowIs_below (R2.out.alloc _) hb (R2.out.alloc _).lt); replace HB0 := HB0.alloc HB0.size (.cells #[.int .i64 0, .int .i64 0] 23); replace HB0 := HB0.trans (hb.mono HB0.size); have zlh10 := hb.size; obtain ⟨h10a0, h10b0, _, _⟩ := two_cells R0.out; obtain ⟨h10a1, h10b1, _, _⟩ := two_cells R1.out; obtain ⟨h10a2, h10b2, _, _⟩ := two_cells R2.out; obtain ⟨h10n0, h10n1, h10n2, h10n3⟩ := two_cells SN.out; clear hb)
        | (go_at_call 16; (with_reducible refine (toShare_any x1 y1 (p10)).mono ?_); rintro e p11 ⟨rfl, hb⟩; replace R0 := Lib.hid (rowIs_below (R0.out) hb (R0.out).lt); replace R1 := Lib.hid (rowIs_below (R1.out) hb (R1.out).lt); replace R2 := Lib.hid (rowIs_below (R2.out) hb (R2.out).lt); replace HB0 := HB0.trans (hb.mono HB0.size); have zlp11 := hb.size; obtain ⟨p11a0, p11b0, _, _⟩ := two_cells R0.out; obtain ⟨p11a1, p11b1, _, _⟩ := two_cells R1.out; obtain ⟨p11a2, p11b2, _, _⟩ := two_cells R2.out; clear hb)
        | (go_at_call 16; (with_reducible refine (toShare_any x1 y1 ((p10).alloc (.cells #[.int .i64 0, .int .i64 0] 23))).mono ?_); rintro e h11 ⟨rfl, hb⟩; have hgb : w.heap.size + 3 ≤ (p10).heap.size := (by omega); have SN := Lib.hid (rowIs_below (two_new (p10) 0 0 23) hb (two_new (p10) 0 0 23).lt); replace R0 := Lib.hid (rowIs_below (R0.out.alloc _) hb (R0.out.alloc _).lt); replace R1 := Lib.hid (rowIs_below (R1.out.alloc _) hb (R1.out.alloc _).lt); replace R2 := Lib.hid (rowIs_below (R2.out.alloc _) hb (R2.out.alloc _).lt); replace HB0 := HB0.alloc HB0.size (.cells #[.int .i64 0, .int .i64 0] 23); replace HB0 := HB0.trans (hb.mono HB0.size); have zlh11 := hb.size; obtain ⟨h11a0, h11b0, _, _⟩ := two_cells R0.out; obtain ⟨h11a1, h11b1, _, _⟩ := two_cells R1.out; obtain ⟨h11a2, h11b2, _, _⟩ := two_cells R2.out; obtain ⟨h11n0, h11n1, h11n2, h11n3⟩ := two_cells SN.out; clear hb)
        | (go_at_call 16; (with_reducible refine (toShare_any x1 y1 (h10)).mono ?_); rintro e h11 ⟨rfl, hb⟩; replace SN := Lib.hid (rowIs_below SN.out hb SN.out.lt); replace R0 := Lib.hid (rowIs_below (R0.out) hb (R0.out).lt); replace R1 := Lib.hid (rowIs_below (R1.out) hb (R1.out).lt); replace R2 := Lib.hid (rowIs_below (R2.out) hb (R2.out).lt); replace HB0 := HB0.trans (hb.mono HB0.size); have zlh11 := hb.size; obtain ⟨h11a0, h11b0, _, _⟩ := two_cells R0.out; obtain ⟨h11a1, h11b1, _, _⟩ := two_cells R1.out; obtain ⟨h11a2, h11b2, _, _⟩ := two_cells R2.out; obtain ⟨h11n0, h11n1, h11n2, h11n3⟩ := two_cells SN.out; clear hb)
        | (go_at_call 16; (with_reducible refine (toShare_any x2 y2 (p11)).mono ?_); rintro e p12 ⟨rfl, hb⟩; replace R0 := Lib.hid (rowIs_below (R0.out) hb (R0.out).lt); replace R1 := Lib.hid (rowIs_below (R1.out) hb (R1.out).lt); replace R2 := Lib.hid (rowIs_below (R2.out) hb (R2.out).lt); replace HB0 := HB0.trans (hb.mono HB0.size); have zlp12 := hb.size; obtain ⟨p12a0, p12b0, _, _⟩ := two_cells R0.out; obtain ⟨p12a1, p12b1, _, _⟩ := two_cells R1.out; obtain ⟨p12a2, p12b2, _, _⟩ := two_cells R2.out; clear hb)
        | (go_at_call 16; (with_reducible refine (toShare_any x2 y2 ((p11).alloc (.cells #[.int .i64 0, .int .i64 0] 23))).mono ?_); rintro e h12 ⟨rfl, hb⟩; have hgb : w.heap.size + 3 ≤ (p11).heap.size := (by omega); have SN := Lib.hid (rowIs_below (two_new (p11) 0 0 23) hb (two_new (p11) 0 0 23).lt); replace R0 := Lib.hid (rowIs_below (R0.out.alloc _) hb (R0.out.alloc _).lt); replace R1 := Lib.hid (rowIs_below (R1.out.alloc _) hb (R1.out.alloc _).lt); replace R2 := Lib.hid (rowIs_below (R2.out.alloc _) hb (R2.out.alloc _).lt); replace HB0 := HB0.alloc HB0.size (.cells #[.int .i64 0, .int .i64 0] 23); replace HB0 := HB0.trans (hb.mono HB0.size); have zlh12 := hb.size; obtain ⟨h12a0, h12b0, _, _⟩ := two_cells R0.out; obtain ⟨h12a1, h12b1, _, _⟩ := two_cells R1.out; obtain ⟨h12a2, h12b2, _, _⟩ := two_cells R2.out; obtain ⟨h12n0, h12n1, h12n2, h12n3⟩ := two_cells SN.out; clear hb)
        | (go_at_call 16; (with_reducible refine (toShare_any x2 y2 (h11)).mono ?_); rintro e h12 ⟨rfl, hb⟩; replace SN := Lib.hid (rowIs_below SN.out hb SN.out.lt); replace R0 := Lib.hid (rowIs_below (R0.out) hb (R0.out).lt); replace R1 := Lib.hid (rowIs_below (R1.out) hb (R1.out).lt); replace R2 := Lib.hid (rowIs_below (R2.out) hb (R2.out).lt); replace HB0 := HB0.trans (hb.mono HB0.size); have zlh12 := hb.size; obtain ⟨h12a0, h12b0, _, _⟩ := two_cells R0.out; obtain ⟨h12a1, h12b1, _, _⟩ := two_cells R1.out; obtain ⟨h12a2, h12b2, _, _⟩ := two_cells R2.out; obtain ⟨h12n0, h12n1, h12n2, h12n3⟩ := two_cells SN.out; clear hb)
        | (go_at_call 18; (with_reducible refine (SP.out (p12)).mono ?_); rintro e p13 ⟨rfl, hb⟩; replace R0 := Lib.hid (rowIs_below (R0.out) hb (R0.out).lt); replace R1 := Lib.hid (rowIs_below (R1.out) hb (R1.out).lt); replace R2 := Lib.hid (rowIs_below (R2.out) hb (R2.out).lt); replace HB0 := HB0.trans (hb.mono HB0.size); have zlp13 := hb.size; obtain ⟨p13a0, p13b0, _, _⟩ := two_cells R0.out; obtain ⟨p13a1, p13b1, _, _⟩ := two_cells R1.out; obtain ⟨p13a2, p13b2, _, _⟩ := two_cells R2.out; clear hb)
        | (go_at_call 18; (with_reducible refine (SP.out ((p12).alloc (.cells #[.int .i64 0, .int .i64 0] 23))).mono ?_); rintro e h13 ⟨rfl, hb⟩; have hgb : w.heap.size + 3 ≤ (p12).heap.size := (by omega); have SN := Lib.hid (rowIs_below (two_new (p12) 0 0 23) hb (two_new (p12) 0 0 23).lt); replace R0 := Lib.hid (rowIs_below (R0.out.alloc _) hb (R0.out.alloc _).lt); replace R1 := Lib.hid (rowIs_below (R1.out.alloc _) hb (R1.out.alloc _).lt); replace R2 := Lib.hid (rowIs_below (R2.out.alloc _) hb (R2.out.alloc _).lt); replace HB0 := HB0.alloc HB0.size (.cells #[.int .i64 0, .int .i64 0] 23); replace HB0 := HB0.trans (hb.mono HB0.size); have zlh13 := hb.size; obtain ⟨h13a0, h13b0, _, _⟩ := two_cells R0.out; obtain ⟨h13a1, h13b1, _, _⟩ := two_cells R1.out; obtain ⟨h13a2, h13b2, _, _⟩ := two_cells R2.out; obtain ⟨h13n0, h13n1, h13n2, h13n3⟩ := two_cells SN.out; have KS := Lib.hid (fun v1 v2 => (And.intro ((two_cells (keep2 R0.out SN.out (by omega) v1 v2)).1) (And.intro ((two_cells (keep2 R0.out SN.out (by omega) v1 v2)).2.1) (And.intro ((two_cells (keep2 R1.out SN.out (by omega) v1 v2)).1) (And.intro ((two_cells (keep2 R1.out SN.out (by omega) v1 v2)).2.1) (And.intro ((two_cells (keep2 R2.out SN.out (by omega) v1 v2)).1) ((two_cells (keep2 R2.out SN.out (by omega) v1 v2)).2.1))))))); have SN2 := Lib.hid (two_set SN.out N D); have RK0 := Lib.hid (keep2 R0.out SN.out (by omega) (.int .i64 N) (.int .i64 D)); have RK1 := Lib.hid (keep2 R1.out SN.out (by omega) (.int .i64 N) (.int .i64 D)); have RK2 := Lib.hid (keep2 R2.out SN.out (by omega) (.int .i64 N) (.int .i64 D)); have HBK := Lib.hid ((HB0.setCell (p := ⟨_, 0, none⟩) (Nat.le_trans (Nat.le_add_right _ _) hgb) (.int .i64 N)).setCell (p := ⟨_, 1, none⟩) (Nat.le_trans (Nat.le_add_right _ _) hgb) (.int .i64 D)); clear hb)
        | (go_at_call 18; (with_reducible refine (SP.out (h12)).mono ?_); rintro e h13 ⟨rfl, hb⟩; replace SN := Lib.hid (rowIs_below SN.out hb SN.out.lt); replace R0 := Lib.hid (rowIs_below (R0.out) hb (R0.out).lt); replace R1 := Lib.hid (rowIs_below (R1.out) hb (R1.out).lt); replace R2 := Lib.hid (rowIs_below (R2.out) hb (R2.out).lt); replace HB0 := HB0.trans (hb.mono HB0.size); have zlh13 := hb.size; obtain ⟨h13a0, h13b0, _, _⟩ := two_cells R0.out; obtain ⟨h13a1, h13b1, _, _⟩ := two_cells R1.out; obtain ⟨h13a2, h13b2, _, _⟩ := two_cells R2.out; obtain ⟨h13n0, h13n1, h13n2, h13n3⟩ := two_cells SN.out; have KS := Lib.hid (fun v1 v2 => (And.intro ((two_cells (keep2 R0.out SN.out (by omega) v1 v2)).1) (And.intro ((two_cells (keep2 R0.out SN.out (by omega) v1 v2)).2.1) (And.intro ((two_cells (keep2 R1.out SN.out (by omega) v1 v2)).1) (And.intro ((two_cells (keep2 R1.out SN.out (by omega) v1 v2)).2.1) (And.intro ((two_cells (keep2 R2.out SN.out (by omega) v1 v2)).1) ((two_cells (keep2 R2.out SN.out (by omega) v1 v2)).2.1))))))); have SN2 := Lib.hid (two_set SN.out N D); have RK0 := Lib.hid (keep2 R0.out SN.out (by omega) (.int .i64 N) (.int .i64 D)); have RK1 := Lib.hid (keep2 R1.out SN.out (by omega) (.int .i64 N) (.int .i64 D)); have RK2 := Lib.hid (keep2 R2.out SN.out (by omega) (.int .i64 N) (.int .i64 D)); have HBK := Lib.hid ((HB0.setCell (p := ⟨_, 0, none⟩) (Nat.le_trans (Nat.le_add_right _ _) hgb) (.int .i64 N)).setCell (p := ⟨_, 1, none⟩) (Nat.le_trans (Nat.le_add_right _ _) hgb) (.int .i64 D)); clear hb)
        | fail)
    all_goals
      go_wp2
      go_meet
      first
      | exact ⟨_, rfl, rfl, SN2.out, RK0.out, RK1.out, RK2.out, HBK.out, hgb⟩
      | exact ⟨_, rfl, rfl, two_new p13 N D 23, R0.out.alloc _, R1.out.alloc _, R2.out.alloc _, HB0.alloc HB0.size _, (by omega)⟩
  case rest =>
    obtain ⟨g1, rfl, rfl, rx, r0, r1, r2, HB0, hg1⟩ := hcut
    have R0 := Lib.hid r0
    have R1 := Lib.hid r1
    have R2 := Lib.hid r2
    have RX := Lib.hid rx
    clear rx r0 r1 r2
    obtain ⟨w1, hw1⟩ : ∃ x, x = wc := ⟨_, rfl⟩
    subst hw1
    go_upto_region 2 with fail
    go_cut [9, 10] (fun t c wx => ∃ g, t = .pointer (some ⟨g, 0, none⟩) ∧ c = .int .i64 C ∧ wx.rowIs g 23 2 (two N D) ∧ wx.rowIs (w.heap.size) 32 2 (two x0 y0) ∧ wx.rowIs (w.heap.size + 1) 32 2 (two x1 y1) ∧ wx.rowIs (w.heap.size + 1 + 1) 32 2 (two x2 y2) ∧ wx.rowIs g1 23 2 (two N D) ∧ Below w.heap.size w wx ∧ w.heap.size + 3 ≤ g)
    case first =>
      obtain ⟨a00, a01, _, _⟩ := two_cells R0.out
      obtain ⟨a10, a11, _, _⟩ := two_cells R1.out
      obtain ⟨a20, a21, _, _⟩ := two_cells R2.out
      replace R0 := Lib.hid (rowIs_drewN R0.out 1)
      replace R1 := Lib.hid (rowIs_drewN R1.out 1)
      replace R2 := Lib.hid (rowIs_drewN R2.out 1)
      replace HB0 : Below w.heap.size w (w1).drew := below_drewN HB0 1
      have hx0 : g1 < (w1).heap.size := RX.out.lt
      have hx1 : g1 < (w1).drew.heap.size := RX.out.lt
      have hx2 : (w1).drew.heap.size = (w1).heap.size := rfl
      replace hx2 := Nat.le_of_eq hx2
      replace RX := Lib.hid (rowIs_drewN RX.out 1)
      have hz0 : w.heap.size + 3 ≤ (w1).drew.heap.size := (by first | omega | (simp; done) | (simp; omega))
      go_region_held3 (fun w' => w'.cell? ⟨w.heap.size, 0, none⟩ = some (.int .i64 x0) ∧ w'.cell? ⟨w.heap.size, 1, none⟩ = some (.int .i64 y0) ∧ w'.cell? ⟨w.heap.size + 1, 0, none⟩ = some (.int .i64 x1) ∧ w'.cell? ⟨w.heap.size + 1, 1, none⟩ = some (.int .i64 y1) ∧ w'.cell? ⟨w.heap.size + 1 + 1, 0, none⟩ = some (.int .i64 x2) ∧ w'.cell? ⟨w.heap.size + 1 + 1, 1, none⟩ = some (.int .i64 y2))
        (first | exact KS.out _ _ | exact ⟨(two_cells (R0.out)).1, (two_cells (R0.out)).2.1, (two_cells (R1.out)).1, (two_cells (R1.out)).2.1, (two_cells (R2.out)).1, (two_cells (R2.out)).2.1⟩ | exact ⟨(two_cells (R0.out.alloc _)).1, (two_cells (R0.out.alloc _)).2.1, (two_cells (R1.out.alloc _)).1, (two_cells (R1.out.alloc _)).2.1, (two_cells (R2.out.alloc _)).1, (two_cells (R2.out.alloc _)).2.1⟩ | go_keep)
        (first
          | (go_at_call 16; (with_reducible refine (toShare_any x0 y0 (w1.drew)).mono ?_); rintro e p20 ⟨rfl, hb⟩; replace R0 := Lib.hid (rowIs_below (R0.out) hb (R0.out).lt); replace R1 := Lib.hid (rowIs_below (R1.out) hb (R1.out).lt); replace R2 := Lib.hid (rowIs_below (R2.out) hb (R2.out).lt); replace RX := Lib.hid (rowIs_below (RX.out) hb (RX.out).lt); replace HB0 := HB0.trans (hb.mono HB0.size); have zlp20 := hb.size; obtain ⟨p20a0, p20b0, _, _⟩ := two_cells R0.out; obtain ⟨p20a1, p20b1, _, _⟩ := two_cells R1.out; obtain ⟨p20a2, p20b2, _, _⟩ := two_cells R2.out; clear hb)
          | (go_at_call 16; (with_reducible refine (toShare_any x0 y0 ((w1.alloc (.cells #[.int .i64 0, .int .i64 0] 23)).drew)).mono ?_); rintro e h20 ⟨rfl, hb⟩; have hgb : w.heap.size + 3 ≤ w1.heap.size := (by first | omega | (simp at hz0; omega)); have sn0 := two_new (w1) 0 0 23; (try simp only [World.size_alloc] at sn0); have SN := Lib.hid (rowIs_below (w := (w1.alloc (.cells #[.int .i64 0, .int .i64 0] 23)).drew) sn0 hb sn0.lt); clear sn0; replace R0 := Lib.hid (rowIs_below (R0.out.alloc _) hb (R0.out.alloc _).lt); replace R1 := Lib.hid (rowIs_below (R1.out.alloc _) hb (R1.out.alloc _).lt); replace R2 := Lib.hid (rowIs_below (R2.out.alloc _) hb (R2.out.alloc _).lt); replace RX := Lib.hid (rowIs_below (RX.out.alloc _) hb (RX.out.alloc _).lt); replace HB0 := HB0.alloc HB0.size (.cells #[.int .i64 0, .int .i64 0] 23); replace HB0 := HB0.trans (hb.mono HB0.size); have zlh20 := hb.size; obtain ⟨h20a0, h20b0, _, _⟩ := two_cells R0.out; obtain ⟨h20a1, h20b1, _, _⟩ := two_cells R1.out; obtain ⟨h20a2, h20b2, _, _⟩ := two_cells R2.out; obtain ⟨h20n0, h20n1, h20n2, h20n3⟩ := two_cells SN.out; clear hb)
          | (go_at_call 16; (with_reducible refine (toShare_any x1 y1 (p20)).mono ?_); rintro e p21 ⟨rfl, hb⟩; replace R0 := Lib.hid (rowIs_below (R0.out) hb (R0.out).lt); replace R1 := Lib.hid (rowIs_below (R1.out) hb (R1.out).lt); replace R2 := Lib.hid (rowIs_below (R2.out) hb (R2.out).lt); replace RX := Lib.hid (rowIs_below (RX.out) hb (RX.out).lt); replace HB0 := HB0.trans (hb.mono HB0.size); have zlp21 := hb.size; obtain ⟨p21a0, p21b0, _, _⟩ := two_cells R0.out; obtain ⟨p21a1, p21b1, _, _⟩ := two_cells R1.out; obtain ⟨p21a2, p21b2, _, _⟩ := two_cells R2.out; clear hb)
          | (go_at_call 16; (with_reducible refine (toShare_any x1 y1 ((p20).alloc (.cells #[.int .i64 0, .int .i64 0] 23))).mono ?_); rintro e h21 ⟨rfl, hb⟩; have hgb : w.heap.size + 3 ≤ (p20).heap.size := (by omega); have SN := Lib.hid (rowIs_below (two_new (p20) 0 0 23) hb (two_new (p20) 0 0 23).lt); replace R0 := Lib.hid (rowIs_below (R0.out.alloc _) hb (R0.out.alloc _).lt); replace R1 := Lib.hid (rowIs_below (R1.out.alloc _) hb (R1.out.alloc _).lt); replace R2 := Lib.hid (rowIs_below (R2.out.alloc _) hb (R2.out.alloc _).lt); replace RX := Lib.hid (rowIs_below (RX.out.alloc _) hb (RX.out.alloc _).lt); replace HB0 := HB0.alloc HB0.size (.cells #[.int .i64 0, .int .i64 0] 23); replace HB0 := HB0.trans (hb.mono HB0.size); have zlh21 := hb.size; obtain ⟨h21a0, h21b0, _, _⟩ := two_cells R0.out; obtain ⟨h21a1, h21b1, _, _⟩ := two_cells R1.out; obtain ⟨h21a2, h21b2, _, _⟩ := two_cells R2.out; obtain ⟨h21n0, h21n1, h21n2, h21n3⟩ := two_cells SN.out; clear hb)
          | (go_at_call 16; (with_reducible refine (toShare_any x1 y1 (h20)).mono ?_); rintro e h21 ⟨rfl, hb⟩; replace SN := Lib.hid (rowIs_below SN.out hb SN.out.lt); replace R0 := Lib.hid (rowIs_below (R0.out) hb (R0.out).lt); replace R1 := Lib.hid (rowIs_below (R1.out) hb (R1.out).lt); replace R2 := Lib.hid (rowIs_below (R2.out) hb (R2.out).lt); replace RX := Lib.hid (rowIs_below (RX.out) hb (RX.out).lt); replace HB0 := HB0.trans (hb.mono HB0.size); have zlh21 := hb.size; obtain ⟨h21a0, h21b0, _, _⟩ := two_cells R0.out; obtain ⟨h21a1, h21b1, _, _⟩ := two_cells R1.out; obtain ⟨h21a2, h21b2, _, _⟩ := two_cells R2.out; obtain ⟨h21n0, h21n1, h21n2, h21n3⟩ := two_cells SN.out; clear hb)
          | (go_at_call 16; (with_reducible refine (toShare_any x2 y2 (p21)).mono ?_); rintro e p22 ⟨rfl, hb⟩; replace R0 := Lib.hid (rowIs_below (R0.out) hb (R0.out).lt); replace R1 := Lib.hid (rowIs_below (R1.out) hb (R1.out).lt); replace R2 := Lib.hid (rowIs_below (R2.out) hb (R2.out).lt); replace RX := Lib.hid (rowIs_below (RX.out) hb (RX.out).lt); replace HB0 := HB0.trans (hb.mono HB0.size); have zlp22 := hb.size; obtain ⟨p22a0, p22b0, _, _⟩ := two_cells R0.out; obtain ⟨p22a1, p22b1, _, _⟩ := two_cells R1.out; obtain ⟨p22a2, p22b2, _, _⟩ := two_cells R2.out; clear hb)
          | (go_at_call 16; (with_reducible refine (toShare_any x2 y2 ((p21).alloc (.cells #[.int .i64 0, .int .i64 0] 23))).mono ?_); rintro e h22 ⟨rfl, hb⟩; have hgb : w.heap.size + 3 ≤ (p21).heap.size := (by omega); have SN := Lib.hid (rowIs_below (two_new (p21) 0 0 23) hb (two_new (p21) 0 0 23).lt); replace R0 := Lib.hid (rowIs_below (R0.out.alloc _) hb (R0.out.alloc _).lt); replace R1 := Lib.hid (rowIs_below (R1.out.alloc _) hb (R1.out.alloc _).lt); replace R2 := Lib.hid (rowIs_below (R2.out.alloc _) hb (R2.out.alloc _).lt); replace RX := Lib.hid (rowIs_below (RX.out.alloc _) hb (RX.out.alloc _).lt); replace HB0 := HB0.alloc HB0.size (.cells #[.int .i64 0, .int .i64 0] 23); replace HB0 := HB0.trans (hb.mono HB0.size); have zlh22 := hb.size; obtain ⟨h22a0, h22b0, _, _⟩ := two_cells R0.out; obtain ⟨h22a1, h22b1, _, _⟩ := two_cells R1.out; obtain ⟨h22a2, h22b2, _, _⟩ := two_cells R2.out; obtain ⟨h22n0, h22n1, h22n2, h22n3⟩ := two_cells SN.out; clear hb)
          | (go_at_call 16; (with_reducible refine (toShare_any x2 y2 (h21)).mono ?_); rintro e h22 ⟨rfl, hb⟩; replace SN := Lib.hid (rowIs_below SN.out hb SN.out.lt); replace R0 := Lib.hid (rowIs_below (R0.out) hb (R0.out).lt); replace R1 := Lib.hid (rowIs_below (R1.out) hb (R1.out).lt); replace R2 := Lib.hid (rowIs_below (R2.out) hb (R2.out).lt); replace RX := Lib.hid (rowIs_below (RX.out) hb (RX.out).lt); replace HB0 := HB0.trans (hb.mono HB0.size); have zlh22 := hb.size; obtain ⟨h22a0, h22b0, _, _⟩ := two_cells R0.out; obtain ⟨h22a1, h22b1, _, _⟩ := two_cells R1.out; obtain ⟨h22a2, h22b2, _, _⟩ := two_cells R2.out; obtain ⟨h22n0, h22n1, h22n2, h22n3⟩ := two_cells SN.out; clear hb)
          | (go_at_call 19; (with_reducible refine (IM.out (p22)).mono ?_); rintro e p23 ⟨rfl, hb⟩; replace R0 := Lib.hid (rowIs_below (R0.out) hb (R0.out).lt); replace R1 := Lib.hid (rowIs_below (R1.out) hb (R1.out).lt); replace R2 := Lib.hid (rowIs_below (R2.out) hb (R2.out).lt); replace RX := Lib.hid (rowIs_below (RX.out) hb (RX.out).lt); replace HB0 := HB0.trans (hb.mono HB0.size); have zlp23 := hb.size; obtain ⟨p23a0, p23b0, _, _⟩ := two_cells R0.out; obtain ⟨p23a1, p23b1, _, _⟩ := two_cells R1.out; obtain ⟨p23a2, p23b2, _, _⟩ := two_cells R2.out; clear hb)
          | (go_at_call 19; (with_reducible refine (IM.out ((p22).alloc (.cells #[.int .i64 0, .int .i64 0] 23))).mono ?_); rintro e h23 ⟨rfl, hb⟩; have hgb : w.heap.size + 3 ≤ (p22).heap.size := (by omega); have SN := Lib.hid (rowIs_below (two_new (p22) 0 0 23) hb (two_new (p22) 0 0 23).lt); replace R0 := Lib.hid (rowIs_below (R0.out.alloc _) hb (R0.out.alloc _).lt); replace R1 := Lib.hid (rowIs_below (R1.out.alloc _) hb (R1.out.alloc _).lt); replace R2 := Lib.hid (rowIs_below (R2.out.alloc _) hb (R2.out.alloc _).lt); replace RX := Lib.hid (rowIs_below (RX.out.alloc _) hb (RX.out.alloc _).lt); replace HB0 := HB0.alloc HB0.size (.cells #[.int .i64 0, .int .i64 0] 23); replace HB0 := HB0.trans (hb.mono HB0.size); have zlh23 := hb.size; obtain ⟨h23a0, h23b0, _, _⟩ := two_cells R0.out; obtain ⟨h23a1, h23b1, _, _⟩ := two_cells R1.out; obtain ⟨h23a2, h23b2, _, _⟩ := two_cells R2.out; obtain ⟨h23n0, h23n1, h23n2, h23n3⟩ := two_cells SN.out; have KS := Lib.hid (fun v1 v2 => (And.intro ((two_cells (keep2 R0.out SN.out (by omega) v1 v2)).1) (And.intro ((two_cells (keep2 R0.out SN.out (by omega) v1 v2)).2.1) (And.intro ((two_cells (keep2 R1.out SN.out (by omega) v1 v2)).1) (And.intro ((two_cells (keep2 R1.out SN.out (by omega) v1 v2)).2.1) (And.intro ((two_cells (keep2 R2.out SN.out (by omega) v1 v2)).1) ((two_cells (keep2 R2.out SN.out (by omega) v1 v2)).2.1))))))); have SN2 := Lib.hid (two_set SN.out N D); have RK0 := Lib.hid (keep2 R0.out SN.out (by omega) (.int .i64 N) (.int .i64 D)); have RK1 := Lib.hid (keep2 R1.out SN.out (by omega) (.int .i64 N) (.int .i64 D)); have RK2 := Lib.hid (keep2 R2.out SN.out (by omega) (.int .i64 N) (.int .i64 D)); have RKX := Lib.hid (keep2 RX.out SN.out (by omega) (.int .i64 N) (.int .i64 D)); have HBK := Lib.hid ((HB0.setCell (p := ⟨_, 0, none⟩) (Nat.le_trans (Nat.le_add_right _ _) hgb) (.int .i64 N)).setCell (p := ⟨_, 1, none⟩) (Nat.le_trans (Nat.le_add_right _ _) hgb) (.int .i64 D)); clear hb)
          | (go_at_call 19; (with_reducible refine (IM.out (h22)).mono ?_); rintro e h23 ⟨rfl, hb⟩; replace SN := Lib.hid (rowIs_below SN.out hb SN.out.lt); replace R0 := Lib.hid (rowIs_below (R0.out) hb (R0.out).lt); replace R1 := Lib.hid (rowIs_below (R1.out) hb (R1.out).lt); replace R2 := Lib.hid (rowIs_below (R2.out) hb (R2.out).lt); replace RX := Lib.hid (rowIs_below (RX.out) hb (RX.out).lt); replace HB0 := HB0.trans (hb.mono HB0.size); have zlh23 := hb.size; obtain ⟨h23a0, h23b0, _, _⟩ := two_cells R0.out; obtain ⟨h23a1, h23b1, _, _⟩ := two_cells R1.out; obtain ⟨h23a2, h23b2, _, _⟩ := two_cells R2.out; obtain ⟨h23n0, h23n1, h23n2, h23n3⟩ := two_cells SN.out; have KS := Lib.hid (fun v1 v2 => (And.intro ((two_cells (keep2 R0.out SN.out (by omega) v1 v2)).1) (And.intro ((two_cells (keep2 R0.out SN.out (by omega) v1 v2)).2.1) (And.intro ((two_cells (keep2 R1.out SN.out (by omega) v1 v2)).1) (And.intro ((two_cells (keep2 R1.out SN.out (by omega) v1 v2)).2.1) (And.intro ((two_cells (keep2 R2.out SN.out (by omega) v1 v2)).1) ((two_cells (keep2 R2.out SN.out (by omega) v1 v2)).2.1))))))); have SN2 := Lib.hid (two_set SN.out N D); have RK0 := Lib.hid (keep2 R0.out SN.out (by omega) (.int .i64 N) (.int .i64 D)); have RK1 := Lib.hid (keep2 R1.out SN.out (by omega) (.int .i64 N) (.int .i64 D)); have RK2 := Lib.hid (keep2 R2.out SN.out (by omega) (.int .i64 N) (.int .i64 D)); have RKX := Lib.hid (keep2 RX.out SN.out (by omega) (.int .i64 N) (.int .i64 D)); have HBK := Lib.hid ((HB0.setCell (p := ⟨_, 0, none⟩) (Nat.le_trans (Nat.le_add_right _ _) hgb) (.int .i64 N)).setCell (p := ⟨_, 1, none⟩) (Nat.le_trans (Nat.le_add_right _ _) hgb) (.int .i64 D)); clear hb)
          | fail)
      all_goals
        go_wp2
        go_meet
        first
        | exact ⟨_, rfl, rfl, SN2.out, RK0.out, RK1.out, RK2.out, RKX.out, HBK.out, hgb⟩
        | exact ⟨_, rfl, rfl, two_new p23 N D 23, R0.out.alloc _, R1.out.alloc _, R2.out.alloc _, RX.out.alloc _, HB0.alloc HB0.size _, (by omega)⟩
    case rest =>
      obtain ⟨g2, rfl, rfl, ry, r0, r1, r2, rx, HB0, hg2⟩ := hcut
      obtain ⟨a0, a1, _, _⟩ := two_cells rx
      obtain ⟨b0, b1, _, _⟩ := two_cells ry
      have HB1 := Lib.hid HB0
      clear rx ry HB0 r0 r1 r2
      go_wp2_with fail
      refine (eqShare_same _ _ _).mono ?_
      rintro e w3 ⟨rfl, hb⟩
      go_wp2_with fail
      go_ret
      exact ⟨rfl, HB1.out.trans (hb.mono HB1.out.size)⟩
namespace fnExactTakePoint
set_option linter.unusedVariables false
set_option maxRecDepth 100000 in
theorem lifted (os : Os) (started : os.Started) (H : Type) (enc : TypeId × Value → H) :
    ReturnsInHanded {} Try.checked os 6 .any (Rows.fnExactTakePointSpec.pre6 enc Try.prog Try.f6 Rows.fnExactTakePointRow.domain false) (Rows.fnExactTakePointSpec.post enc Try.prog Try.f6 false true false false) := by
  refine returnsInHanded_of_change (C := Try.checked) own started (by kernel_rfl) Try.func6
    (ChangeSpec.witness6 (enc := enc) (C := Try.checked) false ⟨#[], #[.agg #[.int .i64 0, .int .i64 0], .agg #[.int .i64 0, .int .i64 0], .agg #[.int .i64 0, .int .i64 0]], []⟩ 8 (by kernel_rfl) (by kernel_rfl) (by kernel_rfl) (by kernel_rfl)) ?_
  intro W base args ds gs before hval0 hW hcnd _
  have hval : ∀ (j : Nat) t v, Try.f6.params[j]? = some t → args[j]? = some v → Value.okWide Try.prog W .any base t v := hval0
  have hW' := hW
  obtain ⟨p, q, hA0, hV, rfl, hfz, hnd⟩ := hW
  have hA : DataW.TrodAll enc Try.prog W 0 (fun _ => true) true Try.f6.params.toList args.toList ds p := hA0
  rw [Try.params6] at hA hval
  obtain ⟨v0, vs0, d0, ds0, p0, q0, hargs, rfl, rfl, h0, r0⟩ := trodAll_cons hA
  obtain ⟨v1, vs1, d1, ds1, p1, q1, rfl, rfl, rfl, h1, r1⟩ := trodAll_cons r0
  obtain ⟨v2, vs2, d2, ds2, p2, q2, rfl, rfl, rfl, h2, r2⟩ := trodAll_cons r1
  obtain ⟨rfl, rfl, rfl⟩ := trodAll_nil r2
  obtain rfl : args = #[v0, v1, v2] := by cases args; simp_all
  obtain ⟨rfl, rfl⟩ := trodVars_none hV
  obtain ⟨x0, y0, rfl, wx0⟩ := open_int2 Try.underlying32 (by kernel_rfl) (by kernel_rfl) Try.underlying2 Try.underlying2 (hval 0 32 v0 rfl rfl) h0
  obtain ⟨x1, y1, rfl, wx1⟩ := open_int2 Try.underlying32 (by kernel_rfl) (by kernel_rfl) Try.underlying2 Try.underlying2 (hval 1 32 v1 rfl rfl) h1
  obtain ⟨x2, y2, rfl, wx2⟩ := open_int2 Try.underlying32 (by kernel_rfl) (by kernel_rfl) Try.underlying2 Try.underlying2 (hval 2 32 v2 rfl rfl) h2
  clear hA0 hval0
  refine (walk_FnExactTakePoint W x0 y0 wx0 x1 y1 wx1 x2 y2 wx2).mono fun e W' ⟨he, bel⟩ => ?_
  subst he
  exact ⟨_, rfl, _, _, _, [], _, [], hW', trodAll_mk1 (shut_bool Try.underlying4 _), (trodAll_cons_mk (Below.trod laidOut (by kernel_rfl) (of_decide_eq_true (by kernel_rfl)) h0 bel (lt_of_trod h0)) (trodAll_cons_mk (Below.trod laidOut (by kernel_rfl) (of_decide_eq_true (by kernel_rfl)) h1 bel (lt_of_trod h1)) (trodAll_cons_mk (Below.trod laidOut (by kernel_rfl) (of_decide_eq_true (by kernel_rfl)) h2 bel (lt_of_trod h2)) trodAll_mk0))), rfl, bel.frame _, fun h => by cases h⟩

theorem over : Rows.fnExactTakePointRow.holds Try.pinned (OpenSpec.ofChange Rows.fnExactTakePointSpec) :=
  OpenClaim.holds_of_wide 6 Try.f6 rfl rfl rfl rfl rfl rfl rfl ⟨rfl, rfl, rfl, rfl, rfl⟩ rfl rfl rfl rfl rfl (by kernel_rfl) Try.func6 (by kernel_rfl)
    (of_decide_eq_true (by kernel_rfl)) (by unfold Func.isWrapper; first | (rw [if_pos (by decide +kernel)]; kernel_rfl) | (rw [if_neg (by decide +kernel)]; exact ⟨rfl, rfl⟩))
    (fun os started H enc _ => lifted os started H enc)
theorem proved : Rows.FnExactTakePointSaid := over
#print axioms proved
end fnExactTakePoint
end Go.Proofs.Ytjagidpjdajpnaa
