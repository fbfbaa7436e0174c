/-
  FnExactInputsOf returns true for all arguments: InputsOf of the program and of the reference agree, the list is new memory, and the board is left as it was. No condition.
-/
import Derived.Test.YtoolggmomlmnbaaFeatH
import Derived.StillTailTactics
import Derived.RegionTactic
import Derived.BigRegion
import Derived.Deep.RegionWith
import Derived.Deep.RegionHeld3
namespace Go.Proofs.Ytoolggmomlmnbaa
open Go.ChangeShapes Go.WideShapes Go.ChangeAt Go.RowKit Go.Joins Go.Deep
set_option linter.unusedVariables false

set_option maxRecDepth 100000 in
set_option maxHeartbeats 6400000 in
theorem walk_FnExactInputsOf (w : World) (px0 cx0 hx0 sx0 : Int) (wx0 : (Lit.int .i64 px0).wf = true ∧ (Lit.int .i64 cx0).wf = true ∧ (Lit.int .i64 hx0).wf = true ∧ (Lit.int .i64 sx0).wf = true) (ax1 : Option Addr) (nx1 cx1 : Nat) (x1 : List Int) (bx1 : Option Addr) (mx1 dx1 : Nat) (yx1 : List Int) (wx1 : IntsArg w .i64 ax1 nx1 x1 ∧ IntsArg w .i64 bx1 mx1 yx1) :
    Calls Try.prog 10 #[.agg #[.int .i64 px0, .int .i64 cx0, .int .i64 hx0, .int .i64 sx0], bdV ax1 nx1 cx1 bx1 mx1 dx1] w fun e w' => e = .returned (.bool true) ∧ Below w.heap.size w w' := by
  obtain ⟨⟨hI, hmx, _⟩, ⟨hJ, hmy, _⟩⟩ := wx1
  have HB := ((Below.refl w.heap.size w).alloc (Nat.le_refl _) (.cells #[.int .i64 px0, .int .i64 cx0, .int .i64 hx0, .int .i64 sx0] 23)).alloc (by simp) (.cells #[.slice ax1 nx1 cx1, .slice bx1 mx1 dx1] 26)
  by_cases hbig : 1048576 < nx1 + mx1
  · go_enter Try.func10, Try.ntmps10
    go_wp2_with fail
    refine (szBoard_no _ _ _ _ _ _ _ hmx hmy hbig).mono ?_
    rintro e w1 ⟨rfl, hb⟩
    go_wp2_with fail
    go_ret
    exact ⟨rfl, HB.trans (hb.mono HB.size)⟩
  have hs : nx1 + mx1 ≤ 1048576 := by omega
  have hn : nx1 ≤ 1048576 := by omega
  have hm : mx1 ≤ 1048576 := by omega
  clear hbig
  have hL := (vr4_new w (.int .i64 px0) (.int .i64 cx0) (.int .i64 hx0) (.int .i64 sx0) 23).alloc (.cells #[.slice ax1 nx1 cx1, .slice bx1 mx1 dx1] 26)
  have hK := pr_new (w.alloc (.cells #[.int .i64 px0, .int .i64 cx0, .int .i64 hx0, .int .i64 sx0] 23)) (.slice ax1 nx1 cx1) (.slice bx1 mx1 dx1) 26
  simp only [World.size_alloc] at hK
  have z0 : ((w.alloc (.cells #[.int .i64 px0, .int .i64 cx0, .int .i64 hx0, .int .i64 sx0] 23)).alloc (.cells #[.slice ax1 nx1 cx1, .slice bx1 mx1 dx1] 26)).heap.size = w.heap.size + 1 + 1 := by simp
  have hsz : 0 ≤ (1048576 : Int) - nx1 - mx1 := by omega
  have hn0 : decide ((1048576 : Int) - nx1 - mx1 < 0) = false := by simp; omega
  replace hI := hI.below HB
  replace hJ := hJ.below HB
  have HL := Lib.hid hL
  have HK := Lib.hid hK
  clear hL hK
  go_enter Try.func10, Try.ntmps10
  go_wp2_with fail
  refine (szBoard_yes _ _ _ _ _ _ _ hs).mono ?_
  rintro e w1 ⟨rfl, hb⟩
  have z1 := hb.size
  replace hI := hI.below (hb.mono HB.size)
  replace hJ := hJ.below (hb.mono HB.size)
  replace HL := Lib.hid (rowIs_below HL.out hb HL.out.lt)
  replace HK := Lib.hid (rowIs_below HK.out hb HK.out.lt)
  replace HB := HB.trans (hb.mono HB.size)
  clear hb
  obtain ⟨V, hV⟩ : ∃ V : List Int, inpB px0 cx0 hx0 sx0 nx1 x1 mx1 yx1 = V := ⟨_, rfl⟩
  have hle : V.length ≤ 1048576 := by rw [← hV]; exact inpB_le
  obtain ⟨C, hC⟩ : ∃ C : Int, bdC px0 cx0 hx0 sx0 nx1 x1 mx1 yx1 = C := ⟨_, rfl⟩
  have hcc : (C != C) = false := by simp
  have SP := Lib.hid (fun W g k n1 m1 (k1 : Ints W W.heap.size .i64 g nx1 x1) (k2 : Ints W W.heap.size .i64 k mx1 yx1) => (spec_InputsOf_any px0 cx0 hx0 sx0 g nx1 n1 x1 k mx1 m1 yx1 _ W k1 k2 (Nat.le_refl _) hn hm))
  have IM := Lib.hid (fun W g k n1 m1 (k1 : Ints W W.heap.size .i64 g nx1 x1) (k2 : Ints W W.heap.size .i64 k mx1 yx1) => (impl_InputsOf_any px0 cx0 hx0 sx0 g nx1 n1 x1 k mx1 m1 yx1 _ W k1 k2 (Nat.le_refl _) hn hm))
  rw [hV, hC] at SP IM
  clear hV hC
  obtain ⟨l00, l01, l02, l03⟩ := vr4_cells HL.out
  obtain ⟨l10, l11⟩ := pr_cells HK.out
  go_wp2_with fail
  replace hI := ints_drew hI
  replace hJ := ints_drew hJ
  replace HL := Lib.hid (rowIs_drewN HL.out 1)
  replace HK := Lib.hid (rowIs_drewN HK.out 1)
  replace HB : Below w.heap.size w w1.drew := below_drewN HB 1
  have zd1 : w1.drew.heap.size = w1.heap.size := rfl
  go_region_held3 (fun w' => w'.cell? ⟨w.heap.size, 0, none⟩ = some (.int .i64 px0) ∧ w'.cell? ⟨w.heap.size, 1, none⟩ = some (.int .i64 cx0) ∧ w'.cell? ⟨w.heap.size, 2, none⟩ = some (.int .i64 hx0) ∧ w'.cell? ⟨w.heap.size, 3, none⟩ = some (.int .i64 sx0) ∧ w'.cell? ⟨w.heap.size + 1, 0, none⟩ = some (.slice ax1 nx1 cx1) ∧ w'.cell? ⟨w.heap.size + 1, 1, none⟩ = some (.slice bx1 mx1 dx1))
    (go_keep)
    (first
      | (go_at_call 15; refine (toVariant_any _ _ _ _ _).mono ?_; rintro e w2 ⟨rfl, hb⟩; have z2 := hb.size; replace hI := hI.below (hb.mono HB.size); replace hJ := hJ.below (hb.mono HB.size); replace HL := Lib.hid (rowIs_below HL.out hb HL.out.lt); replace HK := Lib.hid (rowIs_below HK.out hb HK.out.lt); replace HB := HB.trans (hb.mono HB.size); clear hb; obtain ⟨y2_00, y2_01, y2_02, y2_03⟩ := vr4_cells HL.out; obtain ⟨y2_10, y2_11⟩ := pr_cells HK.out)
      | (go_at_call 16; refine (toBoard_any _ _ _ _ _ _ _ _ _ (hI.more HB.size) (hJ.more HB.size) hn hm).mono ?_; rintro e w3 ⟨g1, k1, j1, rfl, hr1, hs1, hj1, hi1, hb⟩; have z3 := hb.size; replace hI := hI.below (hb.mono HB.size); replace hJ := hJ.below (hb.mono HB.size); replace HL := Lib.hid (rowIs_below HL.out hb HL.out.lt); replace HK := Lib.hid (rowIs_below HK.out hb HK.out.lt); replace HB := HB.trans (hb.mono HB.size); clear hb; obtain ⟨y3_00, y3_01, y3_02, y3_03⟩ := vr4_cells HL.out; obtain ⟨y3_10, y3_11⟩ := pr_cells HK.out)
      | (go_at_call 40; refine (SP.out _ _ _ _ _ (hr1.ints hI.len) (hs1.ints hJ.len)).mono ?_; rintro e w4 ⟨a1, e1, c1, rfl, el1, hg1, hb⟩; have z4 := hb.size; replace hI := hI.below (hb.mono HB.size); replace hJ := hJ.below (hb.mono HB.size); replace HL := Lib.hid (rowIs_below HL.out hb HL.out.lt); replace HK := Lib.hid (rowIs_below HK.out hb HK.out.lt); replace hr1 := hr1.below hb; replace hs1 := hs1.below hb; replace HB := HB.trans (hb.mono HB.size); clear hb; obtain ⟨y4_00, y4_01, y4_02, y4_03⟩ := vr4_cells HL.out; obtain ⟨y4_10, y4_11⟩ := pr_cells HK.out))
  clear l00 l01 l02 l03 l10 l11 y2_00 y2_01 y2_02 y2_03 y2_10 y2_11 y3_00 y3_01 y3_02 y3_03 y3_10 y3_11 y4_00 y4_01 y4_02 y4_03 y4_10 y4_11
  subst el1
  obtain ⟨l00, l01, l02, l03⟩ := vr4_cells HL.out
  obtain ⟨l10, l11⟩ := pr_cells HK.out
  go_wp2_with fail
  clear l00 l01 l02 l03 l10 l11
  refine (toBoard_any _ _ _ _ _ _ _ _ _ (hI.more HB.size) (hJ.more HB.size) hn hm).mono ?_
  rintro e w5 ⟨g2, k2, j2, rfl, hr2, hs2, hj2, hi2, hb⟩
  have z5 := hb.size
  replace hI := hI.below (hb.mono HB.size)
  replace hJ := hJ.below (hb.mono HB.size)
  replace HL := Lib.hid (rowIs_below HL.out hb HL.out.lt)
  replace HK := Lib.hid (rowIs_below HK.out hb HK.out.lt)
  replace hr1 := hr1.below hb
  replace hs1 := hs1.below hb
  replace hg1 := hg1.below hb
  replace HB := HB.trans (hb.mono HB.size)
  clear hb
  go_wp2_with fail
  have hb := (Below.refl w5.heap.size w5).alloc (Nat.le_refl _) (.cells #[.slice (some ⟨g2, 0, none⟩) nx1 nx1, .slice (some ⟨k2, 0, none⟩) mx1 mx1] 32)
  have hq := pr_new w5 (.slice (some ⟨g2, 0, none⟩) nx1 nx1) (.slice (some ⟨k2, 0, none⟩) mx1 mx1) 32
  obtain ⟨w6, hw6⟩ : ∃ x, x = (w5.alloc (.cells #[.slice (some ⟨g2, 0, none⟩) nx1 nx1, .slice (some ⟨k2, 0, none⟩) mx1 mx1] 32)) := ⟨_, rfl⟩
  rw [← hw6] at hb hq
  have z6 : w5.heap.size + 1 = w6.heap.size := by rw [hw6]; simp
  replace hI := hI.below (hb.mono HB.size)
  replace hJ := hJ.below (hb.mono HB.size)
  replace HL := Lib.hid (rowIs_below HL.out hb HL.out.lt)
  replace HK := Lib.hid (rowIs_below HK.out hb HK.out.lt)
  replace hr1 := hr1.below hb
  replace hs1 := hs1.below hb
  replace hg1 := hg1.below hb
  replace hr2 := hr2.below hb
  replace hs2 := hs2.below hb
  replace HB := HB.trans (hb.mono HB.size)
  have HX := Lib.hid hq
  rw [← hw6]
  clear hb hq hw6
  obtain ⟨l00, l01, l02, l03⟩ := vr4_cells HL.out
  obtain ⟨l10, l11⟩ := pr_cells HK.out
  obtain ⟨l20, l21⟩ := pr_cells HX.out
  go_wp2_with fail
  replace hI := ints_drew hI
  replace hJ := ints_drew hJ
  replace HL := Lib.hid (rowIs_drewN HL.out 1)
  replace HK := Lib.hid (rowIs_drewN HK.out 1)
  replace hr1 := hr1.drew
  replace hs1 := hs1.drew
  replace hg1 := hg1.drew
  replace hr2 := hr2.drew
  replace hs2 := hs2.drew
  replace HX := Lib.hid (rowIs_drewN HX.out 1)
  replace HB : Below w.heap.size w w6.drew := below_drewN HB 1
  have zd6 : w6.drew.heap.size = w6.heap.size := rfl
  go_region_held3 (fun w' => w'.cell? ⟨w.heap.size, 0, none⟩ = some (.int .i64 px0) ∧ w'.cell? ⟨w.heap.size, 1, none⟩ = some (.int .i64 cx0) ∧ w'.cell? ⟨w.heap.size, 2, none⟩ = some (.int .i64 hx0) ∧ w'.cell? ⟨w.heap.size, 3, none⟩ = some (.int .i64 sx0) ∧ w'.cell? ⟨w.heap.size + 1, 0, none⟩ = some (.slice ax1 nx1 cx1) ∧ w'.cell? ⟨w.heap.size + 1, 1, none⟩ = some (.slice bx1 mx1 dx1) ∧ w'.cell? ⟨w5.heap.size, 0, none⟩ = some (.slice (some ⟨g2, 0, none⟩) nx1 nx1) ∧ w'.cell? ⟨w5.heap.size, 1, none⟩ = some (.slice (some ⟨k2, 0, none⟩) mx1 mx1))
    (go_keep)
    (first
      | (go_at_call 15; refine (toVariant_any _ _ _ _ _).mono ?_; rintro e w7 ⟨rfl, hb⟩; have z7 := hb.size; replace hI := hI.below (hb.mono HB.size); replace hJ := hJ.below (hb.mono HB.size); replace HL := Lib.hid (rowIs_below HL.out hb HL.out.lt); replace HK := Lib.hid (rowIs_below HK.out hb HK.out.lt); replace hr1 := hr1.below hb; replace hs1 := hs1.below hb; replace hg1 := hg1.below hb; replace hr2 := hr2.below hb; replace hs2 := hs2.below hb; replace HX := Lib.hid (rowIs_below HX.out hb HX.out.lt); replace HB := HB.trans (hb.mono HB.size); clear hb; obtain ⟨y7_00, y7_01, y7_02, y7_03⟩ := vr4_cells HL.out; obtain ⟨y7_10, y7_11⟩ := pr_cells HK.out; obtain ⟨y7_20, y7_21⟩ := pr_cells HX.out)
      | (go_at_call 34; refine (IM.out _ _ _ _ _ (hr2.ints hI.len) (hs2.ints hJ.len)).mono ?_; rintro e w8 ⟨a2, e2, c2, rfl, el2, hg2, hb⟩; have z8 := hb.size; replace hI := hI.below (hb.mono HB.size); replace hJ := hJ.below (hb.mono HB.size); replace HL := Lib.hid (rowIs_below HL.out hb HL.out.lt); replace HK := Lib.hid (rowIs_below HK.out hb HK.out.lt); replace hr1 := hr1.below hb; replace hs1 := hs1.below hb; replace hg1 := hg1.below hb; replace hr2 := hr2.below hb; replace hs2 := hs2.below hb; replace HX := Lib.hid (rowIs_below HX.out hb HX.out.lt); replace HB := HB.trans (hb.mono HB.size); clear hb; obtain ⟨y8_00, y8_01, y8_02, y8_03⟩ := vr4_cells HL.out; obtain ⟨y8_10, y8_11⟩ := pr_cells HK.out; obtain ⟨y8_20, y8_21⟩ := pr_cells HX.out))
  clear l00 l01 l02 l03 l10 l11 l20 l21 y7_00 y7_01 y7_02 y7_03 y7_10 y7_11 y7_20 y7_21 y8_00 y8_01 y8_02 y8_03 y8_10 y8_11 y8_20 y8_21
  subst el2
  go_wp2_with fail
  refine (eqInt64S_b _ _ _ _ _ _ _ _ _ (hg2.ints rfl) (hg1.ints rfl) hle).mono ?_
  rintro e w9 ⟨rfl, hb⟩
  have z9 := hb.size
  replace hI := hI.below (hb.mono HB.size)
  replace hJ := hJ.below (hb.mono HB.size)
  replace HL := Lib.hid (rowIs_below HL.out hb HL.out.lt)
  replace HK := Lib.hid (rowIs_below HK.out hb HK.out.lt)
  replace hr1 := hr1.below hb
  replace hs1 := hs1.below hb
  replace hg1 := hg1.below hb
  replace hr2 := hr2.below hb
  replace hs2 := hs2.below hb
  replace HX := Lib.hid (rowIs_below HX.out hb HX.out.lt)
  replace hg2 := hg2.below hb
  replace HB := HB.trans (hb.mono HB.size)
  clear hb
  obtain ⟨l00, l01, l02, l03⟩ := vr4_cells HL.out
  obtain ⟨l10, l11⟩ := pr_cells HK.out
  obtain ⟨l20, l21⟩ := pr_cells HX.out
  go_wp2_with fail
  replace hI := ints_drew hI
  replace hJ := ints_drew hJ
  replace HL := Lib.hid (rowIs_drewN HL.out 1)
  replace HK := Lib.hid (rowIs_drewN HK.out 1)
  replace hr1 := hr1.drew
  replace hs1 := hs1.drew
  replace hg1 := hg1.drew
  replace hr2 := hr2.drew
  replace hs2 := hs2.drew
  replace HX := Lib.hid (rowIs_drewN HX.out 1)
  replace hg2 := hg2.drew
  replace HB : Below w.heap.size w w9.drew := below_drewN HB 1
  have zd9 : w9.drew.heap.size = w9.heap.size := rfl
  go_region_held3 (fun w' => w'.cell? ⟨w.heap.size, 0, none⟩ = some (.int .i64 px0) ∧ w'.cell? ⟨w.heap.size, 1, none⟩ = some (.int .i64 cx0) ∧ w'.cell? ⟨w.heap.size, 2, none⟩ = some (.int .i64 hx0) ∧ w'.cell? ⟨w.heap.size, 3, none⟩ = some (.int .i64 sx0) ∧ w'.cell? ⟨w.heap.size + 1, 0, none⟩ = some (.slice ax1 nx1 cx1) ∧ w'.cell? ⟨w.heap.size + 1, 1, none⟩ = some (.slice bx1 mx1 dx1) ∧ w'.cell? ⟨w5.heap.size, 0, none⟩ = some (.slice (some ⟨g2, 0, none⟩) nx1 nx1) ∧ w'.cell? ⟨w5.heap.size, 1, none⟩ = some (.slice (some ⟨k2, 0, none⟩) mx1 mx1))
    (go_keep)
    (first
      | (go_at_call 16; refine (toBoard_any _ _ _ _ _ _ _ _ _ (hI.more HB.size) (hJ.more HB.size) hn hm).mono ?_; rintro e w10 ⟨g3, k3, j3, rfl, hr3, hs3, hj3, hi3, hb⟩; have z10 := hb.size; replace hI := hI.below (hb.mono HB.size); replace hJ := hJ.below (hb.mono HB.size); replace HL := Lib.hid (rowIs_below HL.out hb HL.out.lt); replace HK := Lib.hid (rowIs_below HK.out hb HK.out.lt); replace hr1 := hr1.below hb; replace hs1 := hs1.below hb; replace hg1 := hg1.below hb; replace hr2 := hr2.below hb; replace hs2 := hs2.below hb; replace HX := Lib.hid (rowIs_below HX.out hb HX.out.lt); replace hg2 := hg2.below hb; replace HB := HB.trans (hb.mono HB.size); clear hb; obtain ⟨y10_00, y10_01, y10_02, y10_03⟩ := vr4_cells HL.out; obtain ⟨y10_10, y10_11⟩ := pr_cells HK.out; obtain ⟨y10_20, y10_21⟩ := pr_cells HX.out)
      | (go_at_call 18; refine (eqBoard_same _ _ _ _ _ _ _ _ _ _ _ _ _ (hr2.ints hI.len) (hr3.ints hI.len) (hs2.ints hJ.len) (hs3.ints hJ.len) hn hm).mono ?_; rintro e w11 ⟨rfl, hb⟩; have z11 := hb.size; replace hI := hI.below (hb.mono HB.size); replace hJ := hJ.below (hb.mono HB.size); replace HL := Lib.hid (rowIs_below HL.out hb HL.out.lt); replace HK := Lib.hid (rowIs_below HK.out hb HK.out.lt); replace hr1 := hr1.below hb; replace hs1 := hs1.below hb; replace hg1 := hg1.below hb; replace hr2 := hr2.below hb; replace hs2 := hs2.below hb; replace HX := Lib.hid (rowIs_below HX.out hb HX.out.lt); replace hg2 := hg2.below hb; replace hr3 := hr3.below hb; replace hs3 := hs3.below hb; replace HB := HB.trans (hb.mono HB.size); clear hb; obtain ⟨y11_00, y11_01, y11_02, y11_03⟩ := vr4_cells HL.out; obtain ⟨y11_10, y11_11⟩ := pr_cells HK.out; obtain ⟨y11_20, y11_21⟩ := pr_cells HX.out))
  clear l00 l01 l02 l03 l10 l11 l20 l21 y10_00 y10_01 y10_02 y10_03 y10_10 y10_11 y10_20 y10_21 y11_00 y11_01 y11_02 y11_03 y11_10 y11_11 y11_20 y11_21
  obtain ⟨l00, l01⟩ := pr_cells HX.out
  go_wp2_with fail
  clear l00 l01
  refine (markBoard_any _ _ _ _ _ _ _ _ _ _ _ _ _ _ _ hr2 hs2 (by omega) (by omega) (by omega) (by omega) hn hm).mono ?_
  rintro e w12 ⟨rfl, hm1, hm2, ho⟩
  have z12 := ho.size
  replace hI := Out2.ints hI ho (by omega) (by omega) HB.size
  replace hJ := Out2.ints hJ ho (by omega) (by omega) HB.size
  replace HL := Lib.hid (Out2.row HL.out ho (by omega) (by omega))
  replace HK := Lib.hid (Out2.row HK.out ho (by omega) (by omega))
  replace hr1 := Out2.rowN hr1 ho (by omega) (by omega)
  replace hs1 := Out2.rowN hs1 ho (by omega) (by omega)
  replace hg1 := Out2.rowN hg1 ho (by omega) (by omega)
  replace HX := Lib.hid (Out2.row HX.out ho (by omega) (by omega))
  replace hg2 := Out2.rowN hg2 ho (by omega) (by omega)
  replace hr3 := Out2.rowN hr3 ho (by omega) (by omega)
  replace hs3 := Out2.rowN hs3 ho (by omega) (by omega)
  replace HB := Out2.below HB ho (by omega) (by omega)
  replace hr2 := hm1
  replace hs2 := hm2
  clear ho hm1 hm2
  have dd1 : decide (1 + (nx1 : Int) + (mx1 : Int) < 0) = false := by simp; omega
  go_wp2_with fail
  refine (eqInt64S_b _ _ _ _ _ _ _ _ _ (hg2.ints rfl) (hg1.ints rfl) hle).mono ?_
  rintro e w13 ⟨rfl, hb⟩
  have z13 := hb.size
  replace hI := hI.below (hb.mono HB.size)
  replace hJ := hJ.below (hb.mono HB.size)
  replace HL := Lib.hid (rowIs_below HL.out hb HL.out.lt)
  replace HK := Lib.hid (rowIs_below HK.out hb HK.out.lt)
  replace hr1 := hr1.below hb
  replace hs1 := hs1.below hb
  replace hg1 := hg1.below hb
  replace hr2 := hr2.below hb
  replace hs2 := hs2.below hb
  replace HX := Lib.hid (rowIs_below HX.out hb HX.out.lt)
  replace hg2 := hg2.below hb
  replace hr3 := hr3.below hb
  replace hs3 := hs3.below hb
  replace HB := HB.trans (hb.mono HB.size)
  clear hb
  go_wp2_with fail
  refine (markInt64S_any _ _ _ _ _ _ _ _ _ hg2 (by omega) (by omega) hle).mono ?_
  rintro e w14 ⟨rfl, hm, ho⟩
  have z14 := ho.size
  replace hI := hI.out ho (by omega) HB.size
  replace hJ := hJ.out ho (by omega) HB.size
  replace HL := Lib.hid (HL.out.of_block (ho.block _ HL.out.lt (by omega)))
  replace HK := Lib.hid (HK.out.of_block (ho.block _ HK.out.lt (by omega)))
  replace hr1 := hr1.out ho (by omega)
  replace hs1 := hs1.out ho (by omega)
  replace hg1 := hg1.out ho (by omega)
  replace hr2 := hr2.out ho (by omega)
  replace hs2 := hs2.out ho (by omega)
  replace HX := Lib.hid (HX.out.of_block (ho.block _ HX.out.lt (by omega)))
  replace hr3 := hr3.out ho (by omega)
  replace hs3 := hs3.out ho (by omega)
  replace HB := Out.below HB ho (by omega)
  clear ho
  replace hg2 := hm
  clear hm
  go_wp2_with fail
  refine (heldInt64S_any _ _ _ _ _ _ _ _ hg2 (by omega) (by omega) hle).mono ?_
  rintro e w' ⟨rfl, rfl⟩
  have dd2 : decide (1 + (V.length : Int) < 0) = false := by simp; omega
  have dd3 : ((1 + (V.length : Int)) != 1 + (V.length : Int)) = false := by simp
  obtain ⟨l00, l01, l02, l03⟩ := vr4_cells HL.out
  obtain ⟨l10, l11⟩ := pr_cells HK.out
  go_wp2_with fail
  replace hI := ints_drew hI
  replace hJ := ints_drew hJ
  replace HL := Lib.hid (rowIs_drewN HL.out 1)
  replace HK := Lib.hid (rowIs_drewN HK.out 1)
  replace hr1 := hr1.drew
  replace hs1 := hs1.drew
  replace hg1 := hg1.drew
  replace hr2 := hr2.drew
  replace hs2 := hs2.drew
  replace HX := Lib.hid (rowIs_drewN HX.out 1)
  replace hg2 := hg2.drew
  replace hr3 := hr3.drew
  replace hs3 := hs3.drew
  replace HB : Below w.heap.size w w14.drew := below_drewN HB 1
  have zd14 : w14.drew.heap.size = w14.heap.size := rfl
  go_region_held3 (fun w' => w'.cell? ⟨w.heap.size, 0, none⟩ = some (.int .i64 px0) ∧ w'.cell? ⟨w.heap.size, 1, none⟩ = some (.int .i64 cx0) ∧ w'.cell? ⟨w.heap.size, 2, none⟩ = some (.int .i64 hx0) ∧ w'.cell? ⟨w.heap.size, 3, none⟩ = some (.int .i64 sx0) ∧ w'.cell? ⟨w.heap.size + 1, 0, none⟩ = some (.slice ax1 nx1 cx1) ∧ w'.cell? ⟨w.heap.size + 1, 1, none⟩ = some (.slice bx1 mx1 dx1))
    (go_keep)
    (first
      | (go_at_call 15; refine (toVariant_any _ _ _ _ _).mono ?_; rintro e w15 ⟨rfl, hb⟩; have z15 := hb.size; replace hI := hI.below (hb.mono HB.size); replace hJ := hJ.below (hb.mono HB.size); replace HL := Lib.hid (rowIs_below HL.out hb HL.out.lt); replace HK := Lib.hid (rowIs_below HK.out hb HK.out.lt); replace hr1 := hr1.below hb; replace hs1 := hs1.below hb; replace hg1 := hg1.below hb; replace hr2 := hr2.below hb; replace hs2 := hs2.below hb; replace HX := Lib.hid (rowIs_below HX.out hb HX.out.lt); replace hg2 := hg2.below hb; replace hr3 := hr3.below hb; replace hs3 := hs3.below hb; replace HB := HB.trans (hb.mono HB.size); clear hb; obtain ⟨y15_00, y15_01, y15_02, y15_03⟩ := vr4_cells HL.out; obtain ⟨y15_10, y15_11⟩ := pr_cells HK.out)
      | (go_at_call 16; refine (toBoard_any _ _ _ _ _ _ _ _ _ (hI.more HB.size) (hJ.more HB.size) hn hm).mono ?_; rintro e w16 ⟨g4, k4, j4, rfl, hr4, hs4, hj4, hi4, hb⟩; have z16 := hb.size; replace hI := hI.below (hb.mono HB.size); replace hJ := hJ.below (hb.mono HB.size); replace HL := Lib.hid (rowIs_below HL.out hb HL.out.lt); replace HK := Lib.hid (rowIs_below HK.out hb HK.out.lt); replace hr1 := hr1.below hb; replace hs1 := hs1.below hb; replace hg1 := hg1.below hb; replace hr2 := hr2.below hb; replace hs2 := hs2.below hb; replace HX := Lib.hid (rowIs_below HX.out hb HX.out.lt); replace hg2 := hg2.below hb; replace hr3 := hr3.below hb; replace hs3 := hs3.below hb; replace HB := HB.trans (hb.mono HB.size); clear hb; obtain ⟨y16_00, y16_01, y16_02, y16_03⟩ := vr4_cells HL.out; obtain ⟨y16_10, y16_11⟩ := pr_cells HK.out)
      | (go_at_call 34; refine (IM.out _ _ _ _ _ (hr4.ints hI.len) (hs4.ints hJ.len)).mono ?_; rintro e w17 ⟨a4, e4, c4, rfl, el4, hg4, hb⟩; have z17 := hb.size; replace hI := hI.below (hb.mono HB.size); replace hJ := hJ.below (hb.mono HB.size); replace HL := Lib.hid (rowIs_below HL.out hb HL.out.lt); replace HK := Lib.hid (rowIs_below HK.out hb HK.out.lt); replace hr1 := hr1.below hb; replace hs1 := hs1.below hb; replace hg1 := hg1.below hb; replace hr2 := hr2.below hb; replace hs2 := hs2.below hb; replace HX := Lib.hid (rowIs_below HX.out hb HX.out.lt); replace hg2 := hg2.below hb; replace hr3 := hr3.below hb; replace hs3 := hs3.below hb; replace hr4 := hr4.below hb; replace hs4 := hs4.below hb; replace HB := HB.trans (hb.mono HB.size); clear hb; obtain ⟨y17_00, y17_01, y17_02, y17_03⟩ := vr4_cells HL.out; obtain ⟨y17_10, y17_11⟩ := pr_cells HK.out))
  clear l00 l01 l02 l03 l10 l11 y15_00 y15_01 y15_02 y15_03 y15_10 y15_11 y16_00 y16_01 y16_02 y16_03 y16_10 y16_11 y17_00 y17_01 y17_02 y17_03 y17_10 y17_11
  subst el4
  go_wp2_with fail
  refine (eqInt64S_b _ _ _ _ _ _ _ _ _ (hg4.ints rfl) (hg1.ints rfl) hle).mono ?_
  rintro e w18 ⟨rfl, hb⟩
  have z18 := hb.size
  replace hI := hI.below (hb.mono HB.size)
  replace hJ := hJ.below (hb.mono HB.size)
  replace HL := Lib.hid (rowIs_below HL.out hb HL.out.lt)
  replace HK := Lib.hid (rowIs_below HK.out hb HK.out.lt)
  replace hr1 := hr1.below hb
  replace hs1 := hs1.below hb
  replace hg1 := hg1.below hb
  replace hr2 := hr2.below hb
  replace hs2 := hs2.below hb
  replace HX := Lib.hid (rowIs_below HX.out hb HX.out.lt)
  replace hg2 := hg2.below hb
  replace hr3 := hr3.below hb
  replace hs3 := hs3.below hb
  replace hr4 := hr4.below hb
  replace hs4 := hs4.below hb
  replace hg4 := hg4.below hb
  replace HB := HB.trans (hb.mono HB.size)
  clear hb
  go_wp2_with fail
  refine (heldInt64S_any _ _ _ _ _ _ _ _ hg2 (by omega) (by omega) hle).mono ?_
  rintro e w' ⟨rfl, rfl⟩
  go_wp2_with fail
  go_ret
  exact ⟨rfl, HB⟩
namespace fnExactInputsOf
set_option linter.unusedVariables false
set_option maxRecDepth 100000 in
theorem lifted (os : Os) (started : os.Started) (H : Type) (enc : TypeId × Value → H) :
    ReturnsInHanded {} Try.checked os 10 .any (Rows.fnExactInputsOfSpec.pre6 enc Try.prog Try.f10 Rows.fnExactInputsOfRow.domain false) (Rows.fnExactInputsOfSpec.post enc Try.prog Try.f10 false true false false) := by
  refine returnsInHanded_of_change (C := Try.checked) own started (by kernel_rfl) Try.func10
    (ChangeSpec.witness6 (enc := enc) (C := Try.checked) false ⟨#[], #[.agg #[.int .i64 0, .int .i64 0, .int .i64 0, .int .i64 0], .agg #[.slice none 0 0, .slice none 0 0]], []⟩ 8 (by kernel_rfl) (by kernel_rfl) (by kernel_rfl) (by kernel_rfl)) ?_
  intro W base args ds gs before hval0 hW hcnd _
  have hval : ∀ (j : Nat) t v, Try.f10.params[j]? = some t → args[j]? = some v → Value.okWide Try.prog W .any base t v := hval0
  have hW' := hW
  obtain ⟨p, q, hA0, hV, rfl, hfz, hnd⟩ := hW
  have hA : DataW.TrodAll enc Try.prog W 0 (fun _ => true) true Try.f10.params.toList args.toList ds p := hA0
  rw [Try.params10] at hA hval
  obtain ⟨v0, vs0, d0, ds0, p0, q0, hargs, rfl, rfl, h0, r0⟩ := trodAll_cons hA
  obtain ⟨v1, vs1, d1, ds1, p1, q1, rfl, rfl, rfl, h1, r1⟩ := trodAll_cons r0
  obtain ⟨rfl, rfl, rfl⟩ := trodAll_nil r1
  obtain rfl : args = #[v0, v1] := by cases args; simp_all
  obtain ⟨rfl, rfl⟩ := trodVars_none hV
  obtain ⟨px0, cx0, hx0, sx0, rfl, wx0⟩ := open_int4 Try.underlying23 (by kernel_rfl) (by kernel_rfl) Try.underlying2 Try.underlying2 Try.underlying2 Try.underlying2 (hval 0 23 v0 rfl rfl) h0
  obtain ⟨ax1, nx1, cx1, x1, bx1, mx1, dx1, yx1, rfl, wx1⟩ := open_board (hval 1 26 v1 rfl rfl) h1
  clear hA0 hval0
  refine (walk_FnExactInputsOf W px0 cx0 hx0 sx0 wx0 ax1 nx1 cx1 x1 bx1 mx1 dx1 yx1 wx1).mono fun e W' ⟨he, bel⟩ => ?_
  subst he
  exact ⟨_, rfl, _, _, _, [], _, [], hW', trodAll_mk1 (shut_bool Try.underlying4 _), (trodAll_cons_mk (Below.trod laidOut (by kernel_rfl) (of_decide_eq_true (by kernel_rfl)) h0 bel (lt_of_trod h0)) (trodAll_cons_mk (Below.trod laidOut (by kernel_rfl) (of_decide_eq_true (by kernel_rfl)) h1 bel (lt_of_trod h1)) trodAll_mk0)), rfl, bel.frame _, fun h => by cases h⟩

theorem over : Rows.fnExactInputsOfRow.holds Try.pinned (OpenSpec.ofChange Rows.fnExactInputsOfSpec) :=
  OpenClaim.holds_of_wide 10 Try.f10 rfl rfl rfl rfl rfl rfl rfl ⟨rfl, rfl, rfl, rfl, rfl⟩ rfl rfl rfl rfl rfl (by kernel_rfl) Try.func10 (by kernel_rfl)
    (of_decide_eq_true (by kernel_rfl)) (by unfold Func.isWrapper; first | (rw [if_pos (by decide +kernel)]; kernel_rfl) | (rw [if_neg (by decide +kernel)]; exact ⟨rfl, rfl⟩))
    (fun os started H enc _ => lifted os started H enc)
theorem proved : Rows.FnExactInputsOfSaid := over
#print axioms proved
end fnExactInputsOf
end Go.Proofs.Ytoolggmomlmnbaa
