/-
  FnExactHiddenOf returns true for all arguments: HiddenOf of the program and of the reference agree in the values and the code, the values are new memory, and the arguments are left as they were. No condition.
-/
import Derived.Test.YtcpbaigghhjceaaOut
import Derived.Test.YtcpbaigghhjceaaSdM
import Derived.StillTailTactics
import Derived.RegionTactic
import Derived.BigRegion
import Derived.Deep.RegionWith
import Derived.Deep.RegionHeld3
namespace Go.Proofs.Ytcpbaigghhjceaa
open Go.ChangeShapes Go.WideShapes Go.ChangeAt Go.RowKit
set_option linter.unusedVariables false

set_option maxHeartbeats 3200000 in
theorem walk_FnExactHiddenOf (w : World) (ix0 hx0 : Int) (ax0 : Option Addr) (nx0 cx0 : Nat) (x0 : List Int) (bx0 : Option Addr) (mx0 dx0 : Nat) (yx0 : List Int) (wx0 : IntsArg w .i64 ax0 nx0 x0 ∧ IntsArg w .i64 bx0 mx0 yx0) (ax1 : Option Addr) (nx1 cx1 : Nat) (x1 : List Int) (wx1 : IntsArg w .i64 ax1 nx1 x1) :
    Calls Try.prog 8 #[netV ix0 hx0 ax0 nx0 cx0 bx0 mx0 dx0, .slice ax1 nx1 cx1] w fun e w' => e = .returned (.bool true) ∧ Below w.heap.size w w' := by
  obtain ⟨⟨hI, hmx, _⟩, ⟨hJ, hmy, _⟩⟩ := wx0
  obtain ⟨hK, hmk, _⟩ := wx1
  have HB := (Below.refl w.heap.size w).alloc (Nat.le_refl _) (.cells #[.int .i64 ix0, .int .i64 hx0, .slice ax0 nx0 cx0, .slice bx0 mx0 dx0] 24)
  by_cases hl : 1048576 < nx1
  · go_enter Try.func8, Try.ntmps8
    go_wp2_with fail
    go_ret
    exact ⟨rfl, HB⟩
  replace hl : nx1 ≤ 1048576 := by omega
  by_cases hbig : 1048576 < nx0 + mx0
  · go_enter Try.func8, Try.ntmps8
    go_wp2_with fail
    refine (szNetwork_no _ _ _ _ _ _ _ _ _ hmx hmy hbig).mono ?_
    rintro e w1 ⟨rfl, hb⟩
    go_wp2_with fail
    go_ret
    exact ⟨rfl, HB.trans (hb.mono HB.size)⟩
  have hs : nx0 + mx0 ≤ 1048576 := by omega
  have hn : nx0 ≤ 1048576 := by omega
  have hm : mx0 ≤ 1048576 := by omega
  have hnc : nx0 ≤ 9223372036854775807 := by omega
  clear hbig
  have hL := four_new w (.int .i64 ix0) (.int .i64 hx0) (.slice ax0 nx0 cx0) (.slice bx0 mx0 dx0) 24
  have z0 : (w.alloc (.cells #[.int .i64 ix0, .int .i64 hx0, .slice ax0 nx0 cx0, .slice bx0 mx0 dx0] 24)).heap.size = w.heap.size + 1 := by simp
  have hlt : w.heap.size < (w.alloc (.cells #[.int .i64 ix0, .int .i64 hx0, .slice ax0 nx0 cx0, .slice bx0 mx0 dx0] 24)).heap.size := by simp
  have hsz : 0 ≤ (1048576 : Int) - nx0 - mx0 := by omega
  have hn0 : decide ((1048576 : Int) - nx0 - mx0 < 0) = false := by simp; omega
  replace hI := hI.below HB
  replace hJ := hJ.below HB
  replace hK := hK.below HB
  have HL := Lib.hid hL
  clear hL
  go_enter Try.func8, Try.ntmps8
  go_wp2_with fail
  refine (szNetwork_yes _ _ _ _ _ _ _ _ _ hs).mono ?_
  rintro e w1 ⟨rfl, hb⟩
  have z1 := hb.size
  replace hI := hI.below (hb.mono HB.size)
  replace hJ := hJ.below (hb.mono HB.size)
  replace hK := hK.below (hb.mono HB.size)
  replace HL := Lib.hid (rowIs_below HL.out hb HL.out.lt)
  replace HB := HB.trans (hb.mono HB.size)
  clear hb
  obtain ⟨l00, l01, l02, l03⟩ := four_cells HL.out
  go_wp2_with fail
  clear l00 l01 l02 l03
  refine (toNetwork_any _ _ _ _ _ _ _ _ _ _ _ (hI.more HB.size) (hJ.more HB.size) hn hm).mono ?_
  rintro e w2 ⟨g1, k1, j1, rfl, hr1, hs1, hj1, hi1, hb⟩
  have z2 := hb.size
  replace hI := hI.below (hb.mono HB.size)
  replace hJ := hJ.below (hb.mono HB.size)
  replace hK := hK.below (hb.mono HB.size)
  replace HL := Lib.hid (rowIs_below HL.out hb HL.out.lt)
  replace HB := HB.trans (hb.mono HB.size)
  clear hb
  go_wp2_with fail
  refine (toInt64S_R _ _ _ _ _ (hK.more HB.size) hl).mono ?_
  rintro e w3 ⟨rfl, ht1, hb⟩
  have z3 := hb.size
  replace hI := hI.below (hb.mono HB.size)
  replace hJ := hJ.below (hb.mono HB.size)
  replace hK := hK.below (hb.mono HB.size)
  replace HL := Lib.hid (rowIs_below HL.out hb HL.out.lt)
  replace hr1 := hr1.below hb
  replace hs1 := hs1.below hb
  replace HB := HB.trans (hb.mono HB.size)
  clear hb
  go_wp2_with fail
  refine (spec_HiddenOf_any _ _ _ _ _ _ _ _ _ _ _ _ _ _ _ _ (hr1.ints hI.len) (hs1.ints hJ.len) (ht1.ints hK.len) (Nat.le_refl _) (Nat.le_refl _) hnc hn hm hl).mono ?_
  rintro e w4 ⟨a1, e1, c1, rfl, el1, ek1, ec1, hg1, hb⟩
  have z4 := hb.size
  replace hI := hI.below (hb.mono HB.size)
  replace hJ := hJ.below (hb.mono HB.size)
  replace hK := hK.below (hb.mono HB.size)
  replace HL := Lib.hid (rowIs_below HL.out hb HL.out.lt)
  replace hr1 := hr1.below hb
  replace hs1 := hs1.below hb
  replace ht1 := ht1.below hb
  replace HB := HB.trans (hb.mono HB.size)
  clear hb
  obtain ⟨V, hV⟩ : ∃ V : List Int, hidV ix0 hx0 nx0 x0 mx0 yx0 nx1 x1 = V := ⟨_, rfl⟩
  have HV := Lib.hid hV
  rw [hV] at el1 hg1
  clear hV
  obtain ⟨C, hC⟩ : ∃ C : Int, netC ix0 hx0 nx0 x0 mx0 yx0 nx1 x1 = C := ⟨_, rfl⟩
  have HC := Lib.hid hC
  rw [hC]
  clear hC
  have hle : e1 ≤ 1048576 := by rw [← el1, ← HV.out]; exact hidV_le
  have EL := Lib.hid el1
  clear el1
  obtain ⟨l00, l01, l02, l03⟩ := four_cells HL.out
  go_wp2_with fail
  clear l00 l01 l02 l03
  refine (toNetwork_any _ _ _ _ _ _ _ _ _ _ _ (hI.more HB.size) (hJ.more HB.size) hn hm).mono ?_
  rintro e w5 ⟨g2, k2, j2, rfl, hr2, hs2, hj2, hi2, hb⟩
  have z5 := hb.size
  replace hI := hI.below (hb.mono HB.size)
  replace hJ := hJ.below (hb.mono HB.size)
  replace hK := hK.below (hb.mono HB.size)
  replace HL := Lib.hid (rowIs_below HL.out hb HL.out.lt)
  replace hr1 := hr1.below hb
  replace hs1 := hs1.below hb
  replace ht1 := ht1.below hb
  replace hg1 := hg1.below hb
  replace HB := HB.trans (hb.mono HB.size)
  clear hb
  go_wp2_with fail
  have hb := (Below.refl w5.heap.size w5).alloc (Nat.le_refl _) (.cells #[.int .i64 ix0, .int .i64 hx0, .slice (some ⟨g2, 0, none⟩) nx0 nx0, .slice (some ⟨k2, 0, none⟩) mx0 mx0] 27)
  have hq := four_new w5 (.int .i64 ix0) (.int .i64 hx0) (.slice (some ⟨g2, 0, none⟩) nx0 nx0) (.slice (some ⟨k2, 0, none⟩) mx0 mx0) 27
  obtain ⟨w6, hw6⟩ : ∃ x, x = (w5.alloc (.cells #[.int .i64 ix0, .int .i64 hx0, .slice (some ⟨g2, 0, none⟩) nx0 nx0, .slice (some ⟨k2, 0, none⟩) mx0 mx0] 27)) := ⟨_, rfl⟩
  rw [← hw6] at hb hq
  have z6 : w5.heap.size + 1 = w6.heap.size := by rw [hw6]; simp
  replace hI := hI.below (hb.mono HB.size)
  replace hJ := hJ.below (hb.mono HB.size)
  replace hK := hK.below (hb.mono HB.size)
  replace HL := Lib.hid (rowIs_below HL.out hb HL.out.lt)
  replace hr1 := hr1.below hb
  replace hs1 := hs1.below hb
  replace ht1 := ht1.below hb
  replace hg1 := hg1.below hb
  replace hr2 := hr2.below hb
  replace hs2 := hs2.below hb
  replace HB := HB.trans (hb.mono HB.size)
  have HX := Lib.hid hq
  rw [← hw6]
  clear hb hq hw6
  refine (toInt64S_R _ _ _ _ _ (hK.more HB.size) hl).mono ?_
  rintro e w7 ⟨rfl, ht2, hb⟩
  have z7 := hb.size
  replace hI := hI.below (hb.mono HB.size)
  replace hJ := hJ.below (hb.mono HB.size)
  replace hK := hK.below (hb.mono HB.size)
  replace HL := Lib.hid (rowIs_below HL.out hb HL.out.lt)
  replace hr1 := hr1.below hb
  replace hs1 := hs1.below hb
  replace ht1 := ht1.below hb
  replace hg1 := hg1.below hb
  replace hr2 := hr2.below hb
  replace hs2 := hs2.below hb
  replace HX := Lib.hid (rowIs_below HX.out hb HX.out.lt)
  replace HB := HB.trans (hb.mono HB.size)
  clear hb
  obtain ⟨l00, l01, l02, l03⟩ := four_cells HX.out
  go_wp2_with fail
  clear l00 l01 l02 l03
  refine (impl_HiddenOf_any _ _ _ _ _ _ _ _ _ _ _ _ _ _ _ _ (hr2.ints hI.len) (hs2.ints hJ.len) (ht2.ints hK.len) (Nat.le_refl _) (Nat.le_refl _) hnc hn hm hl).mono ?_
  rintro e w8 ⟨a2, e2, c2, rfl, el2, ek2, ec2, hg2, hb⟩
  have z8 := hb.size
  replace hI := hI.below (hb.mono HB.size)
  replace hJ := hJ.below (hb.mono HB.size)
  replace hK := hK.below (hb.mono HB.size)
  replace HL := Lib.hid (rowIs_below HL.out hb HL.out.lt)
  replace hr1 := hr1.below hb
  replace hs1 := hs1.below hb
  replace ht1 := ht1.below hb
  replace hg1 := hg1.below hb
  replace hr2 := hr2.below hb
  replace hs2 := hs2.below hb
  replace HX := Lib.hid (rowIs_below HX.out hb HX.out.lt)
  replace ht2 := ht2.below hb
  replace HB := HB.trans (hb.mono HB.size)
  clear hb
  rw [HV.out] at el2 hg2
  rw [HC.out]
  obtain rfl : e2 = e1 := el2.symm.trans EL.out
  clear el2
  have hcc : (C != C) = false := by simp
  go_wp2_with fail
  refine (eqInt64S_b _ _ _ _ _ _ _ _ _ (hg2.ints EL.out) (hg1.ints EL.out) hle).mono ?_
  rintro e w9 ⟨rfl, hb⟩
  have z9 := hb.size
  replace hI := hI.below (hb.mono HB.size)
  replace hJ := hJ.below (hb.mono HB.size)
  replace hK := hK.below (hb.mono HB.size)
  replace HL := Lib.hid (rowIs_below HL.out hb HL.out.lt)
  replace hr1 := hr1.below hb
  replace hs1 := hs1.below hb
  replace ht1 := ht1.below hb
  replace hg1 := hg1.below hb
  replace hr2 := hr2.below hb
  replace hs2 := hs2.below hb
  replace HX := Lib.hid (rowIs_below HX.out hb HX.out.lt)
  replace ht2 := ht2.below hb
  replace hg2 := hg2.below hb
  replace HB := HB.trans (hb.mono HB.size)
  clear hb
  obtain ⟨l00, l01, l02, l03⟩ := four_cells HL.out
  obtain ⟨l10, l11, l12, l13⟩ := four_cells HX.out
  go_wp2_with fail
  replace hI := ints_drew hI
  replace hJ := ints_drew hJ
  replace hK := ints_drew hK
  replace HL := Lib.hid (rowIs_drewN HL.out 1)
  replace hr1 := hr1.drew
  replace hs1 := hs1.drew
  replace ht1 := ht1.drew
  replace hg1 := hg1.drew
  replace hr2 := hr2.drew
  replace hs2 := hs2.drew
  replace HX := Lib.hid (rowIs_drewN HX.out 1)
  replace ht2 := ht2.drew
  replace hg2 := hg2.drew
  replace HB : Below w.heap.size w w9.drew := below_drewN HB 1
  have zd9 : w9.drew.heap.size = w9.heap.size := rfl
  go_region_held3 (fun w' => w'.cell? ⟨w.heap.size, 0, none⟩ = some (.int .i64 ix0) ∧ w'.cell? ⟨w.heap.size, 1, none⟩ = some (.int .i64 hx0) ∧ w'.cell? ⟨w.heap.size, 2, none⟩ = some (.slice ax0 nx0 cx0) ∧ w'.cell? ⟨w.heap.size, 3, none⟩ = some (.slice bx0 mx0 dx0) ∧ w'.cell? ⟨w5.heap.size, 0, none⟩ = some (.int .i64 ix0) ∧ w'.cell? ⟨w5.heap.size, 1, none⟩ = some (.int .i64 hx0) ∧ w'.cell? ⟨w5.heap.size, 2, none⟩ = some (.slice (some ⟨g2, 0, none⟩) nx0 nx0) ∧ w'.cell? ⟨w5.heap.size, 3, none⟩ = some (.slice (some ⟨k2, 0, none⟩) mx0 mx0))
    (go_keep)
    (first
      | (go_at_call 12; refine (toNetwork_any _ _ _ _ _ _ _ _ _ _ _ (hI.more HB.size) (hJ.more HB.size) hn hm).mono ?_; rintro e w10 ⟨g3, k3, j3, rfl, hr3, hs3, hj3, hi3, hb⟩; have z10 := hb.size; replace hI := hI.below (hb.mono HB.size); replace hJ := hJ.below (hb.mono HB.size); replace hK := hK.below (hb.mono HB.size); replace HL := Lib.hid (rowIs_below HL.out hb HL.out.lt); replace hr1 := hr1.below hb; replace hs1 := hs1.below hb; replace ht1 := ht1.below hb; replace hg1 := hg1.below hb; replace hr2 := hr2.below hb; replace hs2 := hs2.below hb; replace HX := Lib.hid (rowIs_below HX.out hb HX.out.lt); replace ht2 := ht2.below hb; replace hg2 := hg2.below hb; replace HB := HB.trans (hb.mono HB.size); clear hb; obtain ⟨y10_00, y10_01, y10_02, y10_03⟩ := four_cells HL.out; obtain ⟨y10_10, y10_11, y10_12, y10_13⟩ := four_cells HX.out)
      | (go_at_call 14; refine (eqNetwork_same _ _ _ _ _ _ _ _ _ _ _ _ _ _ _ (hr2.ints hI.len) (hr3.ints hI.len) (hs2.ints hJ.len) (hs3.ints hJ.len) hn hm).mono ?_; rintro e w11 ⟨rfl, hb⟩; have z11 := hb.size; replace hI := hI.below (hb.mono HB.size); replace hJ := hJ.below (hb.mono HB.size); replace hK := hK.below (hb.mono HB.size); replace HL := Lib.hid (rowIs_below HL.out hb HL.out.lt); replace hr1 := hr1.below hb; replace hs1 := hs1.below hb; replace ht1 := ht1.below hb; replace hg1 := hg1.below hb; replace hr2 := hr2.below hb; replace hs2 := hs2.below hb; replace HX := Lib.hid (rowIs_below HX.out hb HX.out.lt); replace ht2 := ht2.below hb; replace hg2 := hg2.below hb; replace hr3 := hr3.below hb; replace hs3 := hs3.below hb; replace HB := HB.trans (hb.mono HB.size); clear hb; obtain ⟨y11_00, y11_01, y11_02, y11_03⟩ := four_cells HL.out; obtain ⟨y11_10, y11_11, y11_12, y11_13⟩ := four_cells HX.out))
  clear l00 l01 l02 l03 l10 l11 l12 l13 y10_00 y10_01 y10_02 y10_03 y10_10 y10_11 y10_12 y10_13 y11_00 y11_01 y11_02 y11_03 y11_10 y11_11 y11_12 y11_13
  go_wp2_with fail
  refine (toInt64S_R _ _ _ _ _ (hK.more HB.size) hl).mono ?_
  rintro e w12 ⟨rfl, ht3, hb⟩
  have z12 := hb.size
  replace hI := hI.below (hb.mono HB.size)
  replace hJ := hJ.below (hb.mono HB.size)
  replace hK := hK.below (hb.mono HB.size)
  replace HL := Lib.hid (rowIs_below HL.out hb HL.out.lt)
  replace hr1 := hr1.below hb
  replace hs1 := hs1.below hb
  replace ht1 := ht1.below hb
  replace hg1 := hg1.below hb
  replace hr2 := hr2.below hb
  replace hs2 := hs2.below hb
  replace HX := Lib.hid (rowIs_below HX.out hb HX.out.lt)
  replace ht2 := ht2.below hb
  replace hg2 := hg2.below hb
  replace hr3 := hr3.below hb
  replace hs3 := hs3.below hb
  replace HB := HB.trans (hb.mono HB.size)
  clear hb
  go_wp2_with fail
  refine (eqInt64S_b _ _ _ _ _ _ _ _ _ (ht2.ints hK.len) (ht3.ints hK.len) hl).mono ?_
  rintro e w13 ⟨rfl, hb⟩
  have z13 := hb.size
  replace hI := hI.below (hb.mono HB.size)
  replace hJ := hJ.below (hb.mono HB.size)
  replace hK := hK.below (hb.mono HB.size)
  replace HL := Lib.hid (rowIs_below HL.out hb HL.out.lt)
  replace hr1 := hr1.below hb
  replace hs1 := hs1.below hb
  replace ht1 := ht1.below hb
  replace hg1 := hg1.below hb
  replace hr2 := hr2.below hb
  replace hs2 := hs2.below hb
  replace HX := Lib.hid (rowIs_below HX.out hb HX.out.lt)
  replace ht2 := ht2.below hb
  replace hg2 := hg2.below hb
  replace hr3 := hr3.below hb
  replace hs3 := hs3.below hb
  replace ht3 := ht3.below hb
  replace HB := HB.trans (hb.mono HB.size)
  clear hb
  obtain ⟨l10, l11, l12, l13⟩ := four_cells HX.out
  go_wp2_with fail
  clear l10 l11 l12 l13
  refine (markNetwork_any _ _ _ _ _ _ _ _ _ _ _ _ _ _ _ _ _ hr2 hs2 (by omega) (by omega) (by omega) (by omega) hn hm).mono ?_
  rintro e w14 ⟨rfl, hm1, hm2, ho⟩
  have z14 := ho.size
  replace hI := Out2.ints hI ho (by omega) (by omega) HB.size
  replace hJ := Out2.ints hJ ho (by omega) (by omega) HB.size
  replace hK := Out2.ints hK ho (by omega) (by omega) HB.size
  replace HL := Lib.hid (Out2.row HL.out ho (by omega) (by omega))
  replace hr1 := Out2.rowN hr1 ho (by omega) (by omega)
  replace hs1 := Out2.rowN hs1 ho (by omega) (by omega)
  replace ht1 := Out2.rowN ht1 ho (by omega) (by omega)
  replace hg1 := Out2.rowN hg1 ho (by omega) (by omega)
  replace HX := Lib.hid (Out2.row HX.out ho (by omega) (by omega))
  replace ht2 := Out2.rowN ht2 ho (by omega) (by omega)
  replace hg2 := Out2.rowN hg2 ho (by omega) (by omega)
  replace hr3 := Out2.rowN hr3 ho (by omega) (by omega)
  replace hs3 := Out2.rowN hs3 ho (by omega) (by omega)
  replace ht3 := Out2.rowN ht3 ho (by omega) (by omega)
  replace HB := Out2.below HB ho (by omega) (by omega)
  replace hr2 := hm1
  replace hs2 := hm2
  clear ho hm1 hm2
  go_wp2_with fail
  refine (markInt64S_any _ _ _ _ _ _ _ _ _ ht2 (by omega) (by omega) hl).mono ?_
  rintro e w15 ⟨rfl, hm, ho⟩
  have z15 := ho.size
  replace hI := hI.out ho (by omega) HB.size
  replace hJ := hJ.out ho (by omega) HB.size
  replace hK := hK.out ho (by omega) HB.size
  replace HL := Lib.hid (HL.out.of_block (ho.block _ HL.out.lt (by omega)))
  replace hr1 := hr1.out ho (by omega)
  replace hs1 := hs1.out ho (by omega)
  replace ht1 := ht1.out ho (by omega)
  replace hg1 := hg1.out ho (by omega)
  replace hr2 := hr2.out ho (by omega)
  replace hs2 := hs2.out ho (by omega)
  replace HX := Lib.hid (HX.out.of_block (ho.block _ HX.out.lt (by omega)))
  replace hg2 := hg2.out ho (by omega)
  replace hr3 := hr3.out ho (by omega)
  replace hs3 := hs3.out ho (by omega)
  replace ht3 := ht3.out ho (by omega)
  replace HB := Out.below HB ho (by omega)
  clear ho
  replace ht2 := hm
  clear hm
  have dd1 : decide (1 + (nx0 : Int) + (mx0 : Int) + (nx1 : Int) < 0) = false := by simp; omega
  go_wp2_with fail
  refine (eqInt64S_b _ _ _ _ _ _ _ _ _ (hg2.ints EL.out) (hg1.ints EL.out) hle).mono ?_
  rintro e w16 ⟨rfl, hb⟩
  have z16 := hb.size
  replace hI := hI.below (hb.mono HB.size)
  replace hJ := hJ.below (hb.mono HB.size)
  replace hK := hK.below (hb.mono HB.size)
  replace HL := Lib.hid (rowIs_below HL.out hb HL.out.lt)
  replace hr1 := hr1.below hb
  replace hs1 := hs1.below hb
  replace ht1 := ht1.below hb
  replace hg1 := hg1.below hb
  replace hr2 := hr2.below hb
  replace hs2 := hs2.below hb
  replace HX := Lib.hid (rowIs_below HX.out hb HX.out.lt)
  replace ht2 := ht2.below hb
  replace hg2 := hg2.below hb
  replace hr3 := hr3.below hb
  replace hs3 := hs3.below hb
  replace ht3 := ht3.below hb
  replace HB := HB.trans (hb.mono HB.size)
  clear hb
  go_wp2_with fail
  refine (markInt64S_any _ _ _ _ _ _ _ _ _ hg2 (by omega) (by omega) hle).mono ?_
  rintro e w17 ⟨rfl, hm, ho⟩
  have z17 := ho.size
  replace hI := hI.out ho (by omega) HB.size
  replace hJ := hJ.out ho (by omega) HB.size
  replace hK := hK.out ho (by omega) HB.size
  replace HL := Lib.hid (HL.out.of_block (ho.block _ HL.out.lt (by omega)))
  replace hr1 := hr1.out ho (by omega)
  replace hs1 := hs1.out ho (by omega)
  replace ht1 := ht1.out ho (by omega)
  replace hg1 := hg1.out ho (by omega)
  replace hr2 := hr2.out ho (by omega)
  replace hs2 := hs2.out ho (by omega)
  replace HX := Lib.hid (HX.out.of_block (ho.block _ HX.out.lt (by omega)))
  replace ht2 := ht2.out ho (by omega)
  replace hr3 := hr3.out ho (by omega)
  replace hs3 := hs3.out ho (by omega)
  replace ht3 := ht3.out ho (by omega)
  replace HB := Out.below HB ho (by omega)
  clear ho
  replace hg2 := hm
  clear hm
  go_wp2_with fail
  refine (heldInt64S_any _ _ _ _ _ _ _ _ hg2 (by omega) (by omega) hle).mono ?_
  rintro e w' ⟨rfl, rfl⟩
  have dd2 : decide (1 + (e2 : Int) < 0) = false := by simp; omega
  have dd3 : ((1 + (e2 : Int)) != 1 + (e2 : Int)) = false := by simp
  obtain ⟨l00, l01, l02, l03⟩ := four_cells HL.out
  obtain ⟨l00, l01, l02, l03⟩ := four_cells HL.out
  go_wp2_with fail
  clear l00 l01 l02 l03
  refine (toNetwork_any _ _ _ _ _ _ _ _ _ _ _ (hI.more HB.size) (hJ.more HB.size) hn hm).mono ?_
  rintro e w18 ⟨g4, k4, j4, rfl, hr4, hs4, hj4, hi4, hb⟩
  have z18 := hb.size
  replace hI := hI.below (hb.mono HB.size)
  replace hJ := hJ.below (hb.mono HB.size)
  replace hK := hK.below (hb.mono HB.size)
  replace HL := Lib.hid (rowIs_below HL.out hb HL.out.lt)
  replace hr1 := hr1.below hb
  replace hs1 := hs1.below hb
  replace ht1 := ht1.below hb
  replace hg1 := hg1.below hb
  replace hr2 := hr2.below hb
  replace hs2 := hs2.below hb
  replace HX := Lib.hid (rowIs_below HX.out hb HX.out.lt)
  replace ht2 := ht2.below hb
  replace hg2 := hg2.below hb
  replace hr3 := hr3.below hb
  replace hs3 := hs3.below hb
  replace ht3 := ht3.below hb
  replace HB := HB.trans (hb.mono HB.size)
  clear hb
  go_wp2_with fail
  refine (toInt64S_R _ _ _ _ _ (hK.more HB.size) hl).mono ?_
  rintro e w19 ⟨rfl, ht4, hb⟩
  have z19 := hb.size
  replace hI := hI.below (hb.mono HB.size)
  replace hJ := hJ.below (hb.mono HB.size)
  replace hK := hK.below (hb.mono HB.size)
  replace HL := Lib.hid (rowIs_below HL.out hb HL.out.lt)
  replace hr1 := hr1.below hb
  replace hs1 := hs1.below hb
  replace ht1 := ht1.below hb
  replace hg1 := hg1.below hb
  replace hr2 := hr2.below hb
  replace hs2 := hs2.below hb
  replace HX := Lib.hid (rowIs_below HX.out hb HX.out.lt)
  replace ht2 := ht2.below hb
  replace hg2 := hg2.below hb
  replace hr3 := hr3.below hb
  replace hs3 := hs3.below hb
  replace ht3 := ht3.below hb
  replace hr4 := hr4.below hb
  replace hs4 := hs4.below hb
  replace HB := HB.trans (hb.mono HB.size)
  clear hb
  go_wp2_with fail
  refine (impl_HiddenOf_any _ _ _ _ _ _ _ _ _ _ _ _ _ _ _ _ (hr4.ints hI.len) (hs4.ints hJ.len) (ht4.ints hK.len) (Nat.le_refl _) (Nat.le_refl _) hnc hn hm hl).mono ?_
  rintro e w20 ⟨a4, e4, c4, rfl, el4, ek4, ec4, hg4, hb⟩
  have z20 := hb.size
  replace hI := hI.below (hb.mono HB.size)
  replace hJ := hJ.below (hb.mono HB.size)
  replace hK := hK.below (hb.mono HB.size)
  replace HL := Lib.hid (rowIs_below HL.out hb HL.out.lt)
  replace hr1 := hr1.below hb
  replace hs1 := hs1.below hb
  replace ht1 := ht1.below hb
  replace hg1 := hg1.below hb
  replace hr2 := hr2.below hb
  replace hs2 := hs2.below hb
  replace HX := Lib.hid (rowIs_below HX.out hb HX.out.lt)
  replace ht2 := ht2.below hb
  replace hg2 := hg2.below hb
  replace hr3 := hr3.below hb
  replace hs3 := hs3.below hb
  replace ht3 := ht3.below hb
  replace hr4 := hr4.below hb
  replace hs4 := hs4.below hb
  replace ht4 := ht4.below hb
  replace HB := HB.trans (hb.mono HB.size)
  clear hb
  rw [HV.out] at el4 hg4
  rw [HC.out]
  obtain rfl : e4 = e2 := el4.symm.trans EL.out
  clear el4
  go_wp2_with fail
  refine (eqInt64S_b _ _ _ _ _ _ _ _ _ (hg4.ints EL.out) (hg1.ints EL.out) hle).mono ?_
  rintro e w21 ⟨rfl, hb⟩
  have z21 := hb.size
  replace hI := hI.below (hb.mono HB.size)
  replace hJ := hJ.below (hb.mono HB.size)
  replace hK := hK.below (hb.mono HB.size)
  replace HL := Lib.hid (rowIs_below HL.out hb HL.out.lt)
  replace hr1 := hr1.below hb
  replace hs1 := hs1.below hb
  replace ht1 := ht1.below hb
  replace hg1 := hg1.below hb
  replace hr2 := hr2.below hb
  replace hs2 := hs2.below hb
  replace HX := Lib.hid (rowIs_below HX.out hb HX.out.lt)
  replace ht2 := ht2.below hb
  replace hg2 := hg2.below hb
  replace hr3 := hr3.below hb
  replace hs3 := hs3.below hb
  replace ht3 := ht3.below hb
  replace hr4 := hr4.below hb
  replace hs4 := hs4.below hb
  replace ht4 := ht4.below hb
  replace hg4 := hg4.below hb
  replace HB := HB.trans (hb.mono HB.size)
  clear hb
  go_wp2_with fail
  refine (heldInt64S_any _ _ _ _ _ _ _ _ hg2 (by omega) (by omega) hle).mono ?_
  rintro e w' ⟨rfl, rfl⟩
  go_wp2_with fail
  go_ret
  exact ⟨rfl, HB⟩
namespace fnExactHiddenOf
set_option linter.unusedVariables false
set_option maxRecDepth 100000 in
theorem lifted (os : Os) (started : os.Started) (H : Type) (enc : TypeId × Value → H) :
    ReturnsInHanded {} Try.checked os 8 .any (Rows.fnExactHiddenOfSpec.pre6 enc Try.prog Try.f8 Rows.fnExactHiddenOfRow.domain false) (Rows.fnExactHiddenOfSpec.post enc Try.prog Try.f8 false true false false) := by
  refine returnsInHanded_of_change (C := Try.checked) own started (by kernel_rfl) Try.func8
    (ChangeSpec.witness6 (enc := enc) (C := Try.checked) false ⟨#[], #[.agg #[.int .i64 0, .int .i64 0, .slice none 0 0, .slice none 0 0], .slice none 0 0], []⟩ 8 (by kernel_rfl) (by kernel_rfl) (by kernel_rfl) (by kernel_rfl)) ?_
  intro W base args ds gs before hval0 hW hcnd _
  have hval : ∀ (j : Nat) t v, Try.f8.params[j]? = some t → args[j]? = some v → Value.okWide Try.prog W .any base t v := hval0
  have hW' := hW
  obtain ⟨p, q, hA0, hV, rfl, hfz, hnd⟩ := hW
  have hA : DataW.TrodAll enc Try.prog W 0 (fun _ => true) true Try.f8.params.toList args.toList ds p := hA0
  rw [Try.params8] at hA hval
  obtain ⟨v0, vs0, d0, ds0, p0, q0, hargs, rfl, rfl, h0, r0⟩ := trodAll_cons hA
  obtain ⟨v1, vs1, d1, ds1, p1, q1, rfl, rfl, rfl, h1, r1⟩ := trodAll_cons r0
  obtain ⟨rfl, rfl, rfl⟩ := trodAll_nil r1
  obtain rfl : args = #[v0, v1] := by cases args; simp_all
  obtain ⟨rfl, rfl⟩ := trodVars_none hV
  obtain ⟨ix0, hx0, ax0, nx0, cx0, x0, bx0, mx0, dx0, yx0, rfl, wx0⟩ := open_net (hval 0 24 v0 rfl rfl) h0
  obtain ⟨ax1, nx1, cx1, x1, rfl, wx1⟩ := open_ints_arg Try.underlying22 Try.underlying2 (by kernel_rfl) (hval 1 22 v1 rfl rfl) h1
  clear hA0 hval0
  refine (walk_FnExactHiddenOf W ix0 hx0 ax0 nx0 cx0 x0 bx0 mx0 dx0 yx0 wx0 ax1 nx1 cx1 x1 wx1).mono fun e W' ⟨he, bel⟩ => ?_
  subst he
  exact ⟨_, rfl, _, _, _, [], _, [], hW', trodAll_mk1 (shut_bool Try.underlying4 _), (trodAll_cons_mk (Below.trod laidOut (by kernel_rfl) (of_decide_eq_true (by kernel_rfl)) h0 bel (lt_of_trod h0)) (trodAll_cons_mk (Below.trod laidOut (by kernel_rfl) (of_decide_eq_true (by kernel_rfl)) h1 bel (lt_of_trod h1)) trodAll_mk0)), rfl, bel.frame _, fun h => by cases h⟩

theorem over : Rows.fnExactHiddenOfRow.holds Try.pinned (OpenSpec.ofChange Rows.fnExactHiddenOfSpec) :=
  OpenClaim.holds_of_wide 8 Try.f8 rfl rfl rfl rfl rfl rfl rfl ⟨rfl, rfl, rfl, rfl, rfl⟩ rfl rfl rfl rfl rfl (by kernel_rfl) Try.func8 (by kernel_rfl)
    (of_decide_eq_true (by kernel_rfl)) (by unfold Func.isWrapper; first | (rw [if_pos (by decide +kernel)]; kernel_rfl) | (rw [if_neg (by decide +kernel)]; exact ⟨rfl, rfl⟩))
    (fun os started H enc _ => lifted os started H enc)
theorem proved : Rows.FnExactHiddenOfSaid := over
#print axioms proved
end fnExactHiddenOf
end Go.Proofs.Ytcpbaigghhjceaa
