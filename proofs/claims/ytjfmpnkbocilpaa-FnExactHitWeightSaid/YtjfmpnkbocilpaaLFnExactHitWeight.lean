/-
  FnExactHitWeight returns true for all arguments: HitWeight of the program and of the reference agree, and the board is left as it was. No condition.
-/
import Derived.Test.YtjfmpnkbocilpaaHwH
import Derived.StillTailTactics
import Derived.RegionTactic
import Derived.BigRegion
import Derived.Deep.RegionWith
import Derived.Deep.RegionHeld3
namespace Go.Proofs.Ytjfmpnkbocilpaa
open Go.ChangeShapes Go.WideShapes Go.ChangeAt Go.RowKit Go.Joins Go.Deep
set_option linter.unusedVariables false

set_option maxRecDepth 100000 in
set_option maxHeartbeats 6400000 in
theorem walk_FnExactHitWeight (w : World) (px0 cx0 hx0 sx0 : Int) (wx0 : (Lit.int .i64 px0).wf = true ∧ (Lit.int .i64 cx0).wf = true ∧ (Lit.int .i64 hx0).wf = true ∧ (Lit.int .i64 sx0).wf = true) (ax1 : Option Addr) (nx1 cx1 : Nat) (x1 : List Int) (bx1 : Option Addr) (mx1 dx1 : Nat) (yx1 : List Int) (wx1 : IntsArg w .i64 ax1 nx1 x1 ∧ IntsArg w .i64 bx1 mx1 yx1) :
    Calls Try.prog 3 #[.agg #[.int .i64 px0, .int .i64 cx0, .int .i64 hx0, .int .i64 sx0], bdV ax1 nx1 cx1 bx1 mx1 dx1] w fun e w' => e = .returned (.bool true) ∧ Below w.heap.size w w' := by
  obtain ⟨⟨hI, hmx, _⟩, ⟨hJ, hmy, _⟩⟩ := wx1
  have HB := ((Below.refl w.heap.size w).alloc (Nat.le_refl _) (.cells #[.int .i64 px0, .int .i64 cx0, .int .i64 hx0, .int .i64 sx0] 23)).alloc (by simp) (.cells #[.slice ax1 nx1 cx1, .slice bx1 mx1 dx1] 26)
  by_cases hbig : 1048576 < nx1 + mx1
  · go_enter Try.func3, Try.ntmps3
    go_wp2_with fail
    refine (szBoard_no _ _ _ _ _ _ _ hmx hmy hbig).mono ?_
    rintro e w1 ⟨rfl, hb⟩
    go_wp2_with fail
    go_ret
    exact ⟨rfl, HB.trans (hb.mono HB.size)⟩
  have hs : nx1 + mx1 ≤ 1048576 := by omega
  have hn : nx1 ≤ 1048576 := by omega
  have hm : mx1 ≤ 1048576 := by omega
  clear hbig
  have hL := (vr4_new w (.int .i64 px0) (.int .i64 cx0) (.int .i64 hx0) (.int .i64 sx0) 23).alloc (.cells #[.slice ax1 nx1 cx1, .slice bx1 mx1 dx1] 26)
  have hK := pr_new (w.alloc (.cells #[.int .i64 px0, .int .i64 cx0, .int .i64 hx0, .int .i64 sx0] 23)) (.slice ax1 nx1 cx1) (.slice bx1 mx1 dx1) 26
  simp only [World.size_alloc] at hK
  have z0 : ((w.alloc (.cells #[.int .i64 px0, .int .i64 cx0, .int .i64 hx0, .int .i64 sx0] 23)).alloc (.cells #[.slice ax1 nx1 cx1, .slice bx1 mx1 dx1] 26)).heap.size = w.heap.size + 1 + 1 := by simp
  have hsz : 0 ≤ (1048576 : Int) - nx1 - mx1 := by omega
  have hn0 : decide ((1048576 : Int) - nx1 - mx1 < 0) = false := by simp; omega
  replace hI := hI.below HB
  replace hJ := hJ.below HB
  have HL := Lib.hid hL
  have HK := Lib.hid hK
  clear hL hK
  go_enter Try.func3, Try.ntmps3
  go_wp2_with fail
  refine (szBoard_yes _ _ _ _ _ _ _ hs).mono ?_
  rintro e w1 ⟨rfl, hb⟩
  have z1 := hb.size
  replace hI := hI.below (hb.mono HB.size)
  replace hJ := hJ.below (hb.mono HB.size)
  replace HL := Lib.hid (rowIs_below HL.out hb HL.out.lt)
  replace HK := Lib.hid (rowIs_below HK.out hb HK.out.lt)
  replace HB := HB.trans (hb.mono HB.size)
  clear hb
  have SP := Lib.hid (fun W g k n1 m1 (k1 : Ints W W.heap.size .i64 g nx1 x1) (k2 : Ints W W.heap.size .i64 k mx1 yx1) => (spec_HitWeight_any px0 cx0 hx0 sx0 g nx1 n1 x1 k mx1 m1 yx1 _ W k1 k2 (Nat.le_refl _) hn hm))
  have IM := Lib.hid (fun W g k n1 m1 (k1 : Ints W W.heap.size .i64 g nx1 x1) (k2 : Ints W W.heap.size .i64 k mx1 yx1) => (impl_HitWeight_any px0 cx0 hx0 sx0 g nx1 n1 x1 k mx1 m1 yx1 _ W k1 k2 (Nat.le_refl _) hn hm))
  obtain ⟨x, y, hV⟩ : ∃ x y : Int, hwV px0 cx0 hx0 sx0 nx1 x1 mx1 yx1 = .tuple #[.int .i64 x, .int .i64 y] := by unfold hwV; split <;> (try split) <;> exact ⟨_, _, rfl⟩
  rw [hV] at SP IM
  clear hV
  have hxx : (x != x) = false := by simp
  have hyy : (y != y) = false := by simp
  obtain ⟨l00, l01, l02, l03⟩ := vr4_cells HL.out
  obtain ⟨l10, l11⟩ := pr_cells HK.out
  go_wp2_with fail
  replace hI := ints_drew hI
  replace hJ := ints_drew hJ
  replace HL := Lib.hid (rowIs_drewN HL.out 1)
  replace HK := Lib.hid (rowIs_drewN HK.out 1)
  replace HB : Below w.heap.size w w1.drew := below_drewN HB 1
  have zd1 : w1.drew.heap.size = w1.heap.size := rfl
  go_region_held3 (fun w' => w'.cell? ⟨w.heap.size, 0, none⟩ = some (.int .i64 px0) ∧ w'.cell? ⟨w.heap.size, 1, none⟩ = some (.int .i64 cx0) ∧ w'.cell? ⟨w.heap.size, 2, none⟩ = some (.int .i64 hx0) ∧ w'.cell? ⟨w.heap.size, 3, none⟩ = some (.int .i64 sx0) ∧ w'.cell? ⟨w.heap.size + 1, 0, none⟩ = some (.slice ax1 nx1 cx1) ∧ w'.cell? ⟨w.heap.size + 1, 1, none⟩ = some (.slice bx1 mx1 dx1))
    (go_keep)
    (first
      | (go_at_call 7; refine (toVariant_any _ _ _ _ _).mono ?_; rintro e w2 ⟨rfl, hb⟩; have z2 := hb.size; replace hI := hI.below (hb.mono HB.size); replace hJ := hJ.below (hb.mono HB.size); replace HL := Lib.hid (rowIs_below HL.out hb HL.out.lt); replace HK := Lib.hid (rowIs_below HK.out hb HK.out.lt); replace HB := HB.trans (hb.mono HB.size); clear hb; obtain ⟨y2_00, y2_01, y2_02, y2_03⟩ := vr4_cells HL.out; obtain ⟨y2_10, y2_11⟩ := pr_cells HK.out)
      | (go_at_call 8; refine (toBoard_any _ _ _ _ _ _ _ _ _ (hI.more HB.size) (hJ.more HB.size) hn hm).mono ?_; rintro e w3 ⟨g1, k1, j1, rfl, hr1, hs1, hj1, hi1, hb⟩; have z3 := hb.size; replace hI := hI.below (hb.mono HB.size); replace hJ := hJ.below (hb.mono HB.size); replace HL := Lib.hid (rowIs_below HL.out hb HL.out.lt); replace HK := Lib.hid (rowIs_below HK.out hb HK.out.lt); replace HB := HB.trans (hb.mono HB.size); clear hb; obtain ⟨y3_00, y3_01, y3_02, y3_03⟩ := vr4_cells HL.out; obtain ⟨y3_10, y3_11⟩ := pr_cells HK.out)
      | (go_at_call 6; refine (SP.out _ _ _ _ _ (hr1.ints hI.len) (hs1.ints hJ.len)).mono ?_; rintro e w4 ⟨rfl, hb⟩; have z4 := hb.size; replace hI := hI.below (hb.mono HB.size); replace hJ := hJ.below (hb.mono HB.size); replace HL := Lib.hid (rowIs_below HL.out hb HL.out.lt); replace HK := Lib.hid (rowIs_below HK.out hb HK.out.lt); replace hr1 := hr1.below hb; replace hs1 := hs1.below hb; replace HB := HB.trans (hb.mono HB.size); clear hb; obtain ⟨y4_00, y4_01, y4_02, y4_03⟩ := vr4_cells HL.out; obtain ⟨y4_10, y4_11⟩ := pr_cells HK.out))
  clear l00 l01 l02 l03 l10 l11 y2_00 y2_01 y2_02 y2_03 y2_10 y2_11 y3_00 y3_01 y3_02 y3_03 y3_10 y3_11 y4_00 y4_01 y4_02 y4_03 y4_10 y4_11
  obtain ⟨l00, l01, l02, l03⟩ := vr4_cells HL.out
  obtain ⟨l10, l11⟩ := pr_cells HK.out
  go_wp2_with fail
  clear l00 l01 l02 l03 l10 l11
  refine (toBoard_any _ _ _ _ _ _ _ _ _ (hI.more HB.size) (hJ.more HB.size) hn hm).mono ?_
  rintro e w5 ⟨g2, k2, j2, rfl, hr2, hs2, hj2, hi2, hb⟩
  have z5 := hb.size
  replace hI := hI.below (hb.mono HB.size)
  replace hJ := hJ.below (hb.mono HB.size)
  replace HL := Lib.hid (rowIs_below HL.out hb HL.out.lt)
  replace HK := Lib.hid (rowIs_below HK.out hb HK.out.lt)
  replace hr1 := hr1.below hb
  replace hs1 := hs1.below hb
  replace HB := HB.trans (hb.mono HB.size)
  clear hb
  go_wp2_with fail
  have hb := (Below.refl w5.heap.size w5).alloc (Nat.le_refl _) (.cells #[.slice (some ⟨g2, 0, none⟩) nx1 nx1, .slice (some ⟨k2, 0, none⟩) mx1 mx1] 32)
  have hq := pr_new w5 (.slice (some ⟨g2, 0, none⟩) nx1 nx1) (.slice (some ⟨k2, 0, none⟩) mx1 mx1) 32
  obtain ⟨w6, hw6⟩ : ∃ x, x = (w5.alloc (.cells #[.slice (some ⟨g2, 0, none⟩) nx1 nx1, .slice (some ⟨k2, 0, none⟩) mx1 mx1] 32)) := ⟨_, rfl⟩
  rw [← hw6] at hb hq
  have z6 : w5.heap.size + 1 = w6.heap.size := by rw [hw6]; simp
  replace hI := hI.below (hb.mono HB.size)
  replace hJ := hJ.below (hb.mono HB.size)
  replace HL := Lib.hid (rowIs_below HL.out hb HL.out.lt)
  replace HK := Lib.hid (rowIs_below HK.out hb HK.out.lt)
  replace hr1 := hr1.below hb
  replace hs1 := hs1.below hb
  replace hr2 := hr2.below hb
  replace hs2 := hs2.below hb
  replace HB := HB.trans (hb.mono HB.size)
  have HX := Lib.hid hq
  rw [← hw6]
  clear hb hq hw6
  obtain ⟨l00, l01, l02, l03⟩ := vr4_cells HL.out
  obtain ⟨l10, l11⟩ := pr_cells HK.out
  obtain ⟨l20, l21⟩ := pr_cells HX.out
  go_wp2_with fail
  replace hI := ints_drew hI
  replace hJ := ints_drew hJ
  replace HL := Lib.hid (rowIs_drewN HL.out 1)
  replace HK := Lib.hid (rowIs_drewN HK.out 1)
  replace hr1 := hr1.drew
  replace hs1 := hs1.drew
  replace hr2 := hr2.drew
  replace hs2 := hs2.drew
  replace HX := Lib.hid (rowIs_drewN HX.out 1)
  replace HB : Below w.heap.size w w6.drew := below_drewN HB 1
  have zd6 : w6.drew.heap.size = w6.heap.size := rfl
  go_region_held3 (fun w' => w'.cell? ⟨w.heap.size, 0, none⟩ = some (.int .i64 px0) ∧ w'.cell? ⟨w.heap.size, 1, none⟩ = some (.int .i64 cx0) ∧ w'.cell? ⟨w.heap.size, 2, none⟩ = some (.int .i64 hx0) ∧ w'.cell? ⟨w.heap.size, 3, none⟩ = some (.int .i64 sx0) ∧ w'.cell? ⟨w.heap.size + 1, 0, none⟩ = some (.slice ax1 nx1 cx1) ∧ w'.cell? ⟨w.heap.size + 1, 1, none⟩ = some (.slice bx1 mx1 dx1) ∧ w'.cell? ⟨w5.heap.size, 0, none⟩ = some (.slice (some ⟨g2, 0, none⟩) nx1 nx1) ∧ w'.cell? ⟨w5.heap.size, 1, none⟩ = some (.slice (some ⟨k2, 0, none⟩) mx1 mx1))
    (go_keep)
    (first
      | (go_at_call 7; refine (toVariant_any _ _ _ _ _).mono ?_; rintro e w7 ⟨rfl, hb⟩; have z7 := hb.size; replace hI := hI.below (hb.mono HB.size); replace hJ := hJ.below (hb.mono HB.size); replace HL := Lib.hid (rowIs_below HL.out hb HL.out.lt); replace HK := Lib.hid (rowIs_below HK.out hb HK.out.lt); replace hr1 := hr1.below hb; replace hs1 := hs1.below hb; replace hr2 := hr2.below hb; replace hs2 := hs2.below hb; replace HX := Lib.hid (rowIs_below HX.out hb HX.out.lt); replace HB := HB.trans (hb.mono HB.size); clear hb; obtain ⟨y7_00, y7_01, y7_02, y7_03⟩ := vr4_cells HL.out; obtain ⟨y7_10, y7_11⟩ := pr_cells HK.out; obtain ⟨y7_20, y7_21⟩ := pr_cells HX.out)
      | (go_at_call 9; refine (IM.out _ _ _ _ _ (hr2.ints hI.len) (hs2.ints hJ.len)).mono ?_; rintro e w8 ⟨rfl, hb⟩; have z8 := hb.size; replace hI := hI.below (hb.mono HB.size); replace hJ := hJ.below (hb.mono HB.size); replace HL := Lib.hid (rowIs_below HL.out hb HL.out.lt); replace HK := Lib.hid (rowIs_below HK.out hb HK.out.lt); replace hr1 := hr1.below hb; replace hs1 := hs1.below hb; replace hr2 := hr2.below hb; replace hs2 := hs2.below hb; replace HX := Lib.hid (rowIs_below HX.out hb HX.out.lt); replace HB := HB.trans (hb.mono HB.size); clear hb; obtain ⟨y8_00, y8_01, y8_02, y8_03⟩ := vr4_cells HL.out; obtain ⟨y8_10, y8_11⟩ := pr_cells HK.out; obtain ⟨y8_20, y8_21⟩ := pr_cells HX.out))
  clear l00 l01 l02 l03 l10 l11 l20 l21 y7_00 y7_01 y7_02 y7_03 y7_10 y7_11 y7_20 y7_21 y8_00 y8_01 y8_02 y8_03 y8_10 y8_11 y8_20 y8_21
  obtain ⟨l00, l01, l02, l03⟩ := vr4_cells HL.out
  obtain ⟨l10, l11⟩ := pr_cells HK.out
  obtain ⟨l20, l21⟩ := pr_cells HX.out
  go_wp2_with fail
  replace hI := ints_drew hI
  replace hJ := ints_drew hJ
  replace HL := Lib.hid (rowIs_drewN HL.out 1)
  replace HK := Lib.hid (rowIs_drewN HK.out 1)
  replace hr1 := hr1.drew
  replace hs1 := hs1.drew
  replace hr2 := hr2.drew
  replace hs2 := hs2.drew
  replace HX := Lib.hid (rowIs_drewN HX.out 1)
  replace HB : Below w.heap.size w w8.drew := below_drewN HB 1
  have zd8 : w8.drew.heap.size = w8.heap.size := rfl
  go_region_held3 (fun w' => w'.cell? ⟨w.heap.size, 0, none⟩ = some (.int .i64 px0) ∧ w'.cell? ⟨w.heap.size, 1, none⟩ = some (.int .i64 cx0) ∧ w'.cell? ⟨w.heap.size, 2, none⟩ = some (.int .i64 hx0) ∧ w'.cell? ⟨w.heap.size, 3, none⟩ = some (.int .i64 sx0) ∧ w'.cell? ⟨w.heap.size + 1, 0, none⟩ = some (.slice ax1 nx1 cx1) ∧ w'.cell? ⟨w.heap.size + 1, 1, none⟩ = some (.slice bx1 mx1 dx1) ∧ w'.cell? ⟨w5.heap.size, 0, none⟩ = some (.slice (some ⟨g2, 0, none⟩) nx1 nx1) ∧ w'.cell? ⟨w5.heap.size, 1, none⟩ = some (.slice (some ⟨k2, 0, none⟩) mx1 mx1))
    (go_keep)
    (first
      | (go_at_call 8; refine (toBoard_any _ _ _ _ _ _ _ _ _ (hI.more HB.size) (hJ.more HB.size) hn hm).mono ?_; rintro e w9 ⟨g3, k3, j3, rfl, hr3, hs3, hj3, hi3, hb⟩; have z9 := hb.size; replace hI := hI.below (hb.mono HB.size); replace hJ := hJ.below (hb.mono HB.size); replace HL := Lib.hid (rowIs_below HL.out hb HL.out.lt); replace HK := Lib.hid (rowIs_below HK.out hb HK.out.lt); replace hr1 := hr1.below hb; replace hs1 := hs1.below hb; replace hr2 := hr2.below hb; replace hs2 := hs2.below hb; replace HX := Lib.hid (rowIs_below HX.out hb HX.out.lt); replace HB := HB.trans (hb.mono HB.size); clear hb; obtain ⟨y9_00, y9_01, y9_02, y9_03⟩ := vr4_cells HL.out; obtain ⟨y9_10, y9_11⟩ := pr_cells HK.out; obtain ⟨y9_20, y9_21⟩ := pr_cells HX.out)
      | (go_at_call 10; refine (eqBoard_same _ _ _ _ _ _ _ _ _ _ _ _ _ (hr2.ints hI.len) (hr3.ints hI.len) (hs2.ints hJ.len) (hs3.ints hJ.len) hn hm).mono ?_; rintro e w10 ⟨rfl, hb⟩; have z10 := hb.size; replace hI := hI.below (hb.mono HB.size); replace hJ := hJ.below (hb.mono HB.size); replace HL := Lib.hid (rowIs_below HL.out hb HL.out.lt); replace HK := Lib.hid (rowIs_below HK.out hb HK.out.lt); replace hr1 := hr1.below hb; replace hs1 := hs1.below hb; replace hr2 := hr2.below hb; replace hs2 := hs2.below hb; replace HX := Lib.hid (rowIs_below HX.out hb HX.out.lt); replace hr3 := hr3.below hb; replace hs3 := hs3.below hb; replace HB := HB.trans (hb.mono HB.size); clear hb; obtain ⟨y10_00, y10_01, y10_02, y10_03⟩ := vr4_cells HL.out; obtain ⟨y10_10, y10_11⟩ := pr_cells HK.out; obtain ⟨y10_20, y10_21⟩ := pr_cells HX.out))
  clear l00 l01 l02 l03 l10 l11 l20 l21 y9_00 y9_01 y9_02 y9_03 y9_10 y9_11 y9_20 y9_21 y10_00 y10_01 y10_02 y10_03 y10_10 y10_11 y10_20 y10_21
  go_wp2_with fail
  go_ret
  exact ⟨rfl, HB⟩
namespace fnExactHitWeight
set_option linter.unusedVariables false
set_option maxRecDepth 100000 in
theorem lifted (os : Os) (started : os.Started) (H : Type) (enc : TypeId × Value → H) :
    ReturnsInHanded {} Try.checked os 3 .any (Rows.fnExactHitWeightSpec.pre6 enc Try.prog Try.f3 Rows.fnExactHitWeightRow.domain false) (Rows.fnExactHitWeightSpec.post enc Try.prog Try.f3 false true false false) := by
  refine returnsInHanded_of_change (C := Try.checked) own started (by kernel_rfl) Try.func3
    (ChangeSpec.witness6 (enc := enc) (C := Try.checked) false ⟨#[], #[.agg #[.int .i64 0, .int .i64 0, .int .i64 0, .int .i64 0], .agg #[.slice none 0 0, .slice none 0 0]], []⟩ 8 (by kernel_rfl) (by kernel_rfl) (by kernel_rfl) (by kernel_rfl)) ?_
  intro W base args ds gs before hval0 hW hcnd _
  have hval : ∀ (j : Nat) t v, Try.f3.params[j]? = some t → args[j]? = some v → Value.okWide Try.prog W .any base t v := hval0
  have hW' := hW
  obtain ⟨p, q, hA0, hV, rfl, hfz, hnd⟩ := hW
  have hA : DataW.TrodAll enc Try.prog W 0 (fun _ => true) true Try.f3.params.toList args.toList ds p := hA0
  rw [Try.params3] at hA hval
  obtain ⟨v0, vs0, d0, ds0, p0, q0, hargs, rfl, rfl, h0, r0⟩ := trodAll_cons hA
  obtain ⟨v1, vs1, d1, ds1, p1, q1, rfl, rfl, rfl, h1, r1⟩ := trodAll_cons r0
  obtain ⟨rfl, rfl, rfl⟩ := trodAll_nil r1
  obtain rfl : args = #[v0, v1] := by cases args; simp_all
  obtain ⟨rfl, rfl⟩ := trodVars_none hV
  obtain ⟨px0, cx0, hx0, sx0, rfl, wx0⟩ := open_int4 Try.underlying23 (by kernel_rfl) (by kernel_rfl) Try.underlying2 Try.underlying2 Try.underlying2 Try.underlying2 (hval 0 23 v0 rfl rfl) h0
  obtain ⟨ax1, nx1, cx1, x1, bx1, mx1, dx1, yx1, rfl, wx1⟩ := open_board (hval 1 26 v1 rfl rfl) h1
  clear hA0 hval0
  refine (walk_FnExactHitWeight W px0 cx0 hx0 sx0 wx0 ax1 nx1 cx1 x1 bx1 mx1 dx1 yx1 wx1).mono fun e W' ⟨he, bel⟩ => ?_
  subst he
  exact ⟨_, rfl, _, _, _, [], _, [], hW', trodAll_mk1 (shut_bool Try.underlying4 _), (trodAll_cons_mk (Below.trod laidOut (by kernel_rfl) (of_decide_eq_true (by kernel_rfl)) h0 bel (lt_of_trod h0)) (trodAll_cons_mk (Below.trod laidOut (by kernel_rfl) (of_decide_eq_true (by kernel_rfl)) h1 bel (lt_of_trod h1)) trodAll_mk0)), rfl, bel.frame _, fun h => by cases h⟩

theorem over : Rows.fnExactHitWeightRow.holds Try.pinned (OpenSpec.ofChange Rows.fnExactHitWeightSpec) :=
  OpenClaim.holds_of_wide 3 Try.f3 rfl rfl rfl rfl rfl rfl rfl ⟨rfl, rfl, rfl, rfl, rfl⟩ rfl rfl rfl rfl rfl (by kernel_rfl) Try.func3 (by kernel_rfl)
    (of_decide_eq_true (by kernel_rfl)) (by unfold Func.isWrapper; first | (rw [if_pos (by decide +kernel)]; kernel_rfl) | (rw [if_neg (by decide +kernel)]; exact ⟨rfl, rfl⟩))
    (fun os started H enc _ => lifted os started H enc)
theorem proved : Rows.FnExactHitWeightSaid := over
#print axioms proved
end fnExactHitWeight
end Go.Proofs.Ytjfmpnkbocilpaa
