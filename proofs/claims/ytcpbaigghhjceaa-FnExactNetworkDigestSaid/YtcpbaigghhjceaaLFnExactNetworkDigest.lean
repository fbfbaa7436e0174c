/-
  FnExactNetworkDigest returns true for every network: NetworkDigest of the program and of the reference agree, and the network is left as it was. No condition.
-/
import Derived.Test.YtcpbaigghhjceaaDig
import Derived.StillTailTactics
import Derived.RegionTactic
import Derived.BigRegion
import Derived.Deep.RegionWith
import Derived.Deep.RegionHeld3
namespace Go.Proofs.Ytcpbaigghhjceaa
open Go.ChangeShapes Go.WideShapes Go.ChangeAt Go.RowKit
set_option linter.unusedVariables false

set_option maxHeartbeats 3200000 in
theorem walk_FnExactNetworkDigest (w : World) (ix0 hx0 : Int) (ax0 : Option Addr) (nx0 cx0 : Nat) (x0 : List Int) (bx0 : Option Addr) (mx0 dx0 : Nat) (yx0 : List Int) (wx0 : IntsArg w .i64 ax0 nx0 x0 ∧ IntsArg w .i64 bx0 mx0 yx0) :
    Calls Try.prog 5 #[netV ix0 hx0 ax0 nx0 cx0 bx0 mx0 dx0] w fun e w' => e = .returned (.bool true) ∧ Below w.heap.size w w' := by
  obtain ⟨⟨hI, hmx, _⟩, ⟨hJ, hmy, _⟩⟩ := wx0
  have HB := (Below.refl w.heap.size w).alloc (Nat.le_refl _) (.cells #[.int .i64 ix0, .int .i64 hx0, .slice ax0 nx0 cx0, .slice bx0 mx0 dx0] 24)
  by_cases hbig : 1048576 < nx0 + mx0
  · go_enter Try.func5, Try.ntmps5
    go_wp2_with fail
    refine (szNetwork_no _ _ _ _ _ _ _ _ _ hmx hmy hbig).mono ?_
    rintro e w1 ⟨rfl, hb⟩
    go_wp2_with fail
    go_ret
    exact ⟨rfl, HB.trans (hb.mono HB.size)⟩
  · have hs : nx0 + mx0 ≤ 1048576 := by omega
    have hn : nx0 ≤ 1048576 := by omega
    have hm : mx0 ≤ 1048576 := by omega
    clear hbig
    have hL := four_new w (.int .i64 ix0) (.int .i64 hx0) (.slice ax0 nx0 cx0) (.slice bx0 mx0 dx0) 24
    have z0 : (w.alloc (.cells #[.int .i64 ix0, .int .i64 hx0, .slice ax0 nx0 cx0, .slice bx0 mx0 dx0] 24)).heap.size = w.heap.size + 1 := by simp
    have hlt : w.heap.size < (w.alloc (.cells #[.int .i64 ix0, .int .i64 hx0, .slice ax0 nx0 cx0, .slice bx0 mx0 dx0] 24)).heap.size := by simp
    have hsz : 0 ≤ (1048576 : Int) - nx0 - mx0 := by omega
    have hn0 : decide ((1048576 : Int) - nx0 - mx0 < 0) = false := by simp; omega
    replace hI := hI.below HB
    replace hJ := hJ.below HB
    have HL := Lib.hid hL
    clear hL
    go_enter Try.func5, Try.ntmps5
    go_wp2_with fail
    refine (szNetwork_yes _ _ _ _ _ _ _ _ _ hs).mono ?_
    rintro e w1 ⟨rfl, hb⟩
    have z1 := hb.size
    replace hI := hI.below (hb.mono HB.size)
    replace hJ := hJ.below (hb.mono HB.size)
    replace HL := Lib.hid (rowIs_below HL.out hb HL.out.lt)
    replace HB := HB.trans (hb.mono HB.size)
    clear hb
    obtain ⟨l00, l01, l02, l03⟩ := four_cells HL.out
    go_wp2_with fail
    clear l00 l01 l02 l03
    refine (toNetwork_any _ _ _ _ _ _ _ _ _ _ _ (hI.more HB.size) (hJ.more HB.size) hn hm).mono ?_
    rintro e w2 ⟨g1, k1, j1, rfl, hr1, hs1, hj1, hi1, hb⟩
    have z2 := hb.size
    replace hI := hI.below (hb.mono HB.size)
    replace hJ := hJ.below (hb.mono HB.size)
    replace HL := Lib.hid (rowIs_below HL.out hb HL.out.lt)
    replace HB := HB.trans (hb.mono HB.size)
    clear hb
    go_wp2_with fail
    refine (spec_NetworkDigest_any _ _ _ _ _ _ _ _ _ _ _ _ (hr1.ints hI.len) (hs1.ints hJ.len) (Nat.le_refl _) hn hm).mono ?_
    rintro e w3 ⟨rfl, hb⟩
    have z3 := hb.size
    replace hI := hI.below (hb.mono HB.size)
    replace hJ := hJ.below (hb.mono HB.size)
    replace HL := Lib.hid (rowIs_below HL.out hb HL.out.lt)
    replace hr1 := hr1.below hb
    replace hs1 := hs1.below hb
    replace HB := HB.trans (hb.mono HB.size)
    clear hb
    obtain ⟨b, hb⟩ : ∃ b : Int, digV ix0 hx0 nx0 x0 mx0 yx0 = b := ⟨_, rfl⟩
    have HBB := Lib.hid hb
    rw [hb]
    clear hb
    obtain ⟨l00, l01, l02, l03⟩ := four_cells HL.out
    go_wp2_with fail
    clear l00 l01 l02 l03
    refine (toNetwork_any _ _ _ _ _ _ _ _ _ _ _ (hI.more HB.size) (hJ.more HB.size) hn hm).mono ?_
    rintro e w4 ⟨g2, k2, j2, rfl, hr2, hs2, hj2, hi2, hb⟩
    have z4 := hb.size
    replace hI := hI.below (hb.mono HB.size)
    replace hJ := hJ.below (hb.mono HB.size)
    replace HL := Lib.hid (rowIs_below HL.out hb HL.out.lt)
    replace hr1 := hr1.below hb
    replace hs1 := hs1.below hb
    replace HB := HB.trans (hb.mono HB.size)
    clear hb
    go_wp2_with fail
    have hb := (Below.refl w4.heap.size w4).alloc (Nat.le_refl _) (.cells #[.int .i64 ix0, .int .i64 hx0, .slice (some ⟨g2, 0, none⟩) nx0 nx0, .slice (some ⟨k2, 0, none⟩) mx0 mx0] 27)
    have hq := four_new w4 (.int .i64 ix0) (.int .i64 hx0) (.slice (some ⟨g2, 0, none⟩) nx0 nx0) (.slice (some ⟨k2, 0, none⟩) mx0 mx0) 27
    obtain ⟨w5, hw5⟩ : ∃ x, x = (w4.alloc (.cells #[.int .i64 ix0, .int .i64 hx0, .slice (some ⟨g2, 0, none⟩) nx0 nx0, .slice (some ⟨k2, 0, none⟩) mx0 mx0] 27)) := ⟨_, rfl⟩
    rw [← hw5] at hb hq
    have z5 : w4.heap.size + 1 = w5.heap.size := by rw [hw5]; simp
    replace hI := hI.below (hb.mono HB.size)
    replace hJ := hJ.below (hb.mono HB.size)
    replace HL := Lib.hid (rowIs_below HL.out hb HL.out.lt)
    replace hr1 := hr1.below hb
    replace hs1 := hs1.below hb
    replace hr2 := hr2.below hb
    replace hs2 := hs2.below hb
    replace HB := HB.trans (hb.mono HB.size)
    have HX := Lib.hid hq
    rw [← hw5]
    clear hb hq hw5
    refine (impl_NetworkDigest_any _ _ _ _ _ _ _ _ _ _ _ _ (hr2.ints hI.len) (hs2.ints hJ.len) (Nat.le_refl _) hn hm).mono ?_
    rw [HBB.out]
    rintro e w6 ⟨rfl, hb⟩
    have z6 := hb.size
    replace hI := hI.below (hb.mono HB.size)
    replace hJ := hJ.below (hb.mono HB.size)
    replace HL := Lib.hid (rowIs_below HL.out hb HL.out.lt)
    replace hr1 := hr1.below hb
    replace hs1 := hs1.below hb
    replace hr2 := hr2.below hb
    replace hs2 := hs2.below hb
    replace HX := Lib.hid (rowIs_below HX.out hb HX.out.lt)
    replace HB := HB.trans (hb.mono HB.size)
    clear hb
    have hbb : (b != b) = false := by simp
    have hbq : (b == b) = true := by simp
    obtain ⟨l00, l01, l02, l03⟩ := four_cells HL.out
    obtain ⟨l10, l11, l12, l13⟩ := four_cells HX.out
    go_wp2_with fail
    have hId : Ints w6.drew w6.drew.heap.size .i64 ax0 nx0 x0 := hI.more HB.size
    have hJd : Ints w6.drew w6.drew.heap.size .i64 bx0 mx0 yx0 := hJ.more HB.size
    have hrd := hr2.drew
    have hsd := hs2.drew
    have HXd := Lib.hid (rowIs_drewN HX.out 1)
    have HBd : Below w.heap.size w w6.drew := below_drewN HB 1
    go_region_with (first | (go_at_call 12; refine (toNetwork_any _ _ _ _ _ _ _ _ _ _ _ hId hJd hn hm).mono ?_; rintro e w7 ⟨g3, k3, j3, rfl, hr3, hs3, hj3, hi3, hb⟩; have z7 := hb.size; obtain ⟨m0, m1, m2, m3⟩ := four_cells (rowIs_below HXd.out hb HXd.out.lt)) | (go_at_call 14; refine (eqNetwork_same _ _ _ _ _ _ _ _ _ _ _ _ _ _ _ ((hrd.below hb).ints hI.len) (hr3.ints hI.len) ((hsd.below hb).ints hJ.len) (hs3.ints hJ.len) hn hm).mono ?_; rintro e w8 ⟨rfl, hc⟩; have z8 := hc.size))
    all_goals
      go_wp2_with fail
      go_ret
      refine ⟨rfl, ?_⟩
      have H7 : Below w.heap.size w w7 := HBd.trans (hb.mono HBd.size)
      have H8 : Below w.heap.size w w8 := H7.trans (hc.mono H7.size)
      exact H8
namespace fnExactNetworkDigest
set_option linter.unusedVariables false
set_option maxRecDepth 100000 in
theorem lifted (os : Os) (started : os.Started) (H : Type) (enc : TypeId × Value → H) :
    ReturnsInHanded {} Try.checked os 5 .any (Rows.fnExactNetworkDigestSpec.pre6 enc Try.prog Try.f5 Rows.fnExactNetworkDigestRow.domain false) (Rows.fnExactNetworkDigestSpec.post enc Try.prog Try.f5 false true false false) := by
  refine returnsInHanded_of_change (C := Try.checked) own started (by kernel_rfl) Try.func5
    (ChangeSpec.witness6 (enc := enc) (C := Try.checked) false ⟨#[], #[.agg #[.int .i64 0, .int .i64 0, .slice none 0 0, .slice none 0 0]], []⟩ 8 (by kernel_rfl) (by kernel_rfl) (by kernel_rfl) (by kernel_rfl)) ?_
  intro W base args ds gs before hval0 hW hcnd _
  have hval : ∀ (j : Nat) t v, Try.f5.params[j]? = some t → args[j]? = some v → Value.okWide Try.prog W .any base t v := hval0
  have hW' := hW
  obtain ⟨p, q, hA0, hV, rfl, hfz, hnd⟩ := hW
  have hA : DataW.TrodAll enc Try.prog W 0 (fun _ => true) true Try.f5.params.toList args.toList ds p := hA0
  rw [Try.params5] at hA hval
  obtain ⟨v0, vs0, d0, ds0, p0, q0, hargs, rfl, rfl, h0, r0⟩ := trodAll_cons hA
  obtain ⟨rfl, rfl, rfl⟩ := trodAll_nil r0
  obtain rfl : args = #[v0] := by cases args; simp_all
  obtain ⟨rfl, rfl⟩ := trodVars_none hV
  obtain ⟨ix0, hx0, ax0, nx0, cx0, x0, bx0, mx0, dx0, yx0, rfl, wx0⟩ := open_net (hval 0 24 v0 rfl rfl) h0
  clear hA0 hval0
  refine (walk_FnExactNetworkDigest W ix0 hx0 ax0 nx0 cx0 x0 bx0 mx0 dx0 yx0 wx0).mono fun e W' ⟨he, bel⟩ => ?_
  subst he
  exact ⟨_, rfl, _, _, _, [], _, [], hW', trodAll_mk1 (shut_bool Try.underlying4 _), (trodAll_cons_mk (Below.trod laidOut (by kernel_rfl) (of_decide_eq_true (by kernel_rfl)) h0 bel (lt_of_trod h0)) trodAll_mk0), rfl, bel.frame _, fun h => by cases h⟩

theorem over : Rows.fnExactNetworkDigestRow.holds Try.pinned (OpenSpec.ofChange Rows.fnExactNetworkDigestSpec) :=
  OpenClaim.holds_of_wide 5 Try.f5 rfl rfl rfl rfl rfl rfl rfl ⟨rfl, rfl, rfl, rfl, rfl⟩ rfl rfl rfl rfl rfl (by kernel_rfl) Try.func5 (by kernel_rfl)
    (of_decide_eq_true (by kernel_rfl)) (by unfold Func.isWrapper; first | (rw [if_pos (by decide +kernel)]; kernel_rfl) | (rw [if_neg (by decide +kernel)]; exact ⟨rfl, rfl⟩))
    (fun os started H enc _ => lifted os started H enc)
theorem proved : Rows.FnExactNetworkDigestSaid := over
#print axioms proved
end fnExactNetworkDigest
end Go.Proofs.Ytcpbaigghhjceaa
