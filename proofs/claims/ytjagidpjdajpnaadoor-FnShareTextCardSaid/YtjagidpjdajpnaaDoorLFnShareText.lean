/-
  FnShareText returns true for every code: a share is recovered from its text; and the card that ties the listed variables. No condition.
-/
import Derived.Test.YtjagidpjdajpnaaDoorSpR
import Derived.Test.YtjagidpjdajpnaaDoorHnd
import Derived.Test.YtjagidpjdajpnaaDoorDrShT
namespace Go.Proofs.YtjagidpjdajpnaaDoor
open Go.ChangeShapes Go.WideShapes Go.ChangeAt Go.RowKit Go.Joins Go.Deep
set_option linter.unusedVariables false

theorem sh_eq (x y : Int) (W : World) : (binOp .eql 23 (shV x y) (shV x y)).run Tryd.prog W = .ok (.bool true) W := by
  have hS : Tryd.prog.underlying 23 = some (.struct (Tryd.prog.fieldsOf 23)) := by kernel_rfl
  have hp : Tryd.prog.stoodInHeld 23 = false := by kernel_rfl
  have u3 := Tryd.underlying2
  have a3 := Tryd.isAgg2
  have z3 := Tryd.sizeOf2
  rw [run_eql_struct, show (10000 : Nat) = 9999 + 1 from rfl, run_equalIn_agg W 9999 23 _ _ hS hp]
  simp only [Program.fieldsOf, Tryd.underlying23]
  go_simp
theorem shT_size (x y : Int) : (shT x y).size ≤ 100 := by
  unfold shT
  split
  · rename_i h
    obtain ⟨⟨n0, n1⟩, ⟨d0, d1⟩⟩ := shB_rg h
    have z1 := itS_size (n := x) (by omega) (by omega)
    have z2 := itS_size (n := y) (by omega) (by omega)
    have e : (⟨#[47]⟩ : ByteArray).size = 1 := rfl
    rw [shR, ByteArray.size_append, ByteArray.size_append, e]
    omega
  · exact Nat.zero_le _
set_option maxHeartbeats 1600000 in
theorem walk_FnShareText (w : World) (ax0 : Option Addr) (nx0 cx0 : Nat) (x0 : List Int) (wx0 : IntsArg w .u8 ax0 nx0 x0) (htab : Lib.TabIs Tryd.prog w "internal/strconv.uint64pow10" .u64 Lib.pow10Tab) (he : Evs w) (hm : Mxl w) :
    Calls Tryd.prog 4 #[.slice ax0 nx0 cx0] w fun e w' => e = .returned (.bool true) ∧ Below w.heap.size w w' := by
  by_cases hbig : 4096 < nx0
  · have hb : decide (4096 < (nx0 : Int)) = true := by simp; omega
    go_enter Tryd.func4, Tryd.ntmps4
    go_wp2_with fail
    refine (big_any _ _ _ _).mono ?_
    rintro e w1 ⟨rfl, rfl⟩
    go_wp2_with fail
    go_ret
    exact ⟨rfl, Below.refl _ _⟩
  have hb : decide (4096 < (nx0 : Int)) = false := by simp; omega
  go_enter Tryd.func4, Tryd.ntmps4
  go_wp2_with fail
  refine (big_any _ _ _ _).mono ?_
  rintro e w1 ⟨rfl, rfl⟩
  clear hb
  go_wp2_with fail
  refine (DrawShareText_any _ _ _ _ _ wx0 (by omega)).mono ?_
  rintro e w1 ⟨x, y, rfl, hB⟩
  have HB1 := Lib.hid (hB.alloc hB.size (.cells #[.int .i64 x, .int .i64 y] 23))
  have R1 := Lib.hid (two_new w1 x y 23)
  have hts := shT_size x y
  have IT := Lib.hid (fun W (hW : Below w.heap.size w W) => impl_ShareText_any x y W (Tab.below htab hW))
  have ST := Lib.hid (fun W => spec_ShareText_any x y W)
  have IM := Lib.hid (fun W (hW : Below w.heap.size w W) => impl_ReadShare_any (shT x y) W (by omega) (Tab.below htab hW) (he.below hW) (hm.below hW))
  have SE := sh_eq x y
  obtain ⟨K, hK⟩ : ∃ K, shB x y = K := ⟨_, rfl⟩
  have IS := Lib.hid (fun W => hK ▸ impl_IsShare_any x y W)
  have hgd : Tryd.prog.eqGuardType Tryd.prog.depth 23 = false := by kernel_rfl
  clear hB wx0 htab he hm
  cases K
  · rw [shT_none hK] at IT ST IM
    rw [rdS_none] at IM
    simp only at IM
    clear hK hts
    obtain ⟨c0, c1, _, _⟩ := two_cells R1.out
    go_wp2_with fail
    refine (IT.out _ HB1.out).mono ?_
    rintro e w2 ⟨rfl, hB⟩
    have HB2 := Lib.hid (HB1.out.trans (hB.mono HB1.out.size))
    have R2 := Lib.hid (rowIs_below R1.out hB R1.out.lt)
    clear hB c0 c1
    go_wp2_with fail
    refine (IM.out _ HB2.out).mono ?_
    rintro e w3 ⟨rfl, hB⟩
    have HB3 := Lib.hid ((HB2.out.trans (hB.mono HB2.out.size)).alloc (HB2.out.trans (hB.mono HB2.out.size)).size (.cells #[.int .i64 0, .int .i64 0] 23))
    have R3 := Lib.hid ((rowIs_below R2.out hB R2.out.lt).alloc (.cells #[.int .i64 0, .int .i64 0] 23))
    clear hB
    obtain ⟨c0, c1, _, _⟩ := two_cells R3.out
    go_wp2_with fail
    refine (ST.out _).mono ?_
    rintro e w4 ⟨rfl, hB⟩
    have HB4 := Lib.hid (HB3.out.trans (hB.mono HB3.out.size))
    have R4 := Lib.hid (rowIs_below R3.out hB R3.out.lt)
    clear hB c0 c1
    obtain ⟨c0, c1, _, _⟩ := two_cells R4.out
    go_wp2_with fail
    refine (IS.out _).mono ?_
    rintro e w5 ⟨rfl, hB⟩
    have HB5 := Lib.hid (HB4.out.trans (hB.mono HB4.out.size))
    clear hB c0 c1
    go_wp2_with fail
    go_ret
    exact ⟨rfl, HB5.out⟩
  · rw [rdS_text hK] at IM
    have hne : (shT x y).toList.isEmpty = false := by
      rw [shT, if_pos hK, ByteArray.toList_eq]
      cases h : (shR x y).data.toList with
      | nil =>
        rw [shR_list] at h
        simp at h
      | cons a b => rfl
    simp only at IM
    obtain ⟨T, hT⟩ : ∃ T, shT x y = T := ⟨_, rfl⟩
    rw [hT] at IT ST IM hne
    clear hK hts hT
    obtain ⟨c0, c1, _, _⟩ := two_cells R1.out
    go_wp2_with fail
    refine (IT.out _ HB1.out).mono ?_
    rintro e w2 ⟨rfl, hB⟩
    have HB2 := Lib.hid (HB1.out.trans (hB.mono HB1.out.size))
    have R2 := Lib.hid (rowIs_below R1.out hB R1.out.lt)
    clear hB c0 c1
    go_wp2_with fail
    refine (IM.out _ HB2.out).mono ?_
    rintro e w3 ⟨rfl, hB⟩
    have HB3 := Lib.hid ((HB2.out.trans (hB.mono HB2.out.size)).alloc (HB2.out.trans (hB.mono HB2.out.size)).size (.cells #[.int .i64 x, .int .i64 y] 23))
    have R3 := Lib.hid ((rowIs_below R2.out hB R2.out.lt).alloc (.cells #[.int .i64 x, .int .i64 y] 23))
    have S3 := Lib.hid (two_new w3 x y 23)
    clear hB
    obtain ⟨c0, c1, _, _⟩ := two_cells R3.out
    go_wp2_with fail
    refine (ST.out _).mono ?_
    rintro e w4 ⟨rfl, hB⟩
    have HB4 := Lib.hid (HB3.out.trans (hB.mono HB3.out.size))
    have R4 := Lib.hid (rowIs_below R3.out hB R3.out.lt)
    have S4 := Lib.hid (rowIs_below S3.out hB S3.out.lt)
    clear hB c0 c1
    obtain ⟨c0, c1, _, _⟩ := two_cells R4.out
    obtain ⟨e0, e1, _, _⟩ := two_cells S4.out
    go_wp2_with fail
    refine (IS.out _).mono ?_
    rintro e w5 ⟨rfl, hB⟩
    have HB5 := Lib.hid (HB4.out.trans (hB.mono HB4.out.size))
    clear hB c0 c1 e0 e1
    go_wp2_with fail
    go_ret
    exact ⟨rfl, HB5.out⟩
namespace fnShareText
set_option linter.unusedVariables false
theorem gPow : Tryd.prog.globalNamed "internal/strconv.uint64pow10" = some 3 := by kernel_rfl
theorem tPow : (Tryd.prog.globals[3]?).map (·.type) = some 85 := by kernel_rfl
theorem datum : (Rows.laid_internal_strconv_uint64pow10 : DataW Unit) = Lib.tabData .u64 Lib.pow10Tab := by kernel_rfl
theorem door_met (os : Os) (args : Array Value) : laidMetH Tryd.prog Rows.fnShareTextRow.laid ((World.doorLaid Tryd.prog 400 os).forCall (fun _ _ => 0) ⟨#[], args, []⟩).memory :=
  laidMetH_of_parts3 (fuel := 8) (laidMet_of_run' 8 (by kernel_rfl) (by kernel_rfl)) (by kernel_rfl) (by kernel_rfl)
theorem tab_of_laid {W : World} (h : laidMetH Tryd.prog Rows.fnShareTextRow.laid W) : Lib.TabIs Tryd.prog W "internal/strconv.uint64pow10" .u64 Lib.pow10Tab := by
  rw [MakeChecks.laidMetH_plain _ _ _ (by kernel_rfl)] at h
  obtain ⟨ps, ⟨g0, t0, cs0, f0, p0, q0, hg0, ht0, hv0, hd0, ⟨g1, t1, cs1, f1, p1, q1, hg1, ht1, hv1, hd1, ⟨g2, t2, cs2, f2, p2, q2, hg2, ht2, hv2, hd2, ⟨g3, t3, cs3, f3, p3, q3, hg3, ht3, hv3, hd3, ⟨g4, t4, cs4, f4, p4, q4, hg4, ht4, hv4, hd4, _, _⟩, _⟩, _⟩, _⟩, _⟩, _⟩ := h
  obtain rfl := Option.some.inj (gPow.symm.trans hg2)
  obtain rfl := Option.some.inj (tPow.symm.trans ht2)
  rw [datum] at hd2
  unfold Lib.TabIs
  rw [hv2, ← Lib.cells_of_tab Tryd.underlying85 Tryd.underlying64 (by kernel_rfl) (by kernel_rfl) hd2]
theorem evs_of_laid {W : World} (h0 : laidMetH Tryd.prog Rows.fnShareTextRow.laid W) : Evs W := by
  rw [MakeChecks.laidMetH_plain _ _ _ (by kernel_rfl)] at h0
  have h : laidMet Tryd.prog [("math/bits.deBruijn32tab", Rows.laid_math_bits_deBruijn32tab), ("math/bits.deBruijn64tab", Rows.laid_math_bits_deBruijn64tab), ("internal/strconv.uint64pow10", Rows.laid_internal_strconv_uint64pow10), ("strconv.ErrRange", Rows.laid_strconv_ErrRange), ("strconv.ErrSyntax", Rows.laid_strconv_ErrSyntax)] W := h0
  exact ⟨sentinel_any (h.tail.tail.tail.tail) (g := 1) (by kernel_rfl) (by kernel_rfl), sentinel_any (h.tail.tail.tail) (g := 2) (by kernel_rfl) (by kernel_rfl)⟩
set_option maxRecDepth 100000 in
theorem lifted (os : Os) (started : os.Started) (H : Type) (enc : TypeId × Value → H) :
    ReturnsInHanded {} Tryd.checked os 4 .any (fun w args => (Rows.fnShareTextSpec.pre enc Tryd.prog Tryd.f4 [] false w args ∧ laidMetH Tryd.prog Rows.fnShareTextRow.laid w) ∧ sizedMet enc Tryd.prog Tryd.f4 (OpenSpec.ofChange Rows.fnShareTextSpec) false w args) (Rows.fnShareTextSpec.post enc Tryd.prog Tryd.f4 false true false false) := by
  refine handed_laid_shaped (C := Tryd.checked) (X := fun w _ => laidMetH Tryd.prog Rows.fnShareTextRow.laid w) (fun _ _ _ hh h => h.of_heap hh) own started (by kernel_rfl) Tryd.func4
    (ChangeSpec.witness_shaped (enc := enc) (C := Tryd.checked) (os := os) (X := fun w _ => laidMetH Tryd.prog Rows.fnShareTextRow.laid w) false (World.doorLaid Tryd.prog 400 os) #[.slice none 0 0] 8 rfl (World.shaped_of_RefB (by kernel_rfl) (by kernel_rfl)) (by kernel_rfl) (by kernel_rfl) (by kernel_rfl) (door_met os _)) ?_
  intro W base args ds gs before hval0 hW _ _ hL hS _
  have hval : ∀ (j : Nat) t v, Tryd.f4.params[j]? = some t → args[j]? = some v → Value.okWide Tryd.prog W .any base t v := hval0
  have hW' := hW
  obtain ⟨p, q, hA0, hV, rfl, hfz, hnd⟩ := hW
  have hA : DataW.TrodAll enc Tryd.prog W 0 (fun _ => true) true Tryd.f4.params.toList args.toList ds p := hA0
  rw [Tryd.params4] at hA hval
  obtain ⟨v0, vs0, d0, ds0, p0, q0, hargs, rfl, rfl, h0, r0⟩ := trodAll_cons hA
  obtain ⟨rfl, rfl, rfl⟩ := trodAll_nil r0
  obtain rfl : args = #[v0] := by cases args; simp_all
  obtain ⟨rfl, rfl⟩ := trodVars_none hV
  obtain ⟨ax0, nx0, cx0, x0, rfl, wx0⟩ := open_ints_arg Tryd.underlying28 Tryd.underlying5 (by kernel_rfl) (hval 0 28 v0 rfl rfl) h0
  clear hA0 hval0
  refine (walk_FnShareText W ax0 nx0 cx0 x0 wx0 (tab_of_laid hL) (evs_of_laid hL) (mxl_of_shaped hS)).mono fun e W' ⟨he, bel⟩ => ?_
  subst he
  exact ⟨_, rfl, _, _, _, [], _, [], hW', trodAll_mk1 (shut_bool Tryd.underlying4 _), (trodAll_cons_mk (Below.trod laidOut (by kernel_rfl) (of_decide_eq_true (by kernel_rfl)) h0 bel (lt_of_trod h0)) trodAll_mk0), rfl, bel.frame _, fun h => by cases h⟩
theorem over : Rows.fnShareTextRow.holds Tryd.pinned (OpenSpec.ofChange Rows.fnShareTextSpec) :=
  OpenClaim.holds_of_wide 4 Tryd.f4 rfl rfl rfl rfl rfl rfl rfl ⟨rfl, rfl, rfl, rfl, rfl⟩ rfl rfl rfl rfl rfl (by kernel_rfl) Tryd.func4 (by kernel_rfl)
    (of_decide_eq_true (by kernel_rfl)) (by unfold Func.isWrapper; first | (rw [if_pos (by decide +kernel)]; kernel_rfl) | (rw [if_neg (by decide +kernel)]; exact ⟨rfl, rfl⟩))
    (fun os started H enc _ => lifted os started H enc)
theorem proved : Rows.FnShareTextCardSaid :=
  Claim7.holds_tied_plain_at .later [] [.data, .data, .data, .sentinel, .sentinel] true (true, "ee89b8d19be12fbc0bbf15fda74f03d88f2daf3d05b8798b69cf701f71b7bbe1") true
    over (fun _ h => by cases h) (by kernel_rfl) (fun _ h => by cases h) fnShareText_row_tie rfl ⟨rfl, rfl⟩ (by kernel_rfl) rfl
    (fun f fn hf hfn => by
      obtain rfl : f = 4 := Option.some.inj ((show Tryd.prog.funcNamed "loop.example/g00885/laws.FnShareText" = some 4 by kernel_rfl).symm.trans hf) |>.symm
      obtain rfl : fn = Tryd.f4 := (Option.some.inj (Tryd.func4.symm.trans hfn)).symm
      exact ⟨by kernel_rfl, fun j t ht => by
        rw [Tryd.params4] at ht
        have hm : t ∈ [28] := by simpa using Array.mem_of_getElem? ht
        have hall : ([28].all fun u => !Tryd.prog.wantsStandIn u) = true := by kernel_rfl
        exact (show Tryd.prog.wantsStandIn t = false by simpa using List.all_eq_true.1 hall t hm)⟩)
    (by kernel_rfl)
#print axioms proved
end fnShareText
end Go.Proofs.YtjagidpjdajpnaaDoor
