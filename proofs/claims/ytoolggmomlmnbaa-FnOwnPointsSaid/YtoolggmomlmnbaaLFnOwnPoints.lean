/-
  FnOwnPoints returns true for every code: the longest prime is a longest row of made points, and the blots and made points are counted by the features. No condition.
-/
import Derived.Test.YtoolggmomlmnbaaOwP
import Derived.Test.YtoolggmomlmnbaaDrX
import Derived.Deep.QuietTactic
import Derived.Deep.RegionWith
import Derived.Deep.RegionHeld3
import Derived.BigQuiet
namespace Go.Proofs.Ytoolggmomlmnbaa
open Go.ChangeShapes Go.WideShapes Go.ChangeAt Go.RowKit Go.Joins Go.Deep
set_option linter.unusedVariables false

theorem Ints.bb {w w' : World} {k : IntKind} {a : Option Addr} {n : Nat} {xs : List Int} (h : Ints w w.heap.size k a n xs) (hb : Below w.heap.size w w') : Ints w' w'.heap.size k a n xs := (h.below hb).more hb.size

set_option maxRecDepth 16000 in
set_option maxHeartbeats 3200000 in
theorem walk_FnOwnPoints (w : World) (ax0 : Option Addr) (nx0 cx0 : Nat) (x0 : List Int) (wx0 : IntsArg w .u8 ax0 nx0 x0) :
    Calls Try.prog 9 #[.slice ax0 nx0 cx0] w fun e w' => e = .returned (.bool true) ∧ Below w.heap.size w w' := by
  by_cases hbig : 4096 < (nx0 : Int)
  · have hd : decide (4096 < (nx0 : Int)) = true := decide_eq_true hbig
    go_enter Try.func9, Try.ntmps9
    go_wp2_with fail
    refine (big_any _ _ _ _).mono ?_
    rw [hd]
    rintro e w1 ⟨rfl, rfl⟩
    go_wp2_with fail
    go_ret
    exact ⟨rfl, Below.refl _ _⟩
  · have hd : decide (4096 < (nx0 : Int)) = false := decide_eq_false hbig
    have DR := Lib.hid (DrawLongestPrime_any ax0 nx0 cx0 x0 w wx0 (by omega))
    clear wx0 hbig
    go_enter Try.func9, Try.ntmps9
    go_wp2_with fail
    refine (big_any _ _ _ _).mono ?_
    rw [hd]
    rintro e w1 ⟨rfl, rfl⟩
    go_wp2_with fail
    refine DR.out.mono ?_
    rintro e w1 ⟨p, c, h, s, A, m, d, ys, B, q, f, zs, rfl, hm, hq, hA, hB, hb⟩
    have hb0 := ((Below.refl w1.heap.size w1).alloc (Nat.le_refl _) (.cells #[.int .i64 p, .int .i64 c, .int .i64 h, .int .i64 s] 30)).alloc (by simp) (.cells #[.slice A m d, .slice B q f] 32)
    have V1 := Lib.hid ((vr4_new w1 (.int .i64 p) (.int .i64 c) (.int .i64 h) (.int .i64 s) 30).alloc (.cells #[.slice A m d, .slice B q f] 32))
    have R1 := Lib.hid (pr_new (w1.alloc (.cells #[.int .i64 p, .int .i64 c, .int .i64 h, .int .i64 s] 30)) (.slice A m d) (.slice B q f) 32)
    rw [World.size_alloc] at R1
    obtain ⟨W1, hW1⟩ : ∃ W, (w1.alloc (.cells #[.int .i64 p, .int .i64 c, .int .i64 h, .int .i64 s] 30)).alloc (.cells #[.slice A m d, .slice B q f] 32) = W := ⟨_, rfl⟩
    rw [hW1] at hb0 V1 R1
    have IA := hA.bb hb0
    have IB := hB.bb hb0
    have HB := hb.trans (hb0.mono hb.size)
    obtain ⟨bv, hbv⟩ : ∃ b, w1.heap.size = b := ⟨_, rfl⟩
    rw [hbv] at V1 R1
    have HW1 := Lib.hid hW1
    have HBV := Lib.hid hbv
    clear hA hB hb hb0 hW1 hbv hd DR
    obtain ⟨v0, v1, v2, v3⟩ := vr4_cells V1.out
    obtain ⟨b0, b1⟩ := pr_cells R1.out
    have IM := Lib.hid (impl_LongestPrime_any p c h s A m d ys B q f zs _ W1 IA IB (Nat.le_refl _) (by omega) (by omega))
    go_wp2_with fail
    rw [HW1.out]
    simp only [HBV.out]
    clear HW1 HBV
    go_wp2_with fail
    cases hv : boardB p c h s m ys q zs
    · rw [primeV_no hv] at IM
      refine IM.out.mono ?_
      rintro e w2 ⟨rfl, hb⟩
      have V2 := Lib.hid (rowIs_below V1.out hb V1.out.lt)
      have R2 := Lib.hid (rowIs_below R1.out hb R1.out.lt)
      replace IA := IA.bb hb
      replace IB := IB.bb hb
      replace HB := HB.trans (hb.mono HB.size)
      clear hb v0 v1 v2 v3 b0 b1 V1 R1
      obtain ⟨v0, v1, v2, v3⟩ := vr4_cells V2.out
      obtain ⟨b0, b1⟩ := pr_cells R2.out
      have IS := Lib.hid (spec_IsBoard_any p c h s A m d ys B q f zs _ w2 IA IB (Nat.le_refl _) (by omega) (by omega))
      rw [hv] at IS
      clear hv
      go_wp2_with fail
      refine IS.out.mono ?_
      rintro e w3 ⟨rfl, hb⟩
      replace HB := HB.trans (hb.mono HB.size)
      clear hb v0 v1 v2 v3 b0 b1 V2 R2
      go_wp2_with fail
      go_ret
      exact ⟨rfl, HB⟩
    · obtain ⟨P, rfl, ⟨m1, m2⟩, ⟨q1, q2⟩, m25, q25, hX, hY⟩ := boardB_out hv
      obtain ⟨⟨_, _⟩, _, ⟨h1, _⟩, _⟩ := vrB_true.1 (show vrB P c h s = true by simp only [boardB, Bool.and_eq_true] at hv; exact hv.1)
      obtain ⟨H, rfl⟩ := Int.eq_ofNat_of_zero_le (show 0 ≤ h by omega)
      have hOP := own_points (xs := ys) (P := P) (f := isMade) (fun i hi => by
        have := hX i (by omega)
        unfold isMade wB
        generalize ys.getD i 0 = y at this ⊢
        by_cases e : 2 ≤ y
        · rw [decide_eq_true e, decide_eq_true (show y ≤ 99 by omega)]; rfl
        · rw [decide_eq_false e]; rfl)
      obtain ⟨ho1, ho2, ho3, ho4, ho5, ho6, ho7⟩ := hOP
      have ab := prAt_bd ys P
      have hll := ptsL_le isMade ys P
      rw [primeV_yes hv] at IM
      have HF := Lib.hid (featB_yes hv)
      have HC := Lib.hid (bdC_yes hv)
      have HP1 := Lib.hid (ptsB_yes (f := isOne) hv)
      have HP2 := Lib.hid (ptsB_yes (f := isMade) hv)
      have HV := Lib.hid hv
      have HS6 := Lib.hid (show (featV P H c m ys q zs).getD 6 0 = ((ptsL isOne ys P).length : Int) from rfl)
      have HS8 := Lib.hid (show (featV P H c m ys q zs).getD 8 0 = ((ptsL isMade ys P).length : Int) from rfl)
      have HS12 := Lib.hid (show (featV P H c m ys q zs).getD 12 0 = prLong ys P from rfl)
      have hlen : (featV P H c m ys q zs).length = 16 := rfl
      obtain ⟨F, hF⟩ : ∃ F, featV P H c m ys q zs = F := ⟨_, rfl⟩
      obtain ⟨L1, hL1⟩ : ∃ L, ptsL isOne ys P = L := ⟨_, rfl⟩
      obtain ⟨L2, hL2⟩ : ∃ L, ptsL isMade ys P = L := ⟨_, rfl⟩
      obtain ⟨t, ht⟩ : ∃ t, prAt ys P = t := ⟨_, rfl⟩
      obtain ⟨l, hl⟩ : ∃ l, prLong ys P = l := ⟨_, rfl⟩
      rw [hF] at HF HS6 HS8 HS12 hlen
      rw [hL1] at HP1 HS6
      rw [hL2] at HP2 HS8 hll ho1 ho2 ho3
      rw [ht] at IM ho1 ho2 ho3 ho4 ho5 ho6 ab
      rw [hl] at IM ho1 ho3 ho4 ho5 ho6 ho7 HS12
      have hh1 := Lib.hid ho1
      have hh2 := Lib.hid ho2
      have hh3 := Lib.hid ho3
      have hh4 := Lib.hid ho4
      have hh5 := Lib.hid ho5
      have hHL := Lib.hid hlen
      clear hF hL1 hL2 ht hl hv ho1 ho2 ho3 ho4 ho5 hX hY hlen h1
      have m0 : 0 < m := by omega
      have q0 : 0 < q := by omega
      refine IM.out.mono ?_
      rintro e w2 ⟨rfl, hb⟩
      have V2 := Lib.hid (rowIs_below V1.out hb V1.out.lt)
      have R2 := Lib.hid (rowIs_below R1.out hb R1.out.lt)
      replace IA := IA.bb hb
      replace IB := IB.bb hb
      replace HB := HB.trans (hb.mono HB.size)
      clear hb v0 v1 v2 v3 b0 b1 V1 R1 IM
      obtain ⟨v0, v1, v2, v3⟩ := vr4_cells V2.out
      obtain ⟨b0, b1⟩ := pr_cells R2.out
      have IS := Lib.hid (spec_IsBoard_any P c H s A m d ys B q f zs _ w2 IA IB (Nat.le_refl _) (by omega) (by omega))
      rw [HV.out] at IS
      go_wp2_with fail
      refine IS.out.mono ?_
      rintro e w3 ⟨rfl, hb⟩
      have V3 := Lib.hid (rowIs_below V2.out hb V2.out.lt)
      have R3 := Lib.hid (rowIs_below R2.out hb R2.out.lt)
      replace IA := IA.bb hb
      replace IB := IB.bb hb
      replace HB := HB.trans (hb.mono HB.size)
      clear hb v0 v1 v2 v3 b0 b1 V2 R2 IS
      obtain ⟨v0, v1, v2, v3⟩ := vr4_cells V3.out
      obtain ⟨b0, b1⟩ := pr_cells R3.out
      have SF := Lib.hid (spec_FeaturesOf_any P c H s A m d ys B q f zs _ w3 IA IB (Nat.le_refl _) (by omega) (by omega))
      rw [HF.out, HC.out] at SF
      go_wp2_with fail
      refine SF.out.mono ?_
      rintro e w4 ⟨a4, k4, c4, rfl, hl4, hr4, hb⟩
      rw [hHL.out] at hl4
      subst hl4
      have V4 := Lib.hid (rowIs_below V3.out hb V3.out.lt)
      have R4 := Lib.hid (rowIs_below R3.out hb R3.out.lt)
      replace IA := IA.bb hb
      replace IB := IB.bb hb
      replace HB := HB.trans (hb.mono HB.size)
      have IX := hr4.ints hHL.out
      clear hb v0 v1 v2 v3 b0 b1 V3 R3 SF hr4
      obtain ⟨v0, v1, v2, v3⟩ := vr4_cells V4.out
      obtain ⟨b0, b1⟩ := pr_cells R4.out
      have OB := Lib.hid (impl_OwnBlots_any P c H s A m d ys B q f zs _ w4 IA IB (Nat.le_refl _) (by omega) (by omega))
      rw [HP1.out, HC.out] at OB
      go_wp2_with fail
      refine OB.out.mono ?_
      rintro e w5 ⟨a5, k5, c5, rfl, hl5, hr5, hb⟩
      have V5 := Lib.hid (rowIs_below V4.out hb V4.out.lt)
      have R5 := Lib.hid (rowIs_below R4.out hb R4.out.lt)
      replace IA := IA.bb hb
      replace IB := IB.bb hb
      replace IX := IX.bb hb
      replace HB := HB.trans (hb.mono HB.size)
      rw [hl5] at HS6
      clear hb v0 v1 v2 v3 b0 b1 V4 R4 OB hr5 hl5
      obtain ⟨v0, v1, v2, v3⟩ := vr4_cells V5.out
      obtain ⟨b0, b1⟩ := pr_cells R5.out
      have MP := Lib.hid (impl_MadePoints_any P c H s A m d ys B q f zs _ w5 IA IB (Nat.le_refl _) (by omega) (by omega))
      rw [HP2.out, HC.out] at MP
      go_wp2_with fail
      refine MP.out.mono ?_
      rintro e w6 ⟨a6, k6, c6, rfl, hl6, hr6, hb⟩
      replace IX := IX.bb hb
      replace HB := HB.trans (hb.mono HB.size)
      have IY := hr6.ints hl6
      rw [hl6] at HS8
      clear hb v0 v1 v2 v3 b0 b1 V5 R5 MP hr6 IA IB
      obtain ⟨ax, ox, rfl, hax, hcx⟩ := IX.2 (by omega)
      have d6 := hcx 6 (by omega)
      have d8 := hcx 8 (by omega)
      have d12 := hcx 12 (by omega)
      rw [HS6.out] at d6
      rw [HS8.out] at d8
      rw [HS12.out] at d12
      have hk6 : k6 ≤ 1048576 := by omega
      clear hcx hax IX HS6 HS8 HS12 hl6
      have e5 : ((k5 : Int) != (k5 : Int)) = false := by simp
      have e6 : ((k6 : Int) != (k6 : Int)) = false := by simp
      have el : (l != l) = false := by simp
      have IY' := Lib.hid IY
      clear IY
      go_wp2_with fail
      go_loopw [14] (fun i wr => ∃ x : Int, i = .int .i64 x ∧ t ≤ x ∧ x ≤ t + l ∧ Below w6.heap.size w6 wr) (fun i _ => (t + l - intOf i).toNat)
      case atStart => exact ⟨t, rfl, by omega, by omega, Below.refl _ _⟩
      case round =>
        obtain ⟨x, rfl, x1, x2, hbel⟩ := hrel
        have IZ := Lib.hid (IY'.out.bb hbel)
        by_cases hlt : x < t + l
        · have HI := Lib.hid (fun W (hI : Ints W W.heap.size .i64 a6 k6 L2) => hasInt_any a6 k6 c6 _ L2 x W hI hk6)
          rw [decide_eq_true (hh1.out x x1 hlt)] at HI
          go_wp2_with fail
          refine (HI.out _ (by exact IZ.out)).mono ?_
          rintro e w7 ⟨rfl, rfl⟩
          go_wp2_with fail
          go_roundw
          case rel => exact ⟨x + 1, by go_num, by omega, by omega, (by first | exact hbel | exact below_drewN hbel _)⟩
          case measure => simp [intOf]; omega
        · obtain rfl : x = t + l := by omega
          have H1 := Lib.hid (fun W (hI : Ints W W.heap.size .i64 a6 k6 L2) => hasInt_any a6 k6 c6 _ L2 (t - 1) W hI hk6)
          rw [decide_eq_false hh2.out] at H1
          have H2 := Lib.hid (fun W (hI : Ints W W.heap.size .i64 a6 k6 L2) => hasInt_any a6 k6 c6 _ L2 (t + l) W hI hk6)
          rw [decide_eq_false hh3.out] at H2
          have IZd := Lib.hid (show Ints wr.drew wr.drew.heap.size .i64 a6 k6 L2 from IZ.out)
          have HBd := Lib.hid (show Below w.heap.size w wr.drew from below_drewN (HB.trans (hbel.mono HB.size)) 1)
          have wr1 : IntKind.i64.wrap (t - 1) = t - 1 := IntWalk.i64_in _ (by omega)
          have wr2 : IntKind.i64.wrap (t + l) = t + l := IntWalk.i64_in _ (by omega)
          have hkb : (t == -1) = (l == 0) := by
            by_cases hl0 : l = 0
            · rw [hh4.out hl0, hl0]; rfl
            · have ht := hh5.out hl0
              rw [beq_eq_false_iff_ne.2 hl0]
              exact beq_eq_false_iff_ne.2 (by omega)
          obtain ⟨kb, hk2⟩ : ∃ kb, (l == 0) = kb := ⟨_, rfl⟩
          rw [hk2] at hkb
          cases kb
          all_goals
            go_wp2_with fail
            refine (H1.out _ (by first | exact IZ.out | exact IZd.out)).mono ?_
            rintro e w7 ⟨rfl, rfl⟩
            go_wp2_with fail
            refine (H2.out _ (by first | exact IZ.out | exact IZd.out)).mono ?_
            rintro e w7 ⟨rfl, rfl⟩
            go_wp2_with fail
            go_ret
            exact ⟨rfl, (by first | exact HB.trans (hbel.mono HB.size) | exact HBd.out | exact below_drewN (HB.trans (hbel.mono HB.size)) _)⟩
namespace fnOwnPoints
set_option linter.unusedVariables false
set_option maxRecDepth 100000 in
theorem lifted (os : Os) (started : os.Started) (H : Type) (enc : TypeId × Value → H) :
    ReturnsInHanded {} Try.checked os 9 .any (Rows.fnOwnPointsSpec.pre6 enc Try.prog Try.f9 Rows.fnOwnPointsRow.domain false) (Rows.fnOwnPointsSpec.post enc Try.prog Try.f9 false true false false) := by
  refine returnsInHanded_of_change (C := Try.checked) own started (by kernel_rfl) Try.func9
    (ChangeSpec.witness6 (enc := enc) (C := Try.checked) false ⟨#[], #[.slice none 0 0], []⟩ 8 (by kernel_rfl) (by kernel_rfl) (by kernel_rfl) (by kernel_rfl)) ?_
  intro W base args ds gs before hval0 hW hcnd _
  have hval : ∀ (j : Nat) t v, Try.f9.params[j]? = some t → args[j]? = some v → Value.okWide Try.prog W .any base t v := hval0
  have hW' := hW
  obtain ⟨p, q, hA0, hV, rfl, hfz, hnd⟩ := hW
  have hA : DataW.TrodAll enc Try.prog W 0 (fun _ => true) true Try.f9.params.toList args.toList ds p := hA0
  rw [Try.params9] at hA hval
  obtain ⟨v0, vs0, d0, ds0, p0, q0, hargs, rfl, rfl, h0, r0⟩ := trodAll_cons hA
  obtain ⟨rfl, rfl, rfl⟩ := trodAll_nil r0
  obtain rfl : args = #[v0] := by cases args; simp_all
  obtain ⟨rfl, rfl⟩ := trodVars_none hV
  obtain ⟨ax0, nx0, cx0, x0, rfl, wx0⟩ := open_ints_arg Try.underlying41 Try.underlying5 (by kernel_rfl) (hval 0 41 v0 rfl rfl) h0
  clear hA0 hval0
  refine (walk_FnOwnPoints W ax0 nx0 cx0 x0 wx0).mono fun e W' ⟨he, bel⟩ => ?_
  subst he
  exact ⟨_, rfl, _, _, _, [], _, [], hW', trodAll_mk1 (shut_bool Try.underlying4 _), (trodAll_cons_mk (Below.trod laidOut (by kernel_rfl) (of_decide_eq_true (by kernel_rfl)) h0 bel (lt_of_trod h0)) trodAll_mk0), rfl, bel.frame _, fun h => by cases h⟩

theorem over : Rows.fnOwnPointsRow.holds Try.pinned (OpenSpec.ofChange Rows.fnOwnPointsSpec) :=
  OpenClaim.holds_of_wide 9 Try.f9 rfl rfl rfl rfl rfl rfl rfl ⟨rfl, rfl, rfl, rfl, rfl⟩ rfl rfl rfl rfl rfl (by kernel_rfl) Try.func9 (by kernel_rfl)
    (of_decide_eq_true (by kernel_rfl)) (by unfold Func.isWrapper; first | (rw [if_pos (by decide +kernel)]; kernel_rfl) | (rw [if_neg (by decide +kernel)]; exact ⟨rfl, rfl⟩))
    (fun os started H enc _ => lifted os started H enc)
theorem proved : Rows.FnOwnPointsSaid := over
#print axioms proved
end fnOwnPoints
end Go.Proofs.Ytoolggmomlmnbaa
