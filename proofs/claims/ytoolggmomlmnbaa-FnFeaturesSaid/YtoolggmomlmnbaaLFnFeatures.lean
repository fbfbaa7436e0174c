/-
  FnFeatures returns true for every code: exchanging both players exchanges their features, apart from the anchors, and does not change the contact. No condition.
-/
import Derived.Test.YtoolggmomlmnbaaSwap
import Derived.Deep.QuietTactic
import Derived.BigQuiet
namespace Go.Proofs.Ytoolggmomlmnbaa
open Go.ChangeShapes Go.WideShapes Go.ChangeAt Go.RowKit
set_option linter.unusedVariables false

theorem Ints.bb {w w' : World} {k : IntKind} {a : Option Addr} {n : Nat} {xs : List Int} (h : Ints w w.heap.size k a n xs) (hb : Below w.heap.size w w') : Ints w' w'.heap.size k a n xs := (h.below hb).more hb.size
set_option maxRecDepth 16000 in
set_option maxHeartbeats 3200000 in
theorem walk_FnFeatures (w : World) (ax0 : Option Addr) (nx0 cx0 : Nat) (x0 : List Int) (wx0 : IntsArg w .u8 ax0 nx0 x0) :
    Calls Try.prog 6 #[.slice ax0 nx0 cx0] w fun e w' => e = .returned (.bool true) ∧ Below w.heap.size w w' := by
  by_cases hbig : 4096 < (nx0 : Int)
  · have hd : decide (4096 < (nx0 : Int)) = true := decide_eq_true hbig
    go_enter Try.func6, Try.ntmps6
    go_wp2_with fail
    refine (big_any _ _ _ _).mono ?_
    rw [hd]
    rintro e w1 ⟨rfl, rfl⟩
    go_wp2_with fail
    go_ret
    exact ⟨rfl, Below.refl _ _⟩
  · have hd : decide (4096 < (nx0 : Int)) = false := decide_eq_false hbig
    have DR := Lib.hid (DrawFeaturesOf_any ax0 nx0 cx0 x0 w wx0 (by omega))
    clear wx0 hbig
    go_enter Try.func6, Try.ntmps6
    go_wp2_with fail
    refine (big_any _ _ _ _).mono ?_
    rw [hd]
    rintro e w1 ⟨rfl, rfl⟩
    go_wp2_with fail
    refine DR.out.mono ?_
    rintro e w1 ⟨p, c, h, s, A, m, d, ys, B, q, f, zs, rfl, hm, hq, hA, hB, hb⟩
    have hb0 := ((Below.refl w1.heap.size w1).alloc (Nat.le_refl _) (.cells #[.int .i64 p, .int .i64 c, .int .i64 h, .int .i64 s] 30)).alloc (by simp) (.cells #[.slice A m d, .slice B q f] 32)
    have V1 := Lib.hid ((vr4_new w1 (.int .i64 p) (.int .i64 c) (.int .i64 h) (.int .i64 s) 30).alloc (.cells #[.slice A m d, .slice B q f] 32))
    have R1 := Lib.hid (pr_new (w1.alloc (.cells #[.int .i64 p, .int .i64 c, .int .i64 h, .int .i64 s] 30)) (.slice A m d) (.slice B q f) 32)
    rw [World.size_alloc] at R1
    obtain ⟨W1, hW1⟩ : ∃ W, (w1.alloc (.cells #[.int .i64 p, .int .i64 c, .int .i64 h, .int .i64 s] 30)).alloc (.cells #[.slice A m d, .slice B q f] 32) = W := ⟨_, rfl⟩
    rw [hW1] at hb0 V1 R1
    have IA := hA.bb hb0
    have IB := hB.bb hb0
    have HB := hb.trans (hb0.mono hb.size)
    obtain ⟨bv, hbv⟩ : ∃ b, w1.heap.size = b := ⟨_, rfl⟩
    rw [hbv] at V1 R1
    have HW1 := Lib.hid hW1
    have HBV := Lib.hid hbv
    clear hA hB hb hb0 hW1 hbv hd DR
    obtain ⟨v0, v1, v2, v3⟩ := vr4_cells V1.out
    obtain ⟨b0, b1⟩ := pr_cells R1.out
    go_wp2_with fail
    rw [HW1.out]
    simp only [HBV.out]
    clear HW1 HBV
    go_wp2_with fail
    refine (impl_FeaturesOf_any p c h s A m d ys B q f zs _ W1 IA IB (Nat.le_refl _) (by omega) (by omega)).mono ?_
    rintro e w2 ⟨a1, k1, c1, rfl, hl1, hr1, hb⟩
    have V2 := Lib.hid (rowIs_below V1.out hb V1.out.lt)
    have R2 := Lib.hid (rowIs_below R1.out hb R1.out.lt)
    replace IA := IA.bb hb
    replace IB := IB.bb hb
    replace HB := HB.trans (hb.mono HB.size)
    have IX := hr1.ints hl1
    clear hb hr1 v0 v1 v2 v3 b0 b1 V1 R1
    obtain ⟨v0, v1, v2, v3⟩ := vr4_cells V2.out
    obtain ⟨b0, b1⟩ := pr_cells R2.out
    go_wp2_with fail
    refine (spec_IsBoard_any p c h s A m d ys B q f zs _ w2 IA IB (Nat.le_refl _) (by omega) (by omega)).mono ?_
    rintro e w3 ⟨rfl, hb⟩
    have V3 := Lib.hid (rowIs_below V2.out hb V2.out.lt)
    have R3 := Lib.hid (rowIs_below R2.out hb R2.out.lt)
    replace IA := IA.bb hb
    replace IB := IB.bb hb
    replace IX := IX.bb hb
    replace HB := HB.trans (hb.mono HB.size)
    clear hb v0 v1 v2 v3 b0 b1 V2 R2
    cases hv : boardB p c h s m ys q zs
    · have hk0 : k1 = 0 := by rw [featB_no hv] at hl1; simpa using hl1.symm
      have HC := Lib.hid (bdC_no hv)
      subst hk0
      rw [HC.out]
      clear hv hl1
      go_wp2_with fail
      go_ret
      exact ⟨rfl, HB⟩
    · obtain ⟨P, rfl, ⟨m1, m2⟩, ⟨q1, q2⟩, m25, q25, hX, hY⟩ := boardB_out hv
      obtain ⟨⟨_, _⟩, _, ⟨h1, _⟩, _⟩ := vrB_true.1 (show vrB P c h s = true by simp only [boardB, Bool.and_eq_true] at hv; exact hv.1)
      obtain ⟨H, rfl⟩ := Int.eq_ofNat_of_zero_le (show 0 ≤ h by omega)
      have hv2 := boardB_comm hv
      have HC := Lib.hid (bdC_yes hv)
      have HC2 := Lib.hid (bdC_yes hv2)
      have HF1 := Lib.hid (featB_yes hv)
      have HF2 := Lib.hid (featB_yes hv2)
      have HV := Lib.hid hv
      have hk1 : k1 = 16 := by rw [HF1.out] at hl1; exact hl1.symm
      subst hk1
      rw [HC.out]
      have m0 : 0 < m := by omega
      have q0 : 0 < q := by omega
      clear hv hv2 hl1 h1
      have V3d := Lib.hid (show w3.drew.rowIs bv 30 4 (vr4 (.int .i64 (P : Int)) (.int .i64 c) (.int .i64 (H : Int)) (.int .i64 s)) from V3.out)
      have R3d := Lib.hid (show w3.drew.rowIs (bv + 1) 32 2 (pr (.slice A m d) (.slice B q f)) from R3.out)
      have IAd := Lib.hid (show Ints w3.drew w3.drew.heap.size .i64 A m ys from IA)
      have IBd := Lib.hid (show Ints w3.drew w3.drew.heap.size .i64 B q zs from IB)
      have IXd := Lib.hid (show Ints w3.drew w3.drew.heap.size .i64 a1 16 _ from IX)
      have HBd := Lib.hid (show Below w.heap.size w w3.drew from below_drewN HB 1)
      clear IA IB IX HB
      obtain ⟨v0, v1, v2, v3⟩ := vr4_cells V3.out
      obtain ⟨b0, b1⟩ := pr_cells R3.out
      go_wp2_with fail
      go_region_held3 (fun w' => w'.cell? ⟨bv, 0, none⟩ = some (.int .i64 (P : Int)) ∧ w'.cell? ⟨bv, 1, none⟩ = some (.int .i64 c) ∧ w'.cell? ⟨bv, 2, none⟩ = some (.int .i64 (H : Int)) ∧ w'.cell? ⟨bv, 3, none⟩ = some (.int .i64 s) ∧ w'.cell? ⟨bv + 1, 0, none⟩ = some (.slice A m d) ∧ w'.cell? ⟨bv + 1, 1, none⟩ = some (.slice B q f))
        (first | go_keep)
        (first
          | (go_at_call 31; (with_reducible refine (impl_SwapBoard_any P c H s A m d ys B q f zs w3.drew IAd.out IBd.out HV.out m0 q0 (by omega) (by omega)).mono ?_); rintro e w4 ⟨A4, c4, B4, d4, rfl, hA4, hB4, hb⟩; have V4 := Lib.hid (rowIs_below V3d.out hb V3d.out.lt); have R4 := Lib.hid (rowIs_below R3d.out hb R3d.out.lt); have IA4 := Lib.hid (IAd.out.bb hb); have IB4 := Lib.hid (IBd.out.bb hb); have IX4 := Lib.hid (IXd.out.bb hb); have HB4 := Lib.hid (HBd.out.trans (hb.mono HBd.out.size)); have HA4 := Lib.hid hA4.1; have HBB4 := Lib.hid hB4.1; obtain ⟨y0, y1, y2, y3⟩ := vr4_cells V4.out; obtain ⟨g0, g1⟩ := pr_cells R4.out; clear hb hA4 hB4)
          | (go_at_call 29; (with_reducible refine (impl_FeaturesOf_any P c H s A4 q c4 zs B4 m d4 ys _ w4 HA4.out HBB4.out (Nat.le_refl _) (by omega) (by omega)).mono ?_); rintro e w5 ⟨a5, k5, c5, rfl, hl5, hr5, hb⟩; have V5 := Lib.hid (rowIs_below V4.out hb V4.out.lt); have R5 := Lib.hid (rowIs_below R4.out hb R4.out.lt); have IA5 := Lib.hid (IA4.out.bb hb); have IB5 := Lib.hid (IB4.out.bb hb); have IX5 := Lib.hid (IX4.out.bb hb); have HB5 := Lib.hid (HB4.out.trans (hb.mono HB4.out.size)); have IY5 := Lib.hid (hr5.ints hl5); have HL5 := Lib.hid hl5; obtain ⟨x0, x1, x2, x3⟩ := vr4_cells V5.out; obtain ⟨u0, u1⟩ := pr_cells R5.out; clear hb hr5 hl5))
      all_goals
        rw [HC2.out]
        have hk5 : k5 = 16 := by have e := HL5.out; rw [HF2.out] at e; exact e.symm
        subst hk5
        have HSW := Lib.hid (fun (i : Nat) (hi : i < 14) (h2 : i % 2 = 0) => show (featB P c H s m ys q zs).getD i 0 = (featB P c H s q zs m ys).getD (i + 1) 0 ∧ (featB P c H s m ys q zs).getD (i + 1) 0 = (featB P c H s q zs m ys).getD i 0 by
          rw [HF1.out, HF2.out]
          exact featL_swap _ _ _ _ _ _ i hi h2)
        have HX15 := Lib.hid (show (featB P c H s m ys q zs).getD 15 0 = if contB P m ys q zs then 1 else 0 by rw [HF1.out]; rfl)
        have HY15 := Lib.hid (show (featB P c H s q zs m ys).getD 15 0 = if contB P m ys q zs then 1 else 0 by rw [HF2.out, ← contB_comm]; rfl)
        obtain ⟨X, hXX⟩ : ∃ X, featB P c H s m ys q zs = X := ⟨_, rfl⟩
        obtain ⟨Y, hYY⟩ : ∃ Y, featB P c H s q zs m ys = Y := ⟨_, rfl⟩
        rw [hXX] at HSW HX15 IX5
        rw [hYY] at HSW HY15 IY5
        clear hXX hYY HL5 HF1 HF2 HC2
        obtain ⟨ax, ox, rfl, hax, hcx⟩ := IX5.out.2 (by omega)
        obtain ⟨ay, oy, rfl, hay, hcy⟩ := IY5.out.2 (by omega)
        have CX := Lib.hid hcx
        have CY := Lib.hid hcy
        have HB6 := Lib.hid HB5.out
        clear hcx hcy x0 x1 x2 x3 u0 u1
        go_wp2_with fail
        go_loopw [9] (fun i wr => ∃ k : Nat, k ≤ 14 ∧ k % 2 = 0 ∧ i = .int .i64 k ∧ Below w5.heap.size w5 wr) (fun i _ => 14 - (intOf i).toNat)
        case atStart => exact ⟨0, by omega, rfl, rfl, Below.refl _ _⟩
        case round =>
          obtain ⟨k, hk, hk2, rfl, hbel⟩ := hrel
          by_cases hlt : k < 14
          · obtain ⟨e1, e2⟩ := HSW.out k hlt hk2
            have c1 := (hbel.cell (p := ⟨ax, ox + k, none⟩) hax).trans (CX.out k (by omega))
            have c2 := (hbel.cell (p := ⟨ax, ox + (k + 1), none⟩) hax).trans (CX.out (k + 1) (by omega))
            have c3 := (hbel.cell (p := ⟨ay, oy + k, none⟩) hay).trans (CY.out k (by omega))
            have c4 := (hbel.cell (p := ⟨ay, oy + (k + 1), none⟩) hay).trans (CY.out (k + 1) (by omega))
            obtain ⟨u, hu⟩ : ∃ u, X.getD k 0 = u := ⟨_, rfl⟩
            obtain ⟨t, ht⟩ : ∃ t, X.getD (k + 1) 0 = t := ⟨_, rfl⟩
            rw [← e1, hu] at c4
            rw [← e2, ht] at c3
            rw [hu] at c1
            rw [ht] at c2
            have huu : (u != u) = false := by simp
            have htt : (t != t) = false := by simp
            have i1 : (k : Int) + 1 < 16 := by omega
            have i2 : (0 : Int) ≤ (k : Int) + 1 := by omega
            have i3 : (k : Int) < 16 := by omega
            clear e1 e2 hu ht
            go_wp2_with fail
            go_quiet (fail)
            go_wp2_with fail
            go_roundw
            case rel => exact ⟨k + 2, by omega, by omega, by go_num, below_drewN hbel _⟩
            case measure => simp [intOf]; omega
          · obtain rfl : k = 14 := by omega
            have c1 := (hbel.cell (p := ⟨ax, ox + 15, none⟩) hax).trans (CX.out 15 (by omega))
            have c2 := (hbel.cell (p := ⟨ay, oy + 15, none⟩) hay).trans (CY.out 15 (by omega))
            have V6 := Lib.hid (show wr.drew.rowIs bv 30 4 (vr4 (.int .i64 (P : Int)) (.int .i64 c) (.int .i64 (H : Int)) (.int .i64 s)) from (by have qq := rowIs_below V5.out hbel V5.out.lt; exact qq))
            have R6 := Lib.hid (show wr.drew.rowIs (bv + 1) 32 2 (pr (.slice A m d) (.slice B q f)) from (by have qq := rowIs_below R5.out hbel R5.out.lt; exact qq))
            have IA6 := Lib.hid (show Ints wr.drew wr.drew.heap.size .i64 A m ys from (by have qq := IA5.out.bb hbel; exact qq))
            have IB6 := Lib.hid (show Ints wr.drew wr.drew.heap.size .i64 B q zs from (by have qq := IB5.out.bb hbel; exact qq))
            have B6 := Lib.hid (show Below w.heap.size w wr.drew from below_drewN (HB6.out.trans (hbel.mono HB6.out.size)) 1)
            have zax : ax < wr.drew.heap.size := Nat.lt_of_lt_of_le hax hbel.size
            have zay : ay < wr.drew.heap.size := Nat.lt_of_lt_of_le hay hbel.size
            rw [HX15.out] at c1
            rw [HY15.out] at c2
            have IC := Lib.hid (impl_IsContact_any P c H s A m d ys B q f zs _ wr.drew IA6.out IB6.out (Nat.le_refl _) (by omega) (by omega))
            rw [HV.out, Int.toNat_natCast] at IC
            obtain ⟨K, hK⟩ : ∃ K, contB P m ys q zs = K := ⟨_, rfl⟩
            rw [hK] at c1 c2 IC
            obtain ⟨v0, v1, v2, v3⟩ := vr4_cells V6.out
            obtain ⟨b0, b1⟩ := pr_cells R6.out
            obtain ⟨v0', v1', v2', v3'⟩ := vr4_cells (rowIs_below V5.out hbel V5.out.lt)
            obtain ⟨b0', b1'⟩ := pr_cells (rowIs_below R5.out hbel R5.out.lt)
            clear hK
            cases K
            · simp only [if_false, Bool.and_false, Bool.false_eq_true] at c1 c2 IC
              go_wp2_with fail
              go_region_held3 (fun w' => w'.cell? ⟨ax, ox + 15, none⟩ = some (.int .i64 0) ∧ w'.cell? ⟨ay, oy + 15, none⟩ = some (.int .i64 0) ∧ w'.cell? ⟨bv, 0, none⟩ = some (.int .i64 (P : Int)) ∧ w'.cell? ⟨bv, 1, none⟩ = some (.int .i64 c) ∧ w'.cell? ⟨bv, 2, none⟩ = some (.int .i64 (H : Int)) ∧ w'.cell? ⟨bv, 3, none⟩ = some (.int .i64 s) ∧ w'.cell? ⟨bv + 1, 0, none⟩ = some (.slice A m d) ∧ w'.cell? ⟨bv + 1, 1, none⟩ = some (.slice B q f))
                (first | go_keep)
                (first
                  | (go_at_call 32; (with_reducible refine IC.out.mono ?_); rintro e w7 ⟨rfl, hb⟩; have B7 := Lib.hid (B6.out.trans (hb.mono B6.out.size)); have d1 := (hb.cell (p := ⟨ax, ox + 15, none⟩) zax).trans (show wr.drew.cell? ⟨ax, ox + 15, none⟩ = _ from c1); have d2 := (hb.cell (p := ⟨ay, oy + 15, none⟩) zay).trans (show wr.drew.cell? ⟨ay, oy + 15, none⟩ = _ from c2); obtain ⟨y0, y1, y2, y3⟩ := vr4_cells (rowIs_below V6.out hb V6.out.lt); obtain ⟨g0, g1⟩ := pr_cells (rowIs_below R6.out hb R6.out.lt); clear hb))
              all_goals
                go_wp2_with fail
                go_ret
                exact ⟨rfl, B7.out⟩
            · simp only [if_true, Bool.and_true] at c1 c2 IC
              go_wp2_with fail
              go_region_held3 (fun w' => w'.cell? ⟨ax, ox + 15, none⟩ = some (.int .i64 1) ∧ w'.cell? ⟨ay, oy + 15, none⟩ = some (.int .i64 1) ∧ w'.cell? ⟨bv, 0, none⟩ = some (.int .i64 (P : Int)) ∧ w'.cell? ⟨bv, 1, none⟩ = some (.int .i64 c) ∧ w'.cell? ⟨bv, 2, none⟩ = some (.int .i64 (H : Int)) ∧ w'.cell? ⟨bv, 3, none⟩ = some (.int .i64 s) ∧ w'.cell? ⟨bv + 1, 0, none⟩ = some (.slice A m d) ∧ w'.cell? ⟨bv + 1, 1, none⟩ = some (.slice B q f))
                (first | go_keep)
                (first
                  | (go_at_call 32; (with_reducible refine IC.out.mono ?_); rintro e w7 ⟨rfl, hb⟩; have B7 := Lib.hid (B6.out.trans (hb.mono B6.out.size)); have d1 := (hb.cell (p := ⟨ax, ox + 15, none⟩) zax).trans (show wr.drew.cell? ⟨ax, ox + 15, none⟩ = _ from c1); have d2 := (hb.cell (p := ⟨ay, oy + 15, none⟩) zay).trans (show wr.drew.cell? ⟨ay, oy + 15, none⟩ = _ from c2); obtain ⟨y0, y1, y2, y3⟩ := vr4_cells (rowIs_below V6.out hb V6.out.lt); obtain ⟨g0, g1⟩ := pr_cells (rowIs_below R6.out hb R6.out.lt); clear hb))
              all_goals
                go_wp2_with fail
                go_ret
                exact ⟨rfl, B7.out⟩
namespace fnFeatures
set_option linter.unusedVariables false
set_option maxRecDepth 100000 in
theorem lifted (os : Os) (started : os.Started) (H : Type) (enc : TypeId × Value → H) :
    ReturnsInHanded {} Try.checked os 6 .any (Rows.fnFeaturesSpec.pre6 enc Try.prog Try.f6 Rows.fnFeaturesRow.domain false) (Rows.fnFeaturesSpec.post enc Try.prog Try.f6 false true false false) := by
  refine returnsInHanded_of_change (C := Try.checked) own started (by kernel_rfl) Try.func6
    (ChangeSpec.witness6 (enc := enc) (C := Try.checked) false ⟨#[], #[.slice none 0 0], []⟩ 8 (by kernel_rfl) (by kernel_rfl) (by kernel_rfl) (by kernel_rfl)) ?_
  intro W base args ds gs before hval0 hW hcnd _
  have hval : ∀ (j : Nat) t v, Try.f6.params[j]? = some t → args[j]? = some v → Value.okWide Try.prog W .any base t v := hval0
  have hW' := hW
  obtain ⟨p, q, hA0, hV, rfl, hfz, hnd⟩ := hW
  have hA : DataW.TrodAll enc Try.prog W 0 (fun _ => true) true Try.f6.params.toList args.toList ds p := hA0
  rw [Try.params6] at hA hval
  obtain ⟨v0, vs0, d0, ds0, p0, q0, hargs, rfl, rfl, h0, r0⟩ := trodAll_cons hA
  obtain ⟨rfl, rfl, rfl⟩ := trodAll_nil r0
  obtain rfl : args = #[v0] := by cases args; simp_all
  obtain ⟨rfl, rfl⟩ := trodVars_none hV
  obtain ⟨ax0, nx0, cx0, x0, rfl, wx0⟩ := open_ints_arg Try.underlying41 Try.underlying5 (by kernel_rfl) (hval 0 41 v0 rfl rfl) h0
  clear hA0 hval0
  refine (walk_FnFeatures W ax0 nx0 cx0 x0 wx0).mono fun e W' ⟨he, bel⟩ => ?_
  subst he
  exact ⟨_, rfl, _, _, _, [], _, [], hW', trodAll_mk1 (shut_bool Try.underlying4 _), (trodAll_cons_mk (Below.trod laidOut (by kernel_rfl) (of_decide_eq_true (by kernel_rfl)) h0 bel (lt_of_trod h0)) trodAll_mk0), rfl, bel.frame _, fun h => by cases h⟩

theorem over : Rows.fnFeaturesRow.holds Try.pinned (OpenSpec.ofChange Rows.fnFeaturesSpec) :=
  OpenClaim.holds_of_wide 6 Try.f6 rfl rfl rfl rfl rfl rfl rfl ⟨rfl, rfl, rfl, rfl, rfl⟩ rfl rfl rfl rfl rfl (by kernel_rfl) Try.func6 (by kernel_rfl)
    (of_decide_eq_true (by kernel_rfl)) (by unfold Func.isWrapper; first | (rw [if_pos (by decide +kernel)]; kernel_rfl) | (rw [if_neg (by decide +kernel)]; exact ⟨rfl, rfl⟩))
    (fun os started H enc _ => lifted os started H enc)
theorem proved : Rows.FnFeaturesSaid := over
#print axioms proved
end fnFeatures
end Go.Proofs.Ytoolggmomlmnbaa
