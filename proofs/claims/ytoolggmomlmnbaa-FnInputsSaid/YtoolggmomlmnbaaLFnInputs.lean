/-
  FnInputs returns true for every code: the inputs are the features over their limits, and every feature has a name. No condition.
-/
import Derived.Test.YtoolggmomlmnbaaFeatH
import Derived.Test.YtoolggmomlmnbaaFname
import Derived.Test.YtoolggmomlmnbaaDrX
import Derived.Deep.QuietTactic
import Derived.Deep.RegionWith
import Derived.Deep.RegionHeld3
import Derived.BigQuiet
namespace Go.Proofs.Ytoolggmomlmnbaa
open Go.ChangeShapes Go.WideShapes Go.ChangeAt Go.RowKit Go.Joins Go.Deep
set_option linter.unusedVariables false

theorem Ints.bb {w w' : World} {k : IntKind} {a : Option Addr} {n : Nat} {xs : List Int} (h : Ints w w.heap.size k a n xs) (hb : Below w.heap.size w w') : Ints w' w'.heap.size k a n xs := (h.below hb).more hb.size

set_option maxRecDepth 16000 in
set_option maxHeartbeats 3200000 in
theorem walk_FnInputs (w : World) (ax0 : Option Addr) (nx0 cx0 : Nat) (x0 : List Int) (wx0 : IntsArg w .u8 ax0 nx0 x0) :
    Calls Try.prog 7 #[.slice ax0 nx0 cx0] w fun e w' => e = .returned (.bool true) ∧ Below w.heap.size w w' := by
  by_cases hbig : 4096 < (nx0 : Int)
  · have hd : decide (4096 < (nx0 : Int)) = true := decide_eq_true hbig
    go_enter Try.func7, Try.ntmps7
    go_wp2_with fail
    refine (big_any _ _ _ _).mono ?_
    rw [hd]
    rintro e w1 ⟨rfl, rfl⟩
    go_wp2_with fail
    go_ret
    exact ⟨rfl, Below.refl _ _⟩
  · have hd : decide (4096 < (nx0 : Int)) = false := decide_eq_false hbig
    have DR := Lib.hid (DrawInputsOf_any ax0 nx0 cx0 x0 w wx0 (by omega))
    clear wx0 hbig
    go_enter Try.func7, Try.ntmps7
    go_wp2_with fail
    refine (big_any _ _ _ _).mono ?_
    rw [hd]
    rintro e w1 ⟨rfl, rfl⟩
    go_wp2_with fail
    refine DR.out.mono ?_
    rintro e w1 ⟨p, c, h, s, A, m, d, ys, B, q, f, zs, rfl, hm, hq, hA, hB, hb⟩
    have hb0 := ((Below.refl w1.heap.size w1).alloc (Nat.le_refl _) (.cells #[.int .i64 p, .int .i64 c, .int .i64 h, .int .i64 s] 30)).alloc (by simp) (.cells #[.slice A m d, .slice B q f] 32)
    have V1 := Lib.hid ((vr4_new w1 (.int .i64 p) (.int .i64 c) (.int .i64 h) (.int .i64 s) 30).alloc (.cells #[.slice A m d, .slice B q f] 32))
    have R1 := Lib.hid (pr_new (w1.alloc (.cells #[.int .i64 p, .int .i64 c, .int .i64 h, .int .i64 s] 30)) (.slice A m d) (.slice B q f) 32)
    rw [World.size_alloc] at R1
    obtain ⟨W1, hW1⟩ : ∃ W, (w1.alloc (.cells #[.int .i64 p, .int .i64 c, .int .i64 h, .int .i64 s] 30)).alloc (.cells #[.slice A m d, .slice B q f] 32) = W := ⟨_, rfl⟩
    rw [hW1] at hb0 V1 R1
    have IA := hA.bb hb0
    have IB := hB.bb hb0
    have HB := hb.trans (hb0.mono hb.size)
    obtain ⟨bv, hbv⟩ : ∃ b, w1.heap.size = b := ⟨_, rfl⟩
    rw [hbv] at V1 R1
    have HW1 := Lib.hid hW1
    have HBV := Lib.hid hbv
    clear hA hB hb hb0 hW1 hbv hd DR
    obtain ⟨v0, v1, v2, v3⟩ := vr4_cells V1.out
    obtain ⟨b0, b1⟩ := pr_cells R1.out
    have IM := Lib.hid (impl_InputsOf_any p c h s A m d ys B q f zs _ W1 IA IB (Nat.le_refl _) (by omega) (by omega))
    go_wp2_with fail
    rw [HW1.out]
    simp only [HBV.out]
    clear HW1 HBV
    go_wp2_with fail
    cases hv : boardB p c h s m ys q zs
    · rw [inpB_no hv, bdC_no hv] at IM
      refine IM.out.mono ?_
      rintro e w2 ⟨a2, k2, c2, rfl, hl2, _, hb⟩
      obtain rfl : k2 = 0 := by simpa using hl2.symm
      have V2 := Lib.hid (rowIs_below V1.out hb V1.out.lt)
      have R2 := Lib.hid (rowIs_below R1.out hb R1.out.lt)
      replace IA := IA.bb hb
      replace IB := IB.bb hb
      replace HB := HB.trans (hb.mono HB.size)
      clear hb v0 v1 v2 v3 b0 b1 V1 R1 hl2
      obtain ⟨v0, v1, v2, v3⟩ := vr4_cells V2.out
      obtain ⟨b0, b1⟩ := pr_cells R2.out
      have IS := Lib.hid (spec_IsBoard_any p c h s A m d ys B q f zs _ w2 IA IB (Nat.le_refl _) (by omega) (by omega))
      rw [hv] at IS
      clear hv
      go_wp2_with fail
      refine IS.out.mono ?_
      rintro e w3 ⟨rfl, hb⟩
      replace HB := HB.trans (hb.mono HB.size)
      clear hb v0 v1 v2 v3 b0 b1 V2 R2
      go_wp2_with fail
      go_ret
      exact ⟨rfl, HB⟩
    · obtain ⟨P, rfl, ⟨m1, m2⟩, ⟨q1, q2⟩, m25, q25, _, _⟩ := boardB_out hv
      have hvr := boardB_vr hv
      obtain ⟨⟨p1, p2⟩, ⟨qq1, qq2⟩, ⟨h1, _⟩, _⟩ := vrB_true.1 hvr
      obtain ⟨H, rfl⟩ := Int.eq_ofNat_of_zero_le (show 0 ≤ h by omega)
      rw [inpB_yes hv, bdC_yes hv] at IM
      have HF := Lib.hid (featB_yes hv)
      have HC := Lib.hid (bdC_yes hv)
      have HV := Lib.hid hv
      have HBD := Lib.hid (featV_bd hv)
      have HLB := Lib.hid (fun i => lim_bd (P := P) (c := c) (by omega) (by omega) qq1 qq2 i)
      have hlen : (featV P H c m ys q zs).length = 16 := rfl
      obtain ⟨F, hF⟩ : ∃ F, featV P H c m ys q zs = F := ⟨_, rfl⟩
      rw [hF] at HF HBD hlen IM
      have HI := Lib.hid (show (inpK P c F 16).length = 16 from inpK_len P c F 16)
      have HIA := Lib.hid (show ∀ k : Nat, k < 16 → (inpK P c F 16).getD k 0 = F.getD k 0 * 4096 / lim P c k from fun k hk => by
        rw [inpK, List.getD_eq_getElem?_getD, List.getElem?_map, List.getElem?_range hk]; rfl)
      have HFL := Lib.hid (fun (W : World) (i : Nat) (hi : i < 16) => (impl_FeatureLimit_any P c H s i W).mono (fun e w' hq => (⟨hq.1.trans (by rw [flim_y hvr (wB_true.2 (by omega))]), hq.2⟩ : e = .returned (.int .i64 (lim P c i)) ∧ Below W.heap.size W w')))
      obtain ⟨X, hX⟩ : ∃ X, inpK P c F 16 = X := ⟨_, rfl⟩
      rw [hX] at HI HIA IM
      have hHL := Lib.hid hlen
      clear hF hX hv hlen h1 hvr p1 p2 qq1 qq2
      have m0 : 0 < m := by omega
      have q0 : 0 < q := by omega
      refine IM.out.mono ?_
      rintro e w2 ⟨a2, k2, c2, rfl, hl2, hr2, hb⟩
      rw [HI.out] at hl2
      subst hl2
      have V2 := Lib.hid (rowIs_below V1.out hb V1.out.lt)
      have R2 := Lib.hid (rowIs_below R1.out hb R1.out.lt)
      replace IA := IA.bb hb
      replace IB := IB.bb hb
      replace HB := HB.trans (hb.mono HB.size)
      have IX := hr2.ints HI.out
      clear hb v0 v1 v2 v3 b0 b1 V1 R1 IM hr2
      obtain ⟨v0, v1, v2, v3⟩ := vr4_cells V2.out
      obtain ⟨b0, b1⟩ := pr_cells R2.out
      have IS := Lib.hid (spec_IsBoard_any P c H s A m d ys B q f zs _ w2 IA IB (Nat.le_refl _) (by omega) (by omega))
      rw [HV.out] at IS
      go_wp2_with fail
      refine IS.out.mono ?_
      rintro e w3 ⟨rfl, hb⟩
      have V3 := Lib.hid (rowIs_below V2.out hb V2.out.lt)
      have R3 := Lib.hid (rowIs_below R2.out hb R2.out.lt)
      replace IA := IA.bb hb
      replace IB := IB.bb hb
      replace IX := IX.bb hb
      replace HB := HB.trans (hb.mono HB.size)
      clear hb v0 v1 v2 v3 b0 b1 V2 R2 IS
      obtain ⟨v0, v1, v2, v3⟩ := vr4_cells V3.out
      obtain ⟨b0, b1⟩ := pr_cells R3.out
      have SF := Lib.hid (impl_FeaturesOf_any P c H s A m d ys B q f zs _ w3 IA IB (Nat.le_refl _) (by omega) (by omega))
      rw [HF.out, HC.out] at SF
      go_wp2_with fail
      refine SF.out.mono ?_
      rintro e w4 ⟨a4, k4, c4, rfl, hl4, hr4, hb⟩
      rw [hHL.out] at hl4
      subst hl4
      have V4 := Lib.hid (rowIs_below V3.out hb V3.out.lt)
      replace IX := IX.bb hb
      replace HB := HB.trans (hb.mono HB.size)
      have IY := hr4.ints hHL.out
      clear hb v0 v1 v2 v3 b0 b1 V3 R3 SF hr4 IA IB
      obtain ⟨ax, ox, rfl, hax, hcx⟩ := IX.2 (by omega)
      obtain ⟨ay, oy, rfl, hay, hcy⟩ := IY.2 (by omega)
      have CX := Lib.hid hcx
      have CY := Lib.hid hcy
      have HB4 := Lib.hid HB
      clear hcx hcy IX IY HB
      go_wp2_with fail
      go_loopw [9] (fun i wr => ∃ k : Nat, k ≤ 16 ∧ i = .int .i64 k ∧ Below w4.heap.size w4 wr) (fun i _ => 16 - (intOf i).toNat)
      case atStart => exact ⟨0, by omega, rfl, Below.refl _ _⟩
      case round =>
        obtain ⟨k, hk, rfl, hbel⟩ := hrel
        by_cases hlt : k < 16
        · obtain ⟨x1, x2⟩ := HBD.out k hlt
          obtain ⟨l1, l2⟩ := HLB.out (k : Int)
          have FL := Lib.hid (fun W => HFL.out W k hlt)
          have HQ := HIA.out k hlt
          have c1 := (hbel.cell (p := ⟨ax, ox + k, none⟩) hax).trans (CX.out k (by omega))
          have c2 := (hbel.cell (p := ⟨ay, oy + k, none⟩) hay).trans (CY.out k (by omega))
          obtain ⟨x, hx⟩ : ∃ x, F.getD k 0 = x := ⟨_, rfl⟩
          obtain ⟨l, hl⟩ : ∃ x, lim P c k = x := ⟨_, rfl⟩
          obtain ⟨z, hz⟩ : ∃ x, X.getD k 0 = x := ⟨_, rfl⟩
          rw [hx] at c2 x1 x2 HQ
          rw [hl] at l1 l2 x2 FL HQ
          rw [hz] at c1 HQ
          clear hx hl hz
          have x3 : x ≤ 375 := by omega
          have hm1 : IntKind.i64.wrap (x * 4096) = x * 4096 := IntWalk.i64_in _ (by omega)
          have hq2 : 0 ≤ x * 4096 / l := Int.ediv_nonneg (by omega) (by omega)
          have hq3 : x * 4096 / l ≤ 1536000 := Int.le_trans (Int.ediv_le_self _ (by omega)) (by omega)
          have hwt : IntKind.i64.wrap ((x * 4096).tdiv l) = z := by rw [Int.tdiv_eq_ediv_of_nonneg (by omega), HQ]; exact IntWalk.i64_in _ (by omega)
          have hzz : (z != z) = false := by simp
          have i0 : (0 : Int) ≤ (k : Int) := by omega
          have i1 : (k : Int) < 16 := by omega
          have l0 : (l == 0) = false := by simp; omega
          have l3 : ¬ l = 0 := by omega
          have d1 : decide (l < 1) = false := decide_eq_false (by omega)
          have d2 : decide (x < 0) = false := decide_eq_false (by omega)
          have d3 : decide (l < x) = false := decide_eq_false (by omega)
          have d4 : decide (x > l) = false := decide_eq_false (by omega)
          have NM := Lib.hid (fun W => impl_FeatureName_any (k : Int) W)
          have hnm : (fname (k : Int)).toList.isEmpty = false := by
            rw [ByteArray.toList_eq]
            obtain rfl | rfl | rfl | rfl | rfl | rfl | rfl | rfl | rfl | rfl | rfl | rfl | rfl | rfl | rfl | rfl : k = 0 ∨ k = 1 ∨ k = 2 ∨ k = 3 ∨ k = 4 ∨ k = 5 ∨ k = 6 ∨ k = 7 ∨ k = 8 ∨ k = 9 ∨ k = 10 ∨ k = 11 ∨ k = 12 ∨ k = 13 ∨ k = 14 ∨ k = 15 := by omega
            all_goals rfl
          obtain ⟨nm, hn⟩ : ∃ x, fname (k : Int) = x := ⟨_, rfl⟩
          rw [hn] at NM hnm
          have V5 := Lib.hid (rowIs_below V4.out hbel V4.out.lt)
          obtain ⟨v0, v1, v2, v3⟩ := vr4_cells V5.out
          clear hn x2 HQ
          have HBL := Lib.hid hbel
          have zax : ax < wr.heap.size := Nat.lt_of_lt_of_le hax hbel.size
          have zay : ay < wr.heap.size := Nat.lt_of_lt_of_le hay hbel.size
          clear hbel
          go_wp2_with fail
          refine (FL.out _).mono ?_
          rintro e w5 ⟨rfl, hb⟩
          have e1 := (hb.cell (p := ⟨ax, ox + k, none⟩) zax).trans c1
          have e2 := (hb.cell (p := ⟨ay, oy + k, none⟩) zay).trans c2
          have HB5 := Lib.hid (HBL.out.trans (hb.mono HBL.out.size))
          have yax : ax < w5.heap.size := Nat.lt_of_lt_of_le zax hb.size
          have yay : ay < w5.heap.size := Nat.lt_of_lt_of_le zay hb.size
          clear hb c1 c2 v0 v1 v2 v3 V5
          go_wp2_with fail
          go_region_held3 (fun w' => w'.cell? ⟨ax, ox + k, none⟩ = some (.int .i64 z) ∧ w'.cell? ⟨ay, oy + k, none⟩ = some (.int .i64 x))
            (first | go_keep)
            (first
              | (go_at_call 36; (with_reducible refine (NM.out _).mono ?_); rintro e w6 ⟨rfl, hb⟩; have B6 := Lib.hid ((below_drewN HB5.out 1).trans (hb.mono (below_drewN HB5.out 1).size)); have g1 := (hb.cell (p := ⟨ax, ox + k, none⟩) yax).trans (show w5.drew.cell? ⟨ax, ox + k, none⟩ = _ from e1); have g2 := (hb.cell (p := ⟨ay, oy + k, none⟩) yay).trans (show w5.drew.cell? ⟨ay, oy + k, none⟩ = _ from e2); clear hb))
          all_goals
            go_wp2_with fail
            go_roundw
            case rel => exact ⟨k + 1, by omega, by go_num, (by first | exact B6.out | exact below_drewN B6.out _)⟩
            case measure => simp [intOf]; omega
        · obtain rfl : k = 16 := by omega
          have HBF := Lib.hid (HB4.out.trans (hbel.mono HB4.out.size))
          go_wp2_with fail
          go_ret
          exact ⟨rfl, HBF.out⟩
namespace fnInputs
set_option linter.unusedVariables false
set_option maxRecDepth 100000 in
theorem lifted (os : Os) (started : os.Started) (H : Type) (enc : TypeId × Value → H) :
    ReturnsInHanded {} Try.checked os 7 .any (Rows.fnInputsSpec.pre6 enc Try.prog Try.f7 Rows.fnInputsRow.domain false) (Rows.fnInputsSpec.post enc Try.prog Try.f7 false true false false) := by
  refine returnsInHanded_of_change (C := Try.checked) own started (by kernel_rfl) Try.func7
    (ChangeSpec.witness6 (enc := enc) (C := Try.checked) false ⟨#[], #[.slice none 0 0], []⟩ 8 (by kernel_rfl) (by kernel_rfl) (by kernel_rfl) (by kernel_rfl)) ?_
  intro W base args ds gs before hval0 hW hcnd _
  have hval : ∀ (j : Nat) t v, Try.f7.params[j]? = some t → args[j]? = some v → Value.okWide Try.prog W .any base t v := hval0
  have hW' := hW
  obtain ⟨p, q, hA0, hV, rfl, hfz, hnd⟩ := hW
  have hA : DataW.TrodAll enc Try.prog W 0 (fun _ => true) true Try.f7.params.toList args.toList ds p := hA0
  rw [Try.params7] at hA hval
  obtain ⟨v0, vs0, d0, ds0, p0, q0, hargs, rfl, rfl, h0, r0⟩ := trodAll_cons hA
  obtain ⟨rfl, rfl, rfl⟩ := trodAll_nil r0
  obtain rfl : args = #[v0] := by cases args; simp_all
  obtain ⟨rfl, rfl⟩ := trodVars_none hV
  obtain ⟨ax0, nx0, cx0, x0, rfl, wx0⟩ := open_ints_arg Try.underlying41 Try.underlying5 (by kernel_rfl) (hval 0 41 v0 rfl rfl) h0
  clear hA0 hval0
  refine (walk_FnInputs W ax0 nx0 cx0 x0 wx0).mono fun e W' ⟨he, bel⟩ => ?_
  subst he
  exact ⟨_, rfl, _, _, _, [], _, [], hW', trodAll_mk1 (shut_bool Try.underlying4 _), (trodAll_cons_mk (Below.trod laidOut (by kernel_rfl) (of_decide_eq_true (by kernel_rfl)) h0 bel (lt_of_trod h0)) trodAll_mk0), rfl, bel.frame _, fun h => by cases h⟩

theorem over : Rows.fnInputsRow.holds Try.pinned (OpenSpec.ofChange Rows.fnInputsSpec) :=
  OpenClaim.holds_of_wide 7 Try.f7 rfl rfl rfl rfl rfl rfl rfl ⟨rfl, rfl, rfl, rfl, rfl⟩ rfl rfl rfl rfl rfl (by kernel_rfl) Try.func7 (by kernel_rfl)
    (of_decide_eq_true (by kernel_rfl)) (by unfold Func.isWrapper; first | (rw [if_pos (by decide +kernel)]; kernel_rfl) | (rw [if_neg (by decide +kernel)]; exact ⟨rfl, rfl⟩))
    (fun os started H enc _ => lifted os started H enc)
theorem proved : Rows.FnInputsSaid := over
#print axioms proved
end fnInputs
end Go.Proofs.Ytoolggmomlmnbaa
