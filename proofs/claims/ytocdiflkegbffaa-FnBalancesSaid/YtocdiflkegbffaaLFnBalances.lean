/-
  FnBalances returns true for every code: balances add up to 0, and each is the sum of the totals against all others. No condition.
-/
import Derived.Test.YtocdiflkegbffaaDrB
import Derived.Test.YtocdiflkegbffaaBalP
namespace Go.Proofs.Ytocdiflkegbffaa
open Go.ChangeShapes Go.WideShapes Go.ChangeAt Go.RowKit
set_option linter.unusedVariables false

set_option maxRecDepth 16000 in
set_option maxHeartbeats 3200000 in
theorem walk_FnBalances (w : World) (ax0 : Option Addr) (nx0 cx0 : Nat) (x0 : List Int) (wx0 : IntsArg w .u8 ax0 nx0 x0) :
    Calls Try.prog 5 #[.slice ax0 nx0 cx0] w fun e w' => e = .returned (.bool true) ∧ Below w.heap.size w w' := by
  by_cases hbig : 4096 < (nx0 : Int)
  · have hd : decide (4096 < (nx0 : Int)) = true := decide_eq_true hbig
    go_enter Try.func5, Try.ntmps5
    go_wp2_with fail
    refine (big_any _ _ _ _).mono ?_
    rw [hd]
    rintro e w1 ⟨rfl, rfl⟩
    go_wp2_with fail
    go_ret
    exact ⟨rfl, Below.refl _ _⟩
  · have hd : decide (4096 < (nx0 : Int)) = false := decide_eq_false hbig
    have DR := Lib.hid (DrawBalancesOf_any ax0 nx0 cx0 x0 w wx0 (by omega))
    clear wx0 hbig
    go_enter Try.func5, Try.ntmps5
    go_wp2_with fail
    refine (big_any _ _ _ _).mono ?_
    rw [hd]
    rintro e w1 ⟨rfl, rfl⟩
    go_wp2_with fail
    refine DR.out.mono ?_
    rintro e w1 ⟨p, A, m, d, ys, rfl, hm, hI, HB⟩
    go_wp2_with fail
    refine (impl_BalancesOf_any p A m d ys w1 hI (by omega)).mono ?_
    rintro e w2 ⟨a1, k, c1, rfl, hl, hg, hb⟩
    replace hI := (hI.below hb).more hb.size
    replace HB := HB.trans (hb.mono HB.size)
    clear hb DR hd
    go_wp2_with fail
    refine (spec_IsSession_any p A m d ys w2 hI (by omega)).mono ?_
    rintro e w3 ⟨rfl, hb⟩
    replace hI := (hI.below hb).more hb.size
    replace hg := hg.below hb
    replace HB := HB.trans (hb.mono HB.size)
    clear hb
    cases hs : sesB p m ys
    · have hk : k = 0 := by rw [balL_s hs] at hl; simpa using hl.symm
      subst hk
      have HC := Lib.hid (sesC_s hs)
      have HS := Lib.hid hs
      rw [HC.out]
      clear hl hs
      go_wp2_with fail
      refine (impl_IsSession_any p A m d ys w3 hI (by omega)).mono ?_
      rw [HS.out]
      rintro e w4 ⟨rfl, hb⟩
      replace HB := HB.trans (hb.mono HB.size)
      clear hb
      go_wp2_with fail
      go_ret
      exact ⟨rfl, HB⟩
    · obtain ⟨⟨p1, p2⟩, hn60, hall0⟩ := sesB_out hs
      have hall := Lib.hid (fun i (hi : i < m) => allR_at hall0 i hi)
      have HC := Lib.hid (sesC_y hs)
      have HS := Lib.hid hs
      have HL := Lib.hid (balL_y hs)
      obtain ⟨q, rfl⟩ := Int.eq_ofNat_of_zero_le (show 0 ≤ p by omega)
      have hkq : k = q := by rw [HL.out] at hl; simpa using hl.symm
      subst hkq
      rw [HC.out]
      obtain ⟨gl, rfl, _, _, hgl, _⟩ := hg.blk (by omega)
      have HG := Lib.hid (fun i (hi : i < k) => (row_cells hg hi).1)
      have HI := Lib.hid hI
      have hkk : ((k : Int) != k) = false := by simp
      have HF := Lib.hid (fun (W : World) (hb : Below w3.heap.size w3 W) => (hI.below hb).more hb.size)
      clear hl hs hall0 hg hI
      go_wp2_with fail
      go_loopw [7, 8] (fun s a wr => ∃ i : Nat, i ≤ k ∧ a = .int .i64 i ∧ s = .int .i64 (sumN (balK ys m) i) ∧ Below w3.heap.size w3 wr) (fun _ a _ => k - (intOf a).toNat)
      case atStart => exact ⟨0, Nat.zero_le _, rfl, rfl, Below.refl _ _⟩
      case round =>
        obtain ⟨i, hi, rfl, rfl, hbel⟩ := hrel
        obtain ⟨wo, hwo⟩ : ∃ wo : World, wo = wr := ⟨_, rfl⟩
        subst hwo
        by_cases hlt : i < k
        · have hc := (hbel.cell (p := ⟨gl, i, none⟩) hgl).trans (HG.out i hlt)
          rw [HL.out, bal_cell _ _ hlt] at hc
          obtain ⟨S, hS⟩ : ∃ S, sumN (balK ys m) i = S := ⟨_, rfl⟩
          obtain ⟨b, hb⟩ : ∃ b, balK ys m i = b := ⟨_, rfl⟩
          have HS1 := Lib.hid (show sumN (balK ys m) (i + 1) = S + b by rw [sumN_succ, hS, hb])
          have bS := sumN_bd (f := balK ys m) (M := 61000000) (p := i) (fun j => by have := balK_bd j m hall.out; omega)
          have bb := balK_bd i m hall.out
          rw [hS] at bS
          rw [hb] at bb hc
          obtain ⟨bS1, bS2⟩ := bS
          obtain ⟨bb1, bb2⟩ := bb
          have HPR := Lib.hid ((bal_pairs (a := i) m hall.out).trans hb)
          have s1 : -1000000000 ≤ S := by omega
          have s2 : S ≤ 1000000000 := by omega
          have b1 : -61000000 ≤ b := by omega
          have b2 : b ≤ 61000000 := by omega
          rw [hS]
          clear hS hb bS1 bS2 bb1 bb2
          go_wp2_with fail
          go_loopw [9, 10] (fun t b wr => ∃ j : Nat, j ≤ k ∧ b = .int .i64 j ∧ t = .int .i64 (sumX i (fun b => ptK i b ys m) j) ∧ Below w3.heap.size w3 wr) (fun _ b _ => k - (intOf b).toNat)
          case atStart => exact ⟨0, Nat.zero_le _, rfl, rfl, hbel⟩
          case round =>
            obtain ⟨j, hj, rfl, rfl, hbel2⟩ := hrel
            obtain ⟨T, hT⟩ : ∃ T, sumX i (fun b => ptK i b ys m) j = T := ⟨_, rfl⟩
            have bT := sumX_bd (a := i) (f := fun b => ptK i b ys m) (M := 61000000) (by omega) (p := j) (fun b => by have := ptK_bd (i : Int) (b : Int) m hall.out; omega)
            rw [hT] at bT
            obtain ⟨bT1, bT2⟩ := bT
            have t1 : -1000000000 ≤ T := by omega
            have t2 : T ≤ 1000000000 := by omega
            have HT := Lib.hid hT
            rw [hT]
            clear hT bT1 bT2
            by_cases hjk : j < k
            · by_cases hij : i = j
              · subst hij
                have HT1 := Lib.hid (show sumX i (fun b => ptK i b ys m) (i + 1) = T by rw [sumX_succ, HT.out, if_pos rfl]; omega)
                go_wp2_with fail
                go_roundw
                case rel => exact ⟨i + 1, by omega, by go_num, by rw [HT1.out], hbel2⟩
                case measure => simp [intOf]; omega
              · have hne : ((i : Int) != (j : Int)) = true := by rw [bne_iff_ne]; omega
                obtain ⟨P, hP⟩ : ∃ P, ptK i j ys m = P := ⟨_, rfl⟩
                have bP := ptK_bd (i : Int) (j : Int) m hall.out
                rw [hP] at bP
                obtain ⟨bP1, bP2⟩ := bP
                have q1 : -61000000 ≤ P := by omega
                have q2 : P ≤ 61000000 := by omega
                have HT1 := Lib.hid (show sumX i (fun b => ptK i b ys m) (j + 1) = T + P by rw [sumX_succ, HT.out, if_neg hij, hP])
                have hab : abB (k : Int) (i : Int) (j : Int) = true := by
                  simp only [abB, Bool.and_eq_true]
                  refine ⟨⟨wB_true.2 (by omega), wB_true.2 (by omega)⟩, ?_⟩
                  simp; omega
                have HV := Lib.hid ((ptVal_y HS.out hab).trans hP)
                have HVC := Lib.hid (ptCode_y HS.out hab)
                clear hP bP1 bP2 hab
                go_wp2_with fail
                refine (impl_PairTotal_any _ _ _ _ _ _ _ _ (HF.out _ hbel2) (by omega)).mono ?_
                rw [HV.out, HVC.out]
                rintro e w5 ⟨rfl, hb⟩
                have hbel3 := hbel2.trans (hb.mono hbel2.size)
                clear hb
                go_wp2_with fail
                go_roundw
                case rel => exact ⟨j + 1, by omega, by go_num, by rw [HT1.out], hbel3⟩
                case measure => simp [intOf]; omega
            · obtain rfl : j = k := by omega
              have hTb : T = b := HT.out.symm.trans HPR.out
              subst hTb
              have hc2 := (hbel2.cell (p := ⟨gl, i, none⟩) hgl).trans ((hbel.cell (p := ⟨gl, i, none⟩) hgl).symm.trans hc)
              have hTT : (T != T) = false := by simp
              go_wp2_with fail
              go_roundw
              case rel => exact ⟨i + 1, by omega, by go_num, by rw [HS1.out], hbel2⟩
              case measure => simp [intOf]; omega
        · obtain rfl : i = k := by omega
          have h0 : sumN (balK ys m) i = 0 := bal_sum m hall.out
          rw [h0]
          clear h0
          go_wp2_with fail
          refine (impl_IsSession_any _ _ _ _ _ _ (HF.out _ hbel) (by omega)).mono ?_
          rw [HS.out]
          rintro e w5 ⟨rfl, hb⟩
          have hbel3 := hbel.trans (hb.mono hbel.size)
          clear hb
          go_wp2_with fail
          go_ret
          exact ⟨rfl, HB.trans (hbel3.mono HB.size)⟩
namespace fnBalances
set_option linter.unusedVariables false
set_option maxRecDepth 100000 in
theorem lifted (os : Os) (started : os.Started) (H : Type) (enc : TypeId × Value → H) :
    ReturnsInHanded {} Try.checked os 5 .any (Rows.fnBalancesSpec.pre6 enc Try.prog Try.f5 Rows.fnBalancesRow.domain false) (Rows.fnBalancesSpec.post enc Try.prog Try.f5 false true false false) := by
  refine returnsInHanded_of_change (C := Try.checked) own started (by kernel_rfl) Try.func5
    (ChangeSpec.witness6 (enc := enc) (C := Try.checked) false ⟨#[], #[.slice none 0 0], []⟩ 8 (by kernel_rfl) (by kernel_rfl) (by kernel_rfl) (by kernel_rfl)) ?_
  intro W base args ds gs before hval0 hW hcnd _
  have hval : ∀ (j : Nat) t v, Try.f5.params[j]? = some t → args[j]? = some v → Value.okWide Try.prog W .any base t v := hval0
  have hW' := hW
  obtain ⟨p, q, hA0, hV, rfl, hfz, hnd⟩ := hW
  have hA : DataW.TrodAll enc Try.prog W 0 (fun _ => true) true Try.f5.params.toList args.toList ds p := hA0
  rw [Try.params5] at hA hval
  obtain ⟨v0, vs0, d0, ds0, p0, q0, hargs, rfl, rfl, h0, r0⟩ := trodAll_cons hA
  obtain ⟨rfl, rfl, rfl⟩ := trodAll_nil r0
  obtain rfl : args = #[v0] := by cases args; simp_all
  obtain ⟨rfl, rfl⟩ := trodVars_none hV
  obtain ⟨ax0, nx0, cx0, x0, rfl, wx0⟩ := open_ints_arg Try.underlying32 Try.underlying5 (by kernel_rfl) (hval 0 32 v0 rfl rfl) h0
  clear hA0 hval0
  refine (walk_FnBalances W ax0 nx0 cx0 x0 wx0).mono fun e W' ⟨he, bel⟩ => ?_
  subst he
  exact ⟨_, rfl, _, _, _, [], _, [], hW', trodAll_mk1 (shut_bool Try.underlying4 _), (trodAll_cons_mk (Below.trod laidOut (by kernel_rfl) (of_decide_eq_true (by kernel_rfl)) h0 bel (lt_of_trod h0)) trodAll_mk0), rfl, bel.frame _, fun h => by cases h⟩

theorem over : Rows.fnBalancesRow.holds Try.pinned (OpenSpec.ofChange Rows.fnBalancesSpec) :=
  OpenClaim.holds_of_wide 5 Try.f5 rfl rfl rfl rfl rfl rfl rfl ⟨rfl, rfl, rfl, rfl, rfl⟩ rfl rfl rfl rfl rfl (by kernel_rfl) Try.func5 (by kernel_rfl)
    (of_decide_eq_true (by kernel_rfl)) (by unfold Func.isWrapper; first | (rw [if_pos (by decide +kernel)]; kernel_rfl) | (rw [if_neg (by decide +kernel)]; exact ⟨rfl, rfl⟩))
    (fun os started H enc _ => lifted os started H enc)
theorem proved : Rows.FnBalancesSaid := over
#print axioms proved
end fnBalances
end Go.Proofs.Ytocdiflkegbffaa
