/-
  FnSettled returns true for every code: the transfers of a settlement are positive, from debtors to creditors, fewer than the players, and leave nothing to be settled. No condition.
-/
import Derived.Test.YtocdiflkegbffaaDrB
import Derived.Test.YtocdiflkegbffaaSetW
import Derived.Deep.QuietTactic
import Derived.BigQuiet
import Derived.Deep.Upon
namespace Go.Proofs.Ytocdiflkegbffaa
open Go.ChangeShapes Go.WideShapes Go.ChangeAt Go.RowKit
set_option linter.unusedVariables false

/-- how far the transfers go: as long as something is left -/
theorem trL_cell {L : List Int} (h : okL L) {k m : Nat} (hm : (trL L).length = m * 3) (hk : k < m) : ¬ dn (lf L k) ∧ (trL L).getD (k * 3) 0 = fr (lf L k) ∧ (trL L).getD (k * 3 + 1) 0 = tt (lf L k) ∧ (trL L).getD (k * 3 + 2) 0 = am (lf L k) := by
  have hkn : k ≤ L.length := by
    obtain ⟨_, m', e, hle⟩ := tr_len L L.length
    have : (tr L L.length).length = m * 3 := hm
    omega
  have hd : ¬ dn (lf L k) := fun e => by
    have h1 := tr_done h hkn e
    have h2 := (tr_len L k).1
    rw [h1, hm] at h2
    omega
  have hlk := (lf_nz h k hd).2
  have hkn2 := lf_lt h hd
  -- what comes behind leaves the first records as they are
  have pre : ∀ j, ∃ zs, tr L (k + 1 + j) = tr L (k + 1) ++ zs := fun j => by
    induction j with
    | zero => exact ⟨[], by simp⟩
    | succ j ih =>
      obtain ⟨zs, e⟩ := ih
      rw [← Nat.add_assoc, tr_succ]
      split
      · exact ⟨zs, e⟩
      · exact ⟨zs ++ [(fr (lf L (k + 1 + j)) : Int), (tt (lf L (k + 1 + j)) : Int), am (lf L (k + 1 + j))], by rw [e, List.append_assoc]⟩
  obtain ⟨zs, e⟩ := pre (L.length - (k + 1))
  rw [show k + 1 + (L.length - (k + 1)) = L.length by omega, tr_next hd] at e
  have e' : trL L = tr L k ++ ([(fr (lf L k) : Int), (tt (lf L k) : Int), am (lf L k)] ++ zs) := by rw [trL, e, List.append_assoc]
  refine ⟨hd, ?_, ?_, ?_⟩ <;> rw [e', List.getD_eq_getElem?_getD, List.getElem?_append_right (by omega), hlk]
  · rw [show k * 3 - k * 3 = 0 by omega]; rfl
  · rw [show k * 3 + 1 - k * 3 = 1 by omega]; rfl
  · rw [show k * 3 + 2 - k * 3 = 2 by omega]; rfl
theorem end_dn {L : List Int} (h : okL L) {m : Nat} (hm : (trL L).length = m * 3) : dn (lf L m) := by
  by_cases hd : dn (lf L m)
  · exact hd
  · have h1 := lf_lt h hd
    have h2 := (lf_nz h m hd).2
    obtain ⟨m', h3, h4⟩ := trL_len h
    have h5 : ∀ j, (tr L (m + 1)).length ≤ (tr L (m + 1 + j)).length := fun j => by
      induction j with
      | zero => exact Nat.le_refl _
      | succ j ih =>
        rw [← Nat.add_assoc, tr_succ L (m + 1 + j)]
        split
        · exact ih
        · rw [List.length_append]; omega
    have h6 := h5 (L.length - (m + 1))
    rw [show m + 1 + (L.length - (m + 1)) = L.length by omega, tr_next hd, List.length_append, h2] at h6
    have h7 : (tr L L.length).length = m * 3 := hm
    simp at h6
    omega

theorem bal_zero {n : Nat} {L : List Int} (hl : L.length = n) (h8 : n ≤ 8) (hk : okL L) (hd : dn L) : balB n L = true := by
  rw [balB_yes h8 (allTo_of fun i hi => by rw [dn_zero hk hd i (by omega)]; decide)]
  unfold okL at hk
  rw [hl] at hk
  simpa using hk
set_option maxRecDepth 16000 in
set_option maxHeartbeats 3200000 in
theorem walk_FnSettled (w : World) (ax0 : Option Addr) (nx0 cx0 : Nat) (x0 : List Int) (wx0 : IntsArg w .u8 ax0 nx0 x0) :
    Calls Try.prog 9 #[.slice ax0 nx0 cx0] w fun e w' => e = .returned (.bool true) ∧ Below w.heap.size w w' := by
  by_cases hbig : 4096 < (nx0 : Int)
  · have hd : decide (4096 < (nx0 : Int)) = true := decide_eq_true hbig
    go_enter Try.func9, Try.ntmps9
    go_wp2_with fail
    refine (big_any _ _ _ _).mono ?_
    rw [hd]
    rintro e w1 ⟨rfl, rfl⟩
    go_wp2_with fail
    go_ret
    exact ⟨rfl, Below.refl _ _⟩
  · have hd : decide (4096 < (nx0 : Int)) = false := decide_eq_false hbig
    have DR := Lib.hid (DrawSettleUp_any ax0 nx0 cx0 x0 w wx0 (by omega))
    clear wx0 hbig
    go_enter Try.func9, Try.ntmps9
    go_wp2_with fail
    refine (big_any _ _ _ _).mono ?_
    rw [hd]
    rintro e w1 ⟨rfl, rfl⟩
    go_wp2_with fail
    refine DR.out.mono ?_
    rintro e w1 ⟨A, n, d, xs, rfl, n13, hnd, hnone, hI, HB⟩
    clear DR hd
    go_wp2_with fail
    refine (impl_SettleUp_any A n d xs w1 hI hnone (by omega)).mono ?_
    rintro e w2 ⟨a1, m, c1, rfl, hl, hg, hb⟩
    replace hI := (hI.below hb).more hb.size
    replace HB := HB.trans (hb.mono HB.size)
    clear hb
    go_wp2_with fail
    refine (spec_IsBalances_any A n d _ xs w2 hI (by omega)).mono ?_
    rintro e w3 ⟨rfl, rfl⟩
    cases hs : balB n xs
    · have hV : suV n xs = [] := by rw [suV, hs]; rfl
      have HC := Lib.hid (show suC n xs = 1 by rw [suC, hs]; rfl)
      have hm : m = 0 := by rw [hV] at hl; simp at hl; omega
      subst hm
      rw [HC.out]
      have HS := Lib.hid hs
      clear hl hs hV
      go_wp2_with fail
      refine (impl_IsBalances_any A n d _ xs w2 hI).mono ?_
      rw [HS.out]
      rintro e w4 ⟨rfl, rfl⟩
      go_wp2_with fail
      go_ret
      exact ⟨rfl, HB⟩
    · have hV : suV n xs = trL xs := by rw [suV, hs]; rfl
      have HC := Lib.hid (show suC n xs = 0 by rw [suC, hs]; rfl)
      obtain ⟨n8, hbd0, hsum⟩ := balB_out hs
      have HL := Lib.hid hI.len
      have HK := Lib.hid (show okL xs by unfold okL; rw [HL.out]; exact hsum)
      rw [hV] at hl hg
      rw [HC.out]
      have HS := Lib.hid hs
      have hml : m = 0 ∨ m < n := by
        obtain ⟨m', e1, e2⟩ := trL_len HK.out
        rw [HL.out] at e2
        omega
      have HM := Lib.hid hl
      have HG := Lib.hid (Grows.new w2 w2.heap.size (Nat.le_refl _))
      have HB2 := Lib.hid ((Below.refl w2.heap.size w2).alloc (Nat.le_refl _) (.cells #[] 2))
      have HI := Lib.hid (fun (W : World) (hb : Below w2.heap.size w2 W) => hI.below hb)
      clear hl hs hV hsum
      by_cases hn0 : n = 0
      · subst hn0
        have hm0 : m = 0 := by omega
        subst hm0
        have hx : xs = [] := List.eq_nil_of_length_eq_zero HL.out
        subst hx
        have HE : Hid (∀ W g, (Builtin.append_ #[29, 29] 29 #[.slice (some ⟨g, 0, none⟩) 0 0, .slice none 0 0]).run Try.prog W = .ok (.slice (some ⟨g, 0, none⟩) 0 0) W) := Lib.hid fun W g => by
          obtain ⟨i, hi, _⟩ := info_parts info_int
          exact run_append_nothing W 29 29 29 2 i Try.underlying29 hi (some ⟨g, 0, none⟩) 0 0 (Nat.le_refl _) _ (Src.ofNil W Try.underlying29 0)
        have F : ∀ (W : World) (a : Option Addr) (c : Nat), Calls Try.prog 36 #[.slice a 0 c] W fun e w' => e = .returned (.bool true) ∧ W = w' := fun W a c => impl_IsBalances_any a 0 c 0 [] W Ints.nil
        have HF := Lib.hid F
        clear F hI hml hbd0
        rcases A with _ | ad
        · obtain rfl := hnone rfl
          have he := HE.out
          go_wp2_with fail
          go_loop [8] (fun i => i = .int .i64 0) (fun _ => 0)
          case atStart => rfl
          case round =>
            subst hrel
            go_wp2_with fail
            go_loop [10] (fun i => i = .int .i64 0) (fun _ => 0)
            case atStart => rfl
            case round =>
              subst hrel
              go_wp2_with (first | (go_at_call 36; refine (HF.out _ _ _).mono ?_; rintro e w' ⟨rfl, rfl⟩))
              go_ret
              exact ⟨rfl, HB.alloc HB.size _⟩
        · go_wp2_with (first | (at_builtin; refine app_grows rfl (.tmp 35) (.tmp 36) rfl rfl HG.out ad [] 0 d rfl rfl (fun i hi => absurd hi (by omega)) (by simp) (by simp) ?_; intro v5 w5 hg5 hb5; obtain ⟨a5, c5, hv5, _, _⟩ := hg5.out; subst hv5; have HB5 := HB.trans ((HB2.out.trans hb5).mono HB.size)))
          go_loop [8] (fun i => i = .int .i64 0) (fun _ => 0)
          case atStart => rfl
          case round =>
            subst hrel
            go_wp2_with fail
            go_loop [10] (fun i => i = .int .i64 0) (fun _ => 0)
            case atStart => rfl
            case round =>
              subst hrel
              go_wp2_with (first | (go_at_call 36; refine (HF.out _ _ _).mono ?_; rintro e w' ⟨rfl, rfl⟩))
              go_ret
              exact ⟨rfl, HB5⟩
      · obtain ⟨ab, ao, rfl, hab, hc0⟩ := hI.2 (by omega)
        have HC0 : Hid (∀ i, i < n → (w2.alloc (.cells #[] 2)).cell? ((⟨ab, ao, none⟩ : Addr).add i) = some (.int .i64 (xs.getD i 0))) := Lib.hid (fun i hi => by
          have e : (⟨ab, ao, none⟩ : Addr).add i = ⟨ab, ao + i, none⟩ := by by_cases h0 : i = 0 <;> simp [Addr.add, h0]
          rw [e]
          exact (HB2.out.cell (p := ⟨ab, ao + i, none⟩) hab).trans (hc0 i hi))
        have HGR := Lib.hid hg
        have f1 : decide ((n : Int) < (m : Int)) = false := by simp; omega
        have f1n : decide (n < m) = false := decide_eq_false (by omega)
        have HBD := Lib.hid (lf_bd HK.out (B := 60000000) (by rw [HL.out]; exact hbd0))
        clear hI hc0 hbd0 hnone
        by_cases hm0 : m = 0
        · subst hm0
          go_wp2_with (first | (at_builtin; refine app_grows rfl (.tmp 35) (.tmp 36) rfl rfl HG.out ⟨ab, ao, none⟩ xs n d rfl HL.out.symm HC0.out (by simp; omega) (by simp) ?_; intro v5 w5 hg5 hb5; rw [List.nil_append] at hg5; obtain ⟨a5, c5, hv5, hc5, hr5⟩ := hg5.out; subst hv5; rw [HL.out] at hc5 hr5 ⊢; have HB5 := HB2.out.trans hb5; obtain ⟨gl, hgl, gl1, gl2, _, _⟩ := hr5.blk (by omega); subst hgl))
          have HR5 := Lib.hid hr5
          have HT := Lib.hid (HGR.out.below HB5)
          clear hr5 hg5
          go_loopw [8] (fun i wr => ∃ k : Nat, k ≤ 0 ∧ i = .int .i64 k ∧ Hid (RowN wr w2.heap.size w5.heap.size 2 (some ⟨gl, 0, none⟩) n (icell .i64 (lf xs k))) ∧ Below w2.heap.size w2 wr ∧ w5.heap.size ≤ wr.heap.size) (fun i _ => 0 - (intOf i).toNat)
          case atStart => exact ⟨0, Nat.zero_le _, rfl, HR5, HB5, Nat.le_refl _⟩
          case round =>
            obtain ⟨k, hk, rfl, hrow, hbel, hzz⟩ := hrel
            have HNK := Lib.hid ((lf_len xs k).trans HL.out)
            have hkm : k = 0 := by omega
            subst hkm
            have HD := Lib.hid (end_dn HK.out HM.out)
            have HZ := Lib.hid (fun i (hi : i < n) => show wr.cell? ⟨gl, i, none⟩ = some (.int .i64 0) by
              rw [(row_cells hrow.out hi).1, icell, dn_zero (lf_ok HK.out _) HD.out i (by rw [HNK.out]; exact hi)])
            have HBZ := Lib.hid (bal_zero HNK.out n8 (lf_ok HK.out _) HD.out)
            have HF := Lib.hid (impl_IsBalances_any _ n c5 _ _ wr (hrow.out.ints HNK.out))
            have HF2 := Lib.hid (impl_IsBalances_any _ n d _ xs wr (HI.out wr hbel))
            go_wp2_with fail
            go_loop [10] (fun i => ∃ j : Nat, j ≤ n ∧ i = .int .i64 j) (fun i => n - (intOf i).toNat)
            case atStart => exact ⟨0, Nat.zero_le _, rfl⟩
            case round =>
              obtain ⟨j, hj, rfl⟩ := hrel
              by_cases hlt : j < n
              · have hc := HZ.out j hlt
                go_wp2_with fail
                go_round
                case rel => exact ⟨j + 1, by omega, by go_num⟩
                case measure => simp [intOf]; omega
              · go_wp2_with fail
                refine HF.out.mono ?_
                rw [HBZ.out]
                rintro e w' ⟨rfl, rfl⟩
                go_wp2_with fail
                refine HF2.out.mono ?_
                rw [HS.out]
                rintro e w' ⟨rfl, rfl⟩
                go_wp2_with fail
                go_ret
                exact ⟨rfl, HB.trans (hbel.mono HB.size)⟩
        · have f3 : decide ((0 : Int) < (m : Int)) = true := by simp; omega
          have f4 : ((m : Int) == (n : Int)) = false := by simp; omega
          have f3n : decide (0 < m) = true := decide_eq_true (by omega)
          have f4n : (m == n) = false := by simp; omega
          go_wp2_with (first | (at_builtin; refine app_grows rfl (.tmp 35) (.tmp 36) rfl rfl HG.out ⟨ab, ao, none⟩ xs n d rfl HL.out.symm HC0.out (by simp; omega) (by simp) ?_; intro v5 w5 hg5 hb5; rw [List.nil_append] at hg5; obtain ⟨a5, c5, hv5, hc5, hr5⟩ := hg5.out; subst hv5; rw [HL.out] at hc5 hr5 ⊢; have HB5 := HB2.out.trans hb5; obtain ⟨gl, hgl, gl1, gl2, _, _⟩ := hr5.blk (by omega); subst hgl))
          have HR5 := Lib.hid hr5
          have HT := Lib.hid (HGR.out.below HB5)
          clear hr5 hg5
          go_loopw [8] (fun i wr => ∃ k : Nat, k ≤ m ∧ i = .int .i64 k ∧ Hid (RowN wr w2.heap.size w5.heap.size 2 (some ⟨gl, 0, none⟩) n (icell .i64 (lf xs k))) ∧ Below w2.heap.size w2 wr ∧ w5.heap.size ≤ wr.heap.size) (fun i _ => m - (intOf i).toNat)
          case atStart => exact ⟨0, Nat.zero_le _, rfl, HR5, HB5, Nat.le_refl _⟩
          case round =>
            obtain ⟨k, hk, rfl, hrow, hbel, hzz⟩ := hrel
            have HNK := Lib.hid ((lf_len xs k).trans HL.out)
            by_cases hlt : k < m
            · obtain ⟨hnd, ef, et, ea⟩ := trL_cell HK.out HM.out hlt
              obtain ⟨L, hL⟩ : ∃ L, lf xs k = L := ⟨_, rfl⟩
              have HKL := Lib.hid (lf_ok HK.out k)
              have HLN := Lib.hid (lf_next hnd)
              have HBL := Lib.hid (HBD.out k)
              rw [hL] at hnd ef et ea hrow HKL HNK HLN HBL
              have NDN := Lib.hid hnd
              obtain ⟨_, _, _, hFT, a1, a2, a3, _⟩ := not_dn HKL.out hnd
              have hFn : fr L < n := by have := fr_lt (L := L) (by rw [HNK.out]; omega); rw [HNK.out] at this; exact this
              have hTn : tt L < n := by have := tt_lt (L := L) (by rw [HNK.out]; omega); rw [HNK.out] at this; exact this
              have bF := HBL.out (fr L) (by rw [HNK.out]; exact hFn)
              have bT := HBL.out (tt L) (by rw [HNK.out]; exact hTn)
              obtain ⟨F, hF⟩ : ∃ F, fr L = F := ⟨_, rfl⟩
              obtain ⟨T, hT⟩ : ∃ T, tt L = T := ⟨_, rfl⟩
              obtain ⟨A, hA⟩ : ∃ A, am L = A := ⟨_, rfl⟩
              obtain ⟨xF, hxF⟩ : ∃ x, L.getD F 0 = x := ⟨_, rfl⟩
              obtain ⟨xT, hxT⟩ : ∃ x, L.getD T 0 = x := ⟨_, rfl⟩
              rw [hF] at ef hFT a2 hFn bF
              rw [hT] at et hFT a3 hTn bT
              rw [hA] at ea a1 a2 a3
              rw [hxF] at a2 bF
              rw [hxT] at a3 bT
              obtain ⟨bF1, bF2⟩ := bF
              obtain ⟨bT1, bT2⟩ := bT
              have FF := Lib.hid hF
              have TT := Lib.hid hT
              have AA := Lib.hid hA
              have XF := Lib.hid hxF
              have XT := Lib.hid hxT
              have hTF : ¬ T = F := fun e => hFT e.symm
              obtain ⟨gt, hgt, _, _, hgtl, _⟩ := HGR.out.blk (by omega)
              subst hgt
              have KT := Lib.hid (fun i (hi : i < m * 3) => (hbel.cell (p := ⟨gt, i, none⟩) hgtl).trans (row_cells HGR.out hi).1)
              have t0 := KT.out (k * 3) (by omega)
              have t1 := KT.out (k * 3 + 1) (by omega)
              have t2 := KT.out (k * 3 + 2) (by omega)
              rw [icell, ef] at t0
              rw [icell, et] at t1
              rw [icell, ea] at t2
              have hral := hrow.out.below ((Below.refl wr.heap.size wr).alloc (Nat.le_refl _) (.cells #[.int .i64 (F : Int), .int .i64 (T : Int), .int .i64 A] 50))
              obtain ⟨cF, fF⟩ := row_cells hral hFn
              obtain ⟨cT, fT⟩ := row_cells hral hTn
              rw [icell, XF.out] at cF
              rw [icell, XT.out] at cT
              have a4 : A ≤ 60000000 := by omega
              have e6 : IntKind.i64.wrap (xF + A) = xF + A := IntWalk.i64_in _ (by omega)
              have e6' : wrap64 (xF + A) = xF + A := by unfold wrap64; omega
              have e7 : IntKind.i64.wrap (xT - A) = xT - A := IntWalk.i64_in _ (by omega)
              have e7' : wrap64 (xT - A) = xT - A := by unfold wrap64; omega
              have q6' : decide (0 < xF + A) = false := decide_eq_false (by omega)
              have q1 : ¬ (A < 1) := by omega
              have q2 : ¬ ((F : Int) < 0) := by omega
              have q3 : ¬ ((n : Int) ≤ (F : Int)) := by omega
              have q4 : ¬ ((T : Int) < 0) := by omega
              have q5 : ¬ ((n : Int) ≤ (T : Int)) := by omega
              have q6 : ¬ (0 < xF + A) := by omega
              have q7 : ¬ (xT < A) := by omega
              clear hnd ef et ea hF hT hA hxF hxT hL
              go_wp2_with fail
              go_quiet (fail)
              go_wp2_with fail
              go_region
              go_wp2_with fail
              have hset := (hrow.out.set hFn (.int .i64 (xF + A))).below ((Below.refl (wr.setCell ⟨gl, F, none⟩ (.int .i64 (xF + A))).heap.size _).alloc (Nat.le_refl _) (.cells #[.int .i64 (F : Int), .int .i64 (T : Int), .int .i64 A] 50))
              obtain ⟨cT2, fT2⟩ := row_cells hset hTn
              simp only [if_neg hTF] at cT2
              rw [icell, XT.out] at cT2
              go_region
              go_wp2_with fail
              have qq := fun (W : World) (h : RowN W w2.heap.size w5.heap.size 2 (some ⟨gl, 0, none⟩) n (icell .i64 L)) => stL_row HKL.out NDN.out HNK.out h (x := xF + A) (y := xT - A) (by rw [FF.out, XF.out, AA.out]) (by rw [TT.out, XT.out, AA.out])
              rw [FF.out, TT.out, ← HLN.out] at qq
              have QQ := Lib.hid qq
              clear qq
              go_roundw
              case rel =>
                refine ⟨k + 1, by omega, by go_num, ?_, ?_, ?_⟩
                · exact Lib.hid (RowN.drew (QQ.out _ (by exact hral)))
                · exact below_drewN (((below_drewN (hbel.alloc hbel.size _) _).setCell gl1 _).setCell gl1 _) 1
                · have := hzz; simp [World.size_setCell]; omega
              case measure => simp [intOf]; omega
            have hkm : k = m := by omega
            subst hkm
            have HD := Lib.hid (end_dn HK.out HM.out)
            have HZ := Lib.hid (fun i (hi : i < n) => show wr.cell? ⟨gl, i, none⟩ = some (.int .i64 0) by
              rw [(row_cells hrow.out hi).1, icell, dn_zero (lf_ok HK.out _) HD.out i (by rw [HNK.out]; exact hi)])
            have HBZ := Lib.hid (bal_zero HNK.out n8 (lf_ok HK.out _) HD.out)
            have HF := Lib.hid (impl_IsBalances_any _ n c5 _ _ wr (hrow.out.ints HNK.out))
            have HF2 := Lib.hid (impl_IsBalances_any _ n d _ xs wr (HI.out wr hbel))
            go_wp2_with fail
            go_loop [10] (fun i => ∃ j : Nat, j ≤ n ∧ i = .int .i64 j) (fun i => n - (intOf i).toNat)
            case atStart => exact ⟨0, Nat.zero_le _, rfl⟩
            case round =>
              obtain ⟨j, hj, rfl⟩ := hrel
              by_cases hlt : j < n
              · have hc := HZ.out j hlt
                go_wp2_with fail
                go_round
                case rel => exact ⟨j + 1, by omega, by go_num⟩
                case measure => simp [intOf]; omega
              · go_wp2_with fail
                refine HF.out.mono ?_
                rw [HBZ.out]
                rintro e w' ⟨rfl, rfl⟩
                go_wp2_with fail
                refine HF2.out.mono ?_
                rw [HS.out]
                rintro e w' ⟨rfl, rfl⟩
                go_wp2_with fail
                go_ret
                exact ⟨rfl, HB.trans (hbel.mono HB.size)⟩
namespace fnSettled
set_option linter.unusedVariables false
set_option maxRecDepth 100000 in
theorem lifted (os : Os) (started : os.Started) (H : Type) (enc : TypeId × Value → H) :
    ReturnsInHanded {} Try.checked os 9 .any (Rows.fnSettledSpec.pre6 enc Try.prog Try.f9 Rows.fnSettledRow.domain false) (Rows.fnSettledSpec.post enc Try.prog Try.f9 false true false false) := by
  refine returnsInHanded_of_change (C := Try.checked) own started (by kernel_rfl) Try.func9
    (ChangeSpec.witness6 (enc := enc) (C := Try.checked) false ⟨#[], #[.slice none 0 0], []⟩ 8 (by kernel_rfl) (by kernel_rfl) (by kernel_rfl) (by kernel_rfl)) ?_
  intro W base args ds gs before hval0 hW hcnd _
  have hval : ∀ (j : Nat) t v, Try.f9.params[j]? = some t → args[j]? = some v → Value.okWide Try.prog W .any base t v := hval0
  have hW' := hW
  obtain ⟨p, q, hA0, hV, rfl, hfz, hnd⟩ := hW
  have hA : DataW.TrodAll enc Try.prog W 0 (fun _ => true) true Try.f9.params.toList args.toList ds p := hA0
  rw [Try.params9] at hA hval
  obtain ⟨v0, vs0, d0, ds0, p0, q0, hargs, rfl, rfl, h0, r0⟩ := trodAll_cons hA
  obtain ⟨rfl, rfl, rfl⟩ := trodAll_nil r0
  obtain rfl : args = #[v0] := by cases args; simp_all
  obtain ⟨rfl, rfl⟩ := trodVars_none hV
  obtain ⟨ax0, nx0, cx0, x0, rfl, wx0⟩ := open_ints_arg Try.underlying32 Try.underlying5 (by kernel_rfl) (hval 0 32 v0 rfl rfl) h0
  clear hA0 hval0
  refine (walk_FnSettled W ax0 nx0 cx0 x0 wx0).mono fun e W' ⟨he, bel⟩ => ?_
  subst he
  exact ⟨_, rfl, _, _, _, [], _, [], hW', trodAll_mk1 (shut_bool Try.underlying4 _), (trodAll_cons_mk (Below.trod laidOut (by kernel_rfl) (of_decide_eq_true (by kernel_rfl)) h0 bel (lt_of_trod h0)) trodAll_mk0), rfl, bel.frame _, fun h => by cases h⟩

theorem over : Rows.fnSettledRow.holds Try.pinned (OpenSpec.ofChange Rows.fnSettledSpec) :=
  OpenClaim.holds_of_wide 9 Try.f9 rfl rfl rfl rfl rfl rfl rfl ⟨rfl, rfl, rfl, rfl, rfl⟩ rfl rfl rfl rfl rfl (by kernel_rfl) Try.func9 (by kernel_rfl)
    (of_decide_eq_true (by kernel_rfl)) (by unfold Func.isWrapper; first | (rw [if_pos (by decide +kernel)]; kernel_rfl) | (rw [if_neg (by decide +kernel)]; exact ⟨rfl, rfl⟩))
    (fun os started H enc _ => lifted os started H enc)
theorem proved : Rows.FnSettledSaid := over
#print axioms proved
end fnSettled
end Go.Proofs.Ytocdiflkegbffaa
