/-
  spec.WorstChoices: the walk.
-/
import Derived.Test.YtmhmhbiihcdgiaaWcI
import Derived.Test.YtmhmhbiihcdgiaaCxS
import Derived.Test.YtmhmhbiihcdgiaaDecT
namespace Go.Proofs.Ytmhmhbiihcdgiaa
open Go.ChangeShapes Go.WideShapes Go.ChangeAt Go.RowKit Go.Deep
set_option linter.unusedVariables false

theorem Own.to {w : World} {base : Nat} {e : TypeId} {size g cap n n' : Nat} {vs vs' : List Value} (h : Own w base e size g cap n vs) (hn : n = n') (hv : vs = vs') : Own w base e size g cap n' vs' := by
  subst hn hv; exact h
/-- index i put in at place 'at' -/
theorem wc_ins {L : Int → Int → Bool} (hL : STot L) {i k : Nat} (hk : k ≤ i) (lo : ∀ j, j < k → L ((wcY L i).getD j 0) i = true) (hi : ∀ j, k ≤ j → j < i → L i ((wcY L i).getD j 0) = true) :
    (wcY L i).take k ++ ((i : Int) :: (wcY L i).drop k) = wcY L (i + 1) := by
  obtain ⟨h1, h2⟩ := wcY_ok hL i
  have hl := wcY_len hL i
  obtain ⟨ys, hys⟩ : ∃ ys, wcY L i = ys := ⟨_, rfl⟩
  rw [hys] at lo hi h1 h2 hl ⊢
  refine sorted_one hL _ _ ?_ ?_ (wcY_ok hL (i + 1)).2
  · refine List.Perm.trans ?_ (wcY_ok hL (i + 1)).1.symm
    rw [lsF_succ]
    have e1 : (ys.take k ++ ((i : Int) :: ys.drop k)).Perm ((i : Int) :: (ys.take k ++ ys.drop k)) := List.perm_middle
    rw [List.take_append_drop] at e1
    exact e1.trans ((h1.cons _).trans (List.perm_append_comm (l₁ := [(i : Int)]) (l₂ := lsF i idF)))
  · have hd := h2
    rw [← List.take_append_drop k ys, List.pairwise_append] at hd
    obtain ⟨d1, d2, d3⟩ := hd
    have mt : ∀ x ∈ ys.take k, L x i = true := fun x hx => by
      obtain ⟨j, hj, rfl⟩ := List.mem_iff_getElem.1 hx
      rw [List.length_take] at hj
      have := lo j (by omega)
      rw [List.getD_eq_getElem?_getD, List.getElem?_eq_getElem (by omega)] at this
      rw [List.getElem_take]
      exact this
    have md : ∀ x ∈ ys.drop k, L i x = true := fun x hx => by
      obtain ⟨j, hj, rfl⟩ := List.mem_iff_getElem.1 hx
      rw [List.length_drop] at hj
      have := hi (k + j) (by omega) (by omega)
      rw [List.getD_eq_getElem?_getD, List.getElem?_eq_getElem (by omega)] at this
      rw [List.getElem_drop]
      exact this
    rw [List.pairwise_append, List.pairwise_cons]
    refine ⟨d1, ⟨md, d2⟩, fun x hx y hy => ?_⟩
    rcases List.mem_cons.1 hy with rfl | hy
    · exact mt x hx
    · exact d3 x hx y hy
theorem wcY_rng {L : Int → Int → Bool} (hL : STot L) {i j : Nat} (hj : j < i) : 0 ≤ (wcY L i).getD j 0 ∧ (wcY L i).getD j 0 < i := by
  have hl := wcY_len hL i
  rw [List.getD_eq_getElem?_getD, List.getElem?_eq_getElem (by omega)]
  exact mem_id.1 ((wcY_ok hL i).1.mem_iff.1 (List.getElem_mem _))
theorem wcY_pw {L : Int → Int → Bool} (hL : STot L) {i j k : Nat} (hjk : j < k) (hk : k < i) : L ((wcY L i).getD j 0) ((wcY L i).getD k 0) = true := by
  have hl := wcY_len hL i
  have := List.pairwise_iff_getElem.1 (wcY_ok hL i).2 j k (by omega) (by omega) hjk
  rw [List.getD_eq_getElem?_getD, List.getElem?_eq_getElem (by omega), List.getD_eq_getElem?_getD, List.getElem?_eq_getElem (by omega)]
  exact this
theorem exA_part {s : Int} {xs : List Int} {k : Nat} : ∀ n, k ≤ n → exA s xs n = true → exA s xs k = true
  | 0, hk, h => by obtain rfl : k = 0 := by omega
                   exact h
  | n + 1, hk, h => by
    by_cases e : k = n + 1
    · subst e; exact h
    · rw [exA, Bool.and_eq_true] at h
      exact exA_part n (by omega) h.1
theorem exA_mk {s : Int} {xs : List Int} : ∀ n, ExL s n xs → exA s xs n = true
  | 0, _ => rfl
  | n + 1, h => by rw [exA, exA_mk n (fun i hi => h i (by omega)), h n (by omega)]; rfl
set_option maxHeartbeats 6400000 in
theorem spec_WorstChoices_any (p c h s : Int) (b n cap : Nat) (xs : List Int) (w : World) (hb : b < w.heap.size) (hn : n ≤ 1048576) (hc0 : ∀ i, i < n * 2 → w.cell? ⟨b, i, none⟩ = some (.int .i64 (xs.getD i 0))) (hwf : ∀ k, k < n → xs.getD (k * 2 + 1) 0 ≤ 9223372036854775807) :
    Calls Try.prog 6 #[vrV p c h s, .slice (some ⟨b, 0, none⟩) n cap] w fun e w' => WcPost p c h s n xs w e w' := by
  have HC := Lib.hid hc0
  have HW := Lib.hid hwf
  clear hc0 hwf
  have HB0 := Lib.hid ((Below.refl w.heap.size w).alloc (Nat.le_refl _) (.cells #[.int .i64 p, .int .i64 c, .int .i64 h, .int .i64 s] 29))
  have R0 := Lib.hid (q4_new w (.int .i64 p) (.int .i64 c) (.int .i64 h) (.int .i64 s) 29)
  obtain ⟨K, hK⟩ : ∃ K, vrB p c h s = K := ⟨_, rfl⟩
  have IV := Lib.hid (fun W => hK ▸ spec_IsVariant_any p c h s W)
  cases K
  · have HV := Lib.hid (show wcC p c h s n xs = 1 by rw [wcC, hK]; rfl)
    clear hK
    go_enter Try.func6, Try.ntmps6
    obtain ⟨v0, v1, v2, v3⟩ := q4_cells R0.out
    go_wp2_with fail
    (with_reducible refine (IV.out _).mono ?_)
    rintro e w1 ⟨rfl, hb1⟩
    have HB1 := Lib.hid (HB0.out.trans (hb1.mono HB0.out.size))
    clear hb1 v0 v1 v2 v3
    go_wp2_with fail
    go_ret2
    exact .inl ⟨by rw [HV.out]; decide, ret_code HV.out, HB1.out⟩
  have HK := Lib.hid hK
  obtain ⟨_, _, _, s1, s6⟩ := vrB_true.1 hK
  by_cases h30 : 30 < n
  · have HV := Lib.hid (show wcC p c h s n xs = 3 by rw [wcC, hK, if_pos rfl, if_pos h30])
    have h30' : (30 : Int) < n := by omega
    clear hK
    go_enter Try.func6, Try.ntmps6
    obtain ⟨v0, v1, v2, v3⟩ := q4_cells R0.out
    go_wp2_with fail
    (with_reducible refine (IV.out _).mono ?_)
    rintro e w1 ⟨rfl, hb1⟩
    have HB1 := Lib.hid (HB0.out.trans (hb1.mono HB0.out.size))
    clear hb1 v0 v1 v2 v3
    go_wp2_with fail
    go_ret2
    exact .inl ⟨by rw [HV.out]; decide, ret_code HV.out, HB1.out⟩
  have h30' : ¬ (30 : Int) < n := by omega
  have h30d : decide ((30 : Int) < (n : Int)) = false := decide_eq_false h30'
  have HVC := Lib.hid (show wcC p c h s n xs = if exA s xs n then 0 else 2 by rw [wcC, hK, if_pos rfl, if_neg h30])
  obtain ⟨L, hLd⟩ : ∃ L, wcL (s * s) xs = L := ⟨_, rfl⟩
  have HL := Lib.hid (hLd ▸ wcL_tot (s * s) xs : STot L)
  have HLD := Lib.hid hLd
  have IX := Lib.hid (fun W num dep (hd : dep ≤ 9223372036854775807) => spec_IsExact_any p c h s num dep W hd)
  clear hK hLd
  go_enter Try.func6, Try.ntmps6
  obtain ⟨v0, v1, v2, v3⟩ := q4_cells R0.out
  go_wp2_with fail
  (with_reducible refine (IV.out _).mono ?_)
  rintro e w1 ⟨rfl, hb1⟩
  have HB1 := Lib.hid (HB0.out.trans (hb1.mono HB0.out.size))
  have R1 := Lib.hid (rowIs_below R0.out hb1 R0.out.lt)
  clear hb1 v0 v1 v2 v3
  have hlw := R1.out.lt
  go_wp2_with fail
  go_loopw [6, 7] (fun ov iv wr => ∃ (i g cp : Nat), ov = .slice (some ⟨g, 0, none⟩) i cp ∧ iv = .int .i64 i ∧ i ≤ n ∧ Hid (exA s xs i = true) ∧ Hid (Own wr (w.heap.size + 1) 2 1 g cp i ((wcY L i).map (.int .i64))) ∧ Hid (wr.rowIs w.heap.size 29 4 (q4 (.int .i64 p) (.int .i64 c) (.int .i64 h) (.int .i64 s))) ∧ Hid (Below w.heap.size w wr)) (fun _ i _ => n - (intOf i).toNat)
  case atStart => exact ⟨0, w1.heap.size, 0, rfl, rfl, Nat.zero_le _, Lib.hid rfl, Lib.hid (Own.new w1 (w.heap.size + 1) 2 1 #[] 0 (by omega) (by unfold maxLen; omega) rfl), Lib.hid (R1.out.alloc _), Lib.hid (HB1.out.alloc HB1.out.size _)⟩
  case round =>
    clear hlw
    obtain ⟨i, g, cp, rfl, rfl, hin, HA, HO, HR, HB⟩ := hrel
    by_cases hlt : i < n
    · have hlt' : (i : Int) < (n : Int) := by omega
      have hlw := HR.out.lt
      have keepW : Hid (∀ W, Below w.heap.size w W → ∀ k, k < n * 2 → W.cell? ⟨b, k, none⟩ = some (.int .i64 (xs.getD k 0))) := Lib.hid (fun W hW k hk => (hW.cell (p := ⟨b, k, none⟩) hb).trans (HC.out k hk))
      obtain ⟨n1, hn1⟩ : ∃ x, xs.getD (i * 2) 0 = x := ⟨_, rfl⟩
      obtain ⟨d1, hd1⟩ : ∃ x, xs.getD (i * 2 + 1) 0 = x := ⟨_, rfl⟩
      have hdd : d1 ≤ 9223372036854775807 := hd1 ▸ HW.out i hlt
      have HN1 := Lib.hid hn1
      have HD1 := Lib.hid hd1
      have KB : Hid (∀ W, Below w.heap.size w W → W.cell? ⟨b, i * 2, none⟩ = some (.int .i64 n1) ∧ W.cell? ⟨b, i * 2 + 1, none⟩ = some (.int .i64 d1)) := Lib.hid (fun W hW => ⟨by rw [← HN1.out]; exact keepW.out W hW _ (by omega), by rw [← HD1.out]; exact keepW.out W hW _ (by omega)⟩)
      obtain ⟨E, hE⟩ : ∃ E, ixB p c h s n1 d1 = E := ⟨_, rfl⟩
      have hix : exB s n1 d1 = E := by rw [← hE, ixB, HK.out, Bool.true_and]
      have IX1 := Lib.hid (fun W => hE ▸ IX.out W n1 d1 hdd)
      clear hn1 hd1 hE
      have HBd := Lib.hid (show Below w.heap.size w wr.drew from below_drewN HB.out 1)
      have HRd := Lib.hid (show wr.drew.rowIs w.heap.size 29 4 (q4 (.int .i64 p) (.int .i64 c) (.int .i64 h) (.int .i64 s)) from rowIs_drewN HR.out 1)
      have HOd := Lib.hid (HO.out.drew)
      obtain ⟨ci0, ci1⟩ := KB.out _ HBd.out
      obtain ⟨v0, v1, v2, v3⟩ := q4_cells HRd.out
      go_wp2_with fail
      go_region_held3 (fun w' => w'.cell? ⟨w.heap.size, 0, none⟩ = some (.int .i64 p) ∧ w'.cell? ⟨w.heap.size, 1, none⟩ = some (.int .i64 c) ∧ w'.cell? ⟨w.heap.size, 2, none⟩ = some (.int .i64 h) ∧ w'.cell? ⟨w.heap.size, 3, none⟩ = some (.int .i64 s) ∧ w'.cell? ⟨b, i * 2, none⟩ = some (.int .i64 n1) ∧ w'.cell? ⟨b, i * 2 + 1, none⟩ = some (.int .i64 d1))
        (go_keep)
        ((go_at_call 20; (with_reducible refine (IX1.out _).mono ?_); rintro e w2 ⟨rfl, hb2⟩; have HB2 := Lib.hid (HBd.out.trans (hb2.mono HBd.out.size)); have HR2 := Lib.hid (rowIs_below HRd.out hb2 HRd.out.lt); have HO2 := Lib.hid (HOd.out.below hb2); obtain ⟨ci0, ci1⟩ := KB.out _ HB2.out; obtain ⟨v0, v1, v2, v3⟩ := q4_cells HR2.out; clear hb2))
      all_goals
        cases E
        · have HV := Lib.hid (show wcC p c h s n xs = 2 by
            rw [HVC.out, exA_no (k := i) (by rw [HN1.out, HD1.out]; exact hix) n hlt]; rfl)
          clear hix
          go_wp2_with fail
          go_ret2
          exact .inl ⟨by rw [HV.out]; decide, ret_code HV.out, HB2.out⟩
        · have HA2 := Lib.hid (show exA s xs (i + 1) = true by rw [exA, HA.out, HN1.out, HD1.out, hix]; rfl)
          have HX := Lib.hid (exA_all (i + 1) HA2.out)
          simp only [Bool.not_true]
          clear hix ci0 ci1 v0 v1 v2 v3
          obtain ⟨wo, hwo⟩ : ∃ wo, wo = w2 := ⟨_, rfl⟩
          subst hwo
          go_wp2_with fail
          go_loopw [8] (fun av wr => ∃ k : Nat, av = .int .i64 k ∧ k ≤ i ∧ Hid (∀ j, k ≤ j → j < i → L i ((wcY L i).getD j 0) = true) ∧ Hid (Own wr (w.heap.size + 1) 2 1 g cp i ((wcY L i).map (.int .i64))) ∧ Hid (wr.rowIs w.heap.size 29 4 (q4 (.int .i64 p) (.int .i64 c) (.int .i64 h) (.int .i64 s))) ∧ Hid (Below w.heap.size w wr)) (fun k _ => (intOf k).toNat)
          case atStart => exact ⟨i, rfl, Nat.le_refl _, Lib.hid (fun j j1 j2 => absurd j2 (by omega)), HO2, HR2, HB2⟩
          case round =>
            clear HO2 HR2 HB2 HOd HRd HBd HO HR HB hlw
            obtain ⟨k, rfl, hki, HI, HO, HR, HB⟩ := hrel
            by_cases hk0 : 0 < k
            · obtain ⟨k', hk'⟩ : ∃ k', k' + 1 = k := ⟨k - 1, by omega⟩
              have e1 : IntKind.i64.wrap ((k : Int) - 1) = (k' : Int) := by rw [IntWalk.i64_in _ (by omega)]; omega
              have hk0' : (0 : Int) < (k : Int) := by omega
              have hkd : decide ((0 : Int) < (k : Int)) = true := decide_eq_true hk0'
              have HK' := Lib.hid hk'
              have hrg := wcY_rng HL.out (i := i) (j := k') (by omega)
              obtain ⟨yn, hyn⟩ := Int.eq_ofNat_of_zero_le hrg.1
              have hyi : yn < i := by omega
              have hyn' : (yn : Int) < n := by omega
              have HYN := Lib.hid hyn
              obtain ⟨qy, qi, Ky, Ki, ey, ei, hcmp⟩ := HX.out.cmp s1 s6 (i := yn) (j := i) (by omega) (by omega)
              rw [HN1.out, HD1.out] at Ki
              rw [HD1.out] at ei
              rw [HN1.out] at hcmp
              obtain ⟨n2, hn2⟩ : ∃ x, xs.getD (yn * 2) 0 = x := ⟨_, rfl⟩
              obtain ⟨d2, hd2⟩ : ∃ x, xs.getD (yn * 2 + 1) 0 = x := ⟨_, rfl⟩
              rw [hn2, hd2] at Ky
              rw [hd2] at ey
              rw [hn2] at hcmp
              obtain ⟨D1, hD1⟩ := Int.eq_ofNat_of_zero_le Ki.d0
              obtain ⟨D2, hD2⟩ := Int.eq_ofNat_of_zero_le Ky.d0
              have KY : Hid (∀ W, Below w.heap.size w W → W.cell? ⟨b, yn * 2, none⟩ = some (.int .i64 n2) ∧ W.cell? ⟨b, yn * 2 + 1, none⟩ = some (.int .i64 d2)) := Lib.hid (fun W hW => ⟨by rw [← hn2]; exact keepW.out W hW _ (by omega), by rw [← hd2]; exact keepW.out W hW _ (by omega)⟩)
              have LC : Hid (∀ W : World, Calls Try.prog 21 #[vrV p c h s, exV n2 d2, exV n1 d1] W fun e w' => e = .returned (.int .i64 (cmpS n2 qy n1 qi)) ∧ Below W.heap.size W w') := by
                refine Lib.hid (fun W => ?_)
                rw [hD1, hD2]
                exact l09Compare_any p c h s n2 n1 qy qi D2 D1 W s1 s6 (hD2 ▸ Ky) (hD1 ▸ Ki) (by rw [ey, hD2, Int.toNat_natCast]) (by rw [ei, hD1, Int.toNat_natCast])
              obtain ⟨r, hr⟩ : ∃ r, cmpS n2 qy n1 qi = r := ⟨_, rfl⟩
              rw [hr] at LC hcmp
              have HCP := Lib.hid hcmp
              clear hn2 hd2 hcmp Ky Ki ey ei hD1 hD2 hr hrg hyn hk'
              have HBd := Lib.hid (show Below w.heap.size w wr.drew from below_drewN HB.out 1)
              have HRd := Lib.hid (show wr.drew.rowIs w.heap.size 29 4 (q4 (.int .i64 p) (.int .i64 c) (.int .i64 h) (.int .i64 s)) from rowIs_drewN HR.out 1)
              have HOd := Lib.hid (HO.out.drew)
              have KO : Hid (∀ W, Own W (w.heap.size + 1) 2 1 g cp i ((wcY L i).map (.int .i64)) → W.cell? ⟨g, k', none⟩ = some (.int .i64 (yn : Int))) := Lib.hid (fun W hW => by
                obtain ⟨gg, hgg, _, _, _, hc⟩ := hW.rowI.blk (by omega)
                injection hgg with hgg
                injection hgg with hgg
                subst hgg
                rw [(hc k' (by have := HK'.out; omega)).1, icell, HYN.out])
              have hki' : (k' : Int) < i := by have := HK'.out; omega
              obtain ⟨ci0, ci1⟩ := KB.out _ HBd.out
              obtain ⟨cy0, cy1⟩ := KY.out _ HBd.out
              have co := KO.out _ HOd.out
              obtain ⟨v0, v1, v2, v3⟩ := q4_cells HRd.out
              go_wp2_with fail
              go_region_held3 (fun w' => w'.cell? ⟨w.heap.size, 0, none⟩ = some (.int .i64 p) ∧ w'.cell? ⟨w.heap.size, 1, none⟩ = some (.int .i64 c) ∧ w'.cell? ⟨w.heap.size, 2, none⟩ = some (.int .i64 h) ∧ w'.cell? ⟨w.heap.size, 3, none⟩ = some (.int .i64 s) ∧ w'.cell? ⟨b, i * 2, none⟩ = some (.int .i64 n1) ∧ w'.cell? ⟨b, i * 2 + 1, none⟩ = some (.int .i64 d1) ∧ w'.cell? ⟨b, yn * 2, none⟩ = some (.int .i64 n2) ∧ w'.cell? ⟨b, yn * 2 + 1, none⟩ = some (.int .i64 d2) ∧ w'.cell? ⟨g, k', none⟩ = some (.int .i64 (yn : Int)))
                (go_keep)
                ((go_at_call 21; (with_reducible refine (LC.out _).mono ?_); rintro e w2 ⟨rfl, hb2⟩; have HB2 := Lib.hid (HBd.out.trans (hb2.mono HBd.out.size)); have HR2 := Lib.hid (rowIs_below HRd.out hb2 HRd.out.lt); have HO2 := Lib.hid (HOd.out.below hb2); obtain ⟨ci0, ci1⟩ := KB.out _ HB2.out; obtain ⟨cy0, cy1⟩ := KY.out _ HB2.out; have co := KO.out _ HO2.out; obtain ⟨v0, v1, v2, v3⟩ := q4_cells HR2.out; clear hb2))
              all_goals
                by_cases hr : r < 0
                · have HI2 := Lib.hid (show ∀ j, k' ≤ j → j < i → L i ((wcY L i).getD j 0) = true from fun j j1 j2 => by
                    by_cases e : j = k'
                    · rw [e, HYN.out, ← HLD.out, wcL_true]
                      exact .inl (HCP.out.1 hr)
                    · exact HI.out j (by have := HK'.out; omega) j2)
                  go_wp2_with fail
                  go_roundw
                  case rel => exact ⟨k', by go_num, by have := HK'.out; omega, HI2, HO2, HR2, HB2⟩
                  case measure =>
                    have := HK'.out
                    simp [intOf]; omega
                · have LO := Lib.hid (show ∀ j, j < k → L ((wcY L i).getD j 0) i = true from fun j j1 => by
                    have hy : L ((wcY L i).getD k' 0) i = true := by
                      rw [HYN.out, ← HLD.out, wcL_true]
                      have := mt HCP.out.2 hr
                      omega
                    by_cases e : j = k'
                    · rw [e]; exact hy
                    · exact HL.out.tra _ _ _ (wcY_pw HL.out (j := j) (k := k') (by have := HK'.out; omega) (by have := HK'.out; omega)) hy)
                  clear ci0 ci1 cy0 cy1 co v0 v1 v2 v3
                  by_cases hcp : cp = k
                  · obtain rfl : i = k := by have := HO2.out.room; omega
                    obtain rfl : i = cp := hcp.symm
                    have HZ := Lib.hid (wc_ins HL.out hki LO.out HI.out)
                    have hrm := HO2.out.room
                    have hge := HO2.out.ge
                    have hlR := HR2.out.lt
                    have hY := wcY_len HL.out i
                    obtain ⟨Y, hYe⟩ : ∃ Y, wcY L i = Y := ⟨_, rfl⟩
                    rw [hYe] at HZ HO2 hY
                    have HYc := Lib.hid (fun (W : World) (h : Own W (w.heap.size + 1) 2 1 g i i (Y.map (.int .i64))) (j : Nat) (hj : j < i) => (show W.cell? ⟨g, 0 + j, none⟩ = some (.int .i64 (Y.getD j 0)) by
                      obtain ⟨gg, hgg, _, _, _, hc⟩ := h.rowI.blk (by omega)
                      injection hgg with hgg
                      injection hgg with hgg
                      subst hgg
                      rw [Nat.zero_add]
                      exact (hc j hj).1))
                    have hdl : (Y.drop i).length = i - i := by rw [List.length_drop, hY]
                    have htl : (Y.take i).length = i := by rw [List.length_take, hY]; omega
                    have HTK := Lib.hid (fun (W : World) (h : Own W (w.heap.size + 1) 2 1 g i i (Y.map (.int .i64))) => (show ∀ j u, ((Y.take i).map (Value.int .i64))[j]? = some u → W.cell? ((⟨g, 0, none⟩ : Addr).add j) = some u from fun j u hj => by
                      rw [List.getElem?_map] at hj
                      obtain ⟨x, hx, rfl⟩ := Option.map_eq_some_iff.1 hj
                      obtain ⟨hj1, hj2⟩ := List.getElem?_eq_some_iff.1 hx
                      rw [List.length_take] at hj1
                      have h2 := HYc.out W h j (by omega)
                      have e : (⟨g, 0, none⟩ : Addr).add j = ⟨g, 0 + j, none⟩ := by by_cases h0 : j = 0 <;> simp [Addr.add, h0]
                      rw [e, h2, List.getD_eq_getElem?_getD, List.getElem?_eq_getElem (by omega), ← hj2, List.getElem_take]
                      rfl))
                    clear hYe
                    go_wp2_with (first
                      | (at_builtin; refine app_own rfl (.tmp 54) (.tmp 57) 26 rfl (w.heap.size + 1) 2 (.int .i64 0) 1 8 Try.underlying26 info_int rfl (by omega) (by omega) w2.heap.size 1 1 [.int .i64 (i : Int)] rfl (Own.new w2 (w.heap.size + 1) 2 1 #[.int .i64 (i : Int)] 1 (by omega) (by unfold maxLen; omega) rfl) ⟨g, 0, none⟩ 0 0 [] rfl rfl (fun j u hj => by simp at hj) (by first | exact ints_cells | (intro u hu; simp at hu)) (by omega) (by simp; omega) ?_; intro g1 p1 w3 ho1 hg1; (try simp only [Nat.add_zero, List.append_nil] at ho1); have HB3 := Lib.hid ((HB2.out.alloc HB2.out.size (.cells #[.int .i64 (i : Int)] 2)).grown hg1 (by simp; omega) (fun k e => by injection e with e; omega)); have HO3 := Lib.hid ((HO2.out.alloc (.cells #[.int .i64 (i : Int)] 2)).kept hg1 (fun e => by injection e with e; omega)); have HR3 := Lib.hid ((HR2.out.alloc (.cells #[.int .i64 (i : Int)] 2)).of_block (hg1.block w.heap.size (by simp; omega) (fun e => by injection e with e; omega))); have HP3 := Lib.hid ho1; have hge3 := ho1.ge; have hg3 := HO3.out.ge; have hlR3 := HR3.out.lt; clear ho1 hg1)
                      | (at_builtin; refine app_own rfl (.tmp 59) (.tmp 62) 26 rfl (w.heap.size + 1) 2 (.int .i64 0) 1 8 Try.underlying26 info_int rfl (by omega) (by omega) w3.heap.size 0 0 [] rfl (Own.new w3 (w.heap.size + 1) 2 1 #[] 0 (by omega) (by unfold maxLen; omega) rfl) ⟨g, 0, none⟩ i i ((Y.take i).map (.int .i64)) rfl (by rw [List.length_map, htl, Nat.mul_one]) (HTK.out _ (HO3.out.alloc _)) ints_cells (by omega) (by simp; omega) ?_; intro g2 p2 w4 ho2 hg2; (try simp only [Nat.zero_add, List.nil_append] at ho2); have HB4 := Lib.hid ((HB3.out.alloc HB3.out.size (.cells #[] 2)).grown hg2 (by simp; omega) (fun k e => by injection e with e; omega)); have HP4 := Lib.hid ((HP3.out.alloc (.cells #[] 2)).kept hg2 (fun e => by injection e with e; omega)); have HR4 := Lib.hid ((HR3.out.alloc (.cells #[] 2)).of_block (hg2.block w.heap.size (by simp; omega) (fun e => by injection e with e; omega))); have HQ4 := Lib.hid ho2; have hge4 := ho2.ge; have hge5 := HP4.out.ge; have hlR4 := HR4.out.lt; clear ho2 hg2)
                      | (at_builtin; refine app_own rfl (.tmp 63) (.tmp 64) 26 rfl (w.heap.size + 1) 2 (.int .i64 0) 1 8 Try.underlying26 info_int rfl (by omega) (by omega) g2 p2 _ _ rfl HQ4.out ⟨g1, 0, none⟩ _ p1 _ rfl HP4.out.len (by have := World.ownsRow.cells HP4.out rfl; exact this) (by intro u hu; first | exact one_cells u hu | (rcases List.mem_append.1 hu with h | h <;> first | exact one_cells u h | exact ints_cells u h)) (by omega) (by omega) ?_; intro g4 p4 w5 ho3 hg4; have HB5 := Lib.hid (HB4.out.grown hg4 HB4.out.size (fun k e => by injection e with e; omega)); have HR5 := Lib.hid (HR4.out.of_block (hg4.block w.heap.size hlR4 (fun e => by injection e with e; omega))); have HQ5 := Lib.hid ho3; clear ho3 hg4))
                    go_roundw
                    case rel =>
                      refine ⟨i + 1, g4, p4, ?_, by go_num, hlt, HA2, Lib.hid ?_, HR5, HB5⟩
                      · first | rfl | (congr 1; omega)
                      · rw [← HZ.out]
                        exact HQ5.out.to (by omega) (by first | (simp; done) | (simp [List.drop_eq_nil_of_le (show Y.length ≤ i by omega)]; done))
                    case measure => simp [intOf]; omega
                  · skip
                    have HZ := Lib.hid (wc_ins HL.out hki LO.out HI.out)
                    have hrm := HO2.out.room
                    have hge := HO2.out.ge
                    have hlR := HR2.out.lt
                    have hY := wcY_len HL.out i
                    obtain ⟨Y, hYe⟩ : ∃ Y, wcY L i = Y := ⟨_, rfl⟩
                    rw [hYe] at HZ HO2 hY
                    have HYc := Lib.hid (fun (W : World) (h : Own W (w.heap.size + 1) 2 1 g cp i (Y.map (.int .i64))) (j : Nat) (hj : j < i) => (show W.cell? ⟨g, 0 + j, none⟩ = some (.int .i64 (Y.getD j 0)) by
                      obtain ⟨gg, hgg, _, _, _, hc⟩ := h.rowI.blk (by omega)
                      injection hgg with hgg
                      injection hgg with hgg
                      subst hgg
                      rw [Nat.zero_add]
                      exact (hc j hj).1))
                    have hdl : (Y.drop k).length = i - k := by rw [List.length_drop, hY]
                    have htl : (Y.take k).length = k := by rw [List.length_take, hY]; omega
                    have HTK := Lib.hid (fun (W : World) (h : Own W (w.heap.size + 1) 2 1 g cp i (Y.map (.int .i64))) => (show ∀ j u, ((Y.take k).map (Value.int .i64))[j]? = some u → W.cell? ((⟨g, 0, none⟩ : Addr).add j) = some u from fun j u hj => by
                      rw [List.getElem?_map] at hj
                      obtain ⟨x, hx, rfl⟩ := Option.map_eq_some_iff.1 hj
                      obtain ⟨hj1, hj2⟩ := List.getElem?_eq_some_iff.1 hx
                      rw [List.length_take] at hj1
                      have h2 := HYc.out W h j (by omega)
                      have e : (⟨g, 0, none⟩ : Addr).add j = ⟨g, 0 + j, none⟩ := by by_cases h0 : j = 0 <;> simp [Addr.add, h0]
                      rw [e, h2, List.getD_eq_getElem?_getD, List.getElem?_eq_getElem (by omega), ← hj2, List.getElem_take]
                      rfl))
                    clear hYe
                    go_wp2_with (first
                      | (at_builtin; refine app_own rfl (.tmp 54) (.tmp 57) 26 rfl (w.heap.size + 1) 2 (.int .i64 0) 1 8 Try.underlying26 info_int rfl (by omega) (by omega) w2.heap.size 1 1 [.int .i64 (i : Int)] rfl (Own.new w2 (w.heap.size + 1) 2 1 #[.int .i64 (i : Int)] 1 (by omega) (by unfold maxLen; omega) rfl) ⟨g, k, none⟩ (i - k) (cp - k) ((Y.drop k).map (.int .i64)) rfl (by rw [List.length_map, hdl, Nat.mul_one]) (by have := tail_news (w := w2.alloc (.cells #[.int .i64 (i : Int)] 2)) (b := g) (off := 0) (n := i) (d := k) (k := .i64) hY (fun j hj => HYc.out _ (HO2.out.alloc _) j hj); simpa using this) (by first | exact ints_cells | (intro u hu; simp at hu)) (by omega) (by simp; omega) ?_; intro g1 p1 w3 ho1 hg1; (try simp only [Nat.add_zero, List.append_nil] at ho1); have HB3 := Lib.hid ((HB2.out.alloc HB2.out.size (.cells #[.int .i64 (i : Int)] 2)).grown hg1 (by simp; omega) (fun k e => by injection e with e; omega)); have HO3 := Lib.hid ((HO2.out.alloc (.cells #[.int .i64 (i : Int)] 2)).kept hg1 (fun e => by injection e with e; omega)); have HR3 := Lib.hid ((HR2.out.alloc (.cells #[.int .i64 (i : Int)] 2)).of_block (hg1.block w.heap.size (by simp; omega) (fun e => by injection e with e; omega))); have HP3 := Lib.hid ho1; have hge3 := ho1.ge; have hg3 := HO3.out.ge; have hlR3 := HR3.out.lt; clear ho1 hg1)
                      | (at_builtin; refine app_own rfl (.tmp 59) (.tmp 62) 26 rfl (w.heap.size + 1) 2 (.int .i64 0) 1 8 Try.underlying26 info_int rfl (by omega) (by omega) w3.heap.size 0 0 [] rfl (Own.new w3 (w.heap.size + 1) 2 1 #[] 0 (by omega) (by unfold maxLen; omega) rfl) ⟨g, 0, none⟩ k cp ((Y.take k).map (.int .i64)) rfl (by rw [List.length_map, htl, Nat.mul_one]) (HTK.out _ (HO3.out.alloc _)) ints_cells (by omega) (by simp; omega) ?_; intro g2 p2 w4 ho2 hg2; (try simp only [Nat.zero_add, List.nil_append] at ho2); have HB4 := Lib.hid ((HB3.out.alloc HB3.out.size (.cells #[] 2)).grown hg2 (by simp; omega) (fun k e => by injection e with e; omega)); have HP4 := Lib.hid ((HP3.out.alloc (.cells #[] 2)).kept hg2 (fun e => by injection e with e; omega)); have HR4 := Lib.hid ((HR3.out.alloc (.cells #[] 2)).of_block (hg2.block w.heap.size (by simp; omega) (fun e => by injection e with e; omega))); have HQ4 := Lib.hid ho2; have hge4 := ho2.ge; have hge5 := HP4.out.ge; have hlR4 := HR4.out.lt; clear ho2 hg2)
                      | (at_builtin; refine app_own rfl (.tmp 63) (.tmp 64) 26 rfl (w.heap.size + 1) 2 (.int .i64 0) 1 8 Try.underlying26 info_int rfl (by omega) (by omega) g2 p2 _ _ rfl HQ4.out ⟨g1, 0, none⟩ _ p1 _ rfl HP4.out.len (by have := World.ownsRow.cells HP4.out rfl; exact this) (by intro u hu; first | exact one_cells u hu | (rcases List.mem_append.1 hu with h | h <;> first | exact one_cells u h | exact ints_cells u h)) (by omega) (by omega) ?_; intro g4 p4 w5 ho3 hg4; have HB5 := Lib.hid (HB4.out.grown hg4 HB4.out.size (fun k e => by injection e with e; omega)); have HR5 := Lib.hid (HR4.out.of_block (hg4.block w.heap.size hlR4 (fun e => by injection e with e; omega))); have HQ5 := Lib.hid ho3; clear ho3 hg4))
                    go_roundw
                    case rel =>
                      refine ⟨i + 1, g4, p4, ?_, by go_num, hlt, HA2, Lib.hid ?_, HR5, HB5⟩
                      · first | rfl | (congr 1; omega)
                      · rw [← HZ.out]
                        exact HQ5.out.to (by omega) (by first | (simp; done) | (simp [List.drop_eq_nil_of_le (show Y.length ≤ i by omega)]; done))
                    case measure => simp [intOf]; omega
            · obtain rfl : k = 0 := by omega
              have hk0' : ¬ (0 : Int) < ((0 : Nat) : Int) := by omega
              have LO := Lib.hid (show ∀ j, j < 0 → L ((wcY L i).getD j 0) i = true from fun j j1 => absurd j1 (by omega))
              go_wp2_with fail
              go_region
              all_goals
                have HO2 := Lib.hid (HO.out.drew)
                have HR2 := Lib.hid (show wr.drew.rowIs w.heap.size 29 4 (q4 (.int .i64 p) (.int .i64 c) (.int .i64 h) (.int .i64 s)) from rowIs_drewN HR.out 1)
                have HB2 := Lib.hid (show Below w.heap.size w wr.drew from below_drewN HB.out 1)
                obtain ⟨w2, hw2⟩ : ∃ w2, w2 = wr.drew := ⟨_, rfl⟩
                rw [← hw2] at HO2 HR2 HB2 ⊢
                clear hw2
                have HZ := Lib.hid (wc_ins HL.out hki LO.out HI.out)
                have hrm := HO2.out.room
                have hge := HO2.out.ge
                have hlR := HR2.out.lt
                have hY := wcY_len HL.out i
                obtain ⟨Y, hYe⟩ : ∃ Y, wcY L i = Y := ⟨_, rfl⟩
                rw [hYe] at HZ HO2 hY
                have HYc := Lib.hid (fun (W : World) (h : Own W (w.heap.size + 1) 2 1 g cp i (Y.map (.int .i64))) (j : Nat) (hj : j < i) => (show W.cell? ⟨g, 0 + j, none⟩ = some (.int .i64 (Y.getD j 0)) by
                  obtain ⟨gg, hgg, _, _, _, hc⟩ := h.rowI.blk (by omega)
                  injection hgg with hgg
                  injection hgg with hgg
                  subst hgg
                  rw [Nat.zero_add]
                  exact (hc j hj).1))
                have hdl : (Y.drop 0).length = i - 0 := by rw [List.length_drop, hY]
                have htl : (Y.take 0).length = 0 := by rw [List.length_take, hY]; omega
                have HTK := Lib.hid (fun (W : World) (h : Own W (w.heap.size + 1) 2 1 g cp i (Y.map (.int .i64))) => (show ∀ j u, ((Y.take 0).map (Value.int .i64))[j]? = some u → W.cell? ((⟨g, 0, none⟩ : Addr).add j) = some u from fun j u hj => by
                  rw [List.getElem?_map] at hj
                  obtain ⟨x, hx, rfl⟩ := Option.map_eq_some_iff.1 hj
                  obtain ⟨hj1, hj2⟩ := List.getElem?_eq_some_iff.1 hx
                  rw [List.length_take] at hj1
                  have h2 := HYc.out W h j (by omega)
                  have e : (⟨g, 0, none⟩ : Addr).add j = ⟨g, 0 + j, none⟩ := by by_cases h0 : j = 0 <;> simp [Addr.add, h0]
                  rw [e, h2, List.getD_eq_getElem?_getD, List.getElem?_eq_getElem (by omega), ← hj2, List.getElem_take]
                  rfl))
                clear hYe
                go_wp2_with (first
                  | (at_builtin; refine app_own rfl (.tmp 54) (.tmp 57) 26 rfl (w.heap.size + 1) 2 (.int .i64 0) 1 8 Try.underlying26 info_int rfl (by omega) (by omega) w2.heap.size 1 1 [.int .i64 (i : Int)] rfl (Own.new w2 (w.heap.size + 1) 2 1 #[.int .i64 (i : Int)] 1 (by omega) (by unfold maxLen; omega) rfl) ⟨g, 0, none⟩ i cp ((Y.drop 0).map (.int .i64)) rfl (by rw [List.length_map, hdl, Nat.mul_one]; rfl) (by have := tail_news (w := w2.alloc (.cells #[.int .i64 (i : Int)] 2)) (b := g) (off := 0) (n := i) (d := 0) (k := .i64) hY (fun j hj => HYc.out _ (HO2.out.alloc _) j hj); simpa using this) (by first | exact ints_cells | (intro u hu; simp at hu)) (by omega) (by simp; omega) ?_; intro g1 p1 w3 ho1 hg1; (try simp only [Nat.add_zero, List.append_nil] at ho1); have HB3 := Lib.hid ((HB2.out.alloc HB2.out.size (.cells #[.int .i64 (i : Int)] 2)).grown hg1 (by simp; omega) (fun k e => by injection e with e; omega)); have HO3 := Lib.hid ((HO2.out.alloc (.cells #[.int .i64 (i : Int)] 2)).kept hg1 (fun e => by injection e with e; omega)); have HR3 := Lib.hid ((HR2.out.alloc (.cells #[.int .i64 (i : Int)] 2)).of_block (hg1.block w.heap.size (by simp; omega) (fun e => by injection e with e; omega))); have HP3 := Lib.hid ho1; have hge3 := ho1.ge; have hg3 := HO3.out.ge; have hlR3 := HR3.out.lt; clear ho1 hg1)
                  | (at_builtin; refine app_own rfl (.tmp 59) (.tmp 62) 26 rfl (w.heap.size + 1) 2 (.int .i64 0) 1 8 Try.underlying26 info_int rfl (by omega) (by omega) w3.heap.size 0 0 [] rfl (Own.new w3 (w.heap.size + 1) 2 1 #[] 0 (by omega) (by unfold maxLen; omega) rfl) ⟨g, 0, none⟩ 0 cp ((Y.take 0).map (.int .i64)) rfl (by rw [List.length_map, htl, Nat.mul_one]) (HTK.out _ (HO3.out.alloc _)) ints_cells (by omega) (by simp; omega) ?_; intro g2 p2 w4 ho2 hg2; (try simp only [Nat.zero_add, List.nil_append] at ho2); have HB4 := Lib.hid ((HB3.out.alloc HB3.out.size (.cells #[] 2)).grown hg2 (by simp; omega) (fun k e => by injection e with e; omega)); have HP4 := Lib.hid ((HP3.out.alloc (.cells #[] 2)).kept hg2 (fun e => by injection e with e; omega)); have HR4 := Lib.hid ((HR3.out.alloc (.cells #[] 2)).of_block (hg2.block w.heap.size (by simp; omega) (fun e => by injection e with e; omega))); have HQ4 := Lib.hid ho2; have hge4 := ho2.ge; have hge5 := HP4.out.ge; have hlR4 := HR4.out.lt; clear ho2 hg2)
                  | (at_builtin; refine app_own rfl (.tmp 63) (.tmp 64) 26 rfl (w.heap.size + 1) 2 (.int .i64 0) 1 8 Try.underlying26 info_int rfl (by omega) (by omega) g2 p2 _ _ rfl HQ4.out ⟨g1, 0, none⟩ _ p1 _ rfl HP4.out.len (by have := World.ownsRow.cells HP4.out rfl; exact this) (by intro u hu; first | exact one_cells u hu | (rcases List.mem_append.1 hu with h | h <;> first | exact one_cells u h | exact ints_cells u h)) (by omega) (by omega) ?_; intro g4 p4 w5 ho3 hg4; have HB5 := Lib.hid (HB4.out.grown hg4 HB4.out.size (fun k e => by injection e with e; omega)); have HR5 := Lib.hid (HR4.out.of_block (hg4.block w.heap.size hlR4 (fun e => by injection e with e; omega))); have HQ5 := Lib.hid ho3; clear ho3 hg4))
                go_roundw
                case rel =>
                  refine ⟨i + 1, g4, p4, ?_, by go_num, hlt, HA2, Lib.hid ?_, HR5, HB5⟩
                  · first | rfl | (congr 1; omega)
                  · rw [← HZ.out]
                    exact HQ5.out.to (by omega) (by first | (simp; done) | (simp [List.drop_eq_nil_of_le (show Y.length ≤ i by omega)]; done))
                case measure => simp [intOf]; omega
    · obtain rfl : n = i := by omega
      have hlt' : ¬ (n : Int) < (n : Int) := by omega
      have HV := Lib.hid (show wcC p c h s n xs = 0 by rw [HVC.out, HA.out]; rfl)
      go_wp2_with fail
      go_ret2
      refine .inr ⟨HV.out, _, _, rfl, ?_, HB.out⟩
      rw [HLD.out]
      exact HO.out.rowI.wide (by omega) (Nat.le_refl _)
end Go.Proofs.Ytmhmhbiihcdgiaa
