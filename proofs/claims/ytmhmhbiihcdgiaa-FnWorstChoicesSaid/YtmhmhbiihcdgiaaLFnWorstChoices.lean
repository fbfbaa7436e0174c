/-
  FnWorstChoices returns true for every code: the list of errors has every index once, the greatest error first. No condition.
-/
import Derived.Test.YtmhmhbiihcdgiaaDrWc
import Derived.Test.YtmhmhbiihcdgiaaWcF
import Derived.Test.YtmhmhbiihcdgiaaHas
import Derived.RegionTactic
import Derived.BigRegion
import Derived.Deep.RegionWith
import Derived.Deep.RegionHeld3
namespace Go.Proofs.Ytmhmhbiihcdgiaa
open Go.ChangeShapes Go.WideShapes Go.ChangeAt Go.RowKit
set_option linter.unusedVariables false

theorem Ints.take {w : World} {B : Nat} {k : IntKind} {a : Option Addr} {n i : Nat} {xs : List Int} (h : Ints w B k a n xs) (hi : i ≤ n) : Ints w B k a i (xs.take i) := by
  obtain ⟨hl, hh⟩ := h
  refine ⟨by rw [List.length_take]; omega, fun h0 => ?_⟩
  obtain ⟨b, off, e, hb, hc⟩ := hh (by omega)
  refine ⟨b, off, e, hb, fun j hj => ?_⟩
  rw [hc j (by omega), List.getD_eq_getElem?_getD, List.getD_eq_getElem?_getD, List.getElem?_take, if_pos hj]
set_option maxRecDepth 16000 in
set_option maxHeartbeats 3200000 in
theorem walk_FnWorstChoices (w : World) (ax0 : Option Addr) (nx0 cx0 : Nat) (x0 : List Int) (wx0 : IntsArg w .u8 ax0 nx0 x0) :
    Calls Try.prog 4 #[.slice ax0 nx0 cx0] w fun e w' => e = .returned (.bool true) ∧ Below w.heap.size w w' := by
  by_cases hbig : 4096 < nx0
  · have hb : decide (4096 < (nx0 : Int)) = true := by simp; omega
    go_enter Try.func4, Try.ntmps4
    go_wp2_with fail
    refine (big_any _ _ _ _).mono ?_
    rintro e w1 ⟨rfl, rfl⟩
    go_wp2_with fail
    go_ret
    exact ⟨rfl, Below.refl _ _⟩
  have hb : decide (4096 < (nx0 : Int)) = false := by simp; omega
  go_enter Try.func4, Try.ntmps4
  go_wp2_with fail
  refine (big_any _ _ _ _).mono ?_
  rintro e w1 ⟨rfl, rfl⟩
  clear hb
  go_wp2_with fail
  refine (DrawWorstChoices_any _ _ _ _ _ wx0 (by omega)).mono ?_
  rintro e w1 ⟨P, C, H, S, b, m, d, ys, rfl, hm, hbl, hc, hy, HB0⟩
  have HB := Lib.hid (HB0.alloc HB0.size (.cells #[.int .i64 P, .int .i64 C, .int .i64 H, .int .i64 S] 29))
  have V1 := Lib.hid (q4_new w1 (.int .i64 P) (.int .i64 C) (.int .i64 H) (.int .i64 S) 29)
  obtain ⟨v, hv⟩ : ∃ v, w1.heap.size = v := ⟨_, rfl⟩
  rw [hv] at V1
  obtain ⟨W, hW⟩ : ∃ W, W = w1.alloc (.cells #[.int .i64 P, .int .i64 C, .int .i64 H, .int .i64 S] 29) := ⟨_, rfl⟩
  have HC := Lib.hid (show ∀ i, i < m * 2 → W.cell? ⟨b, i, none⟩ = some (.int .i64 (ys.getD i 0)) from fun i hi => by rw [hW]; exact (((Below.refl w1.heap.size w1).alloc (Nat.le_refl _) _).cell (p := ⟨b, i, none⟩) hbl).trans (hc i hi))
  have hbW : b < W.heap.size := by rw [hW]; simp; omega
  have hvW : w1.heap.size < W.heap.size := by rw [hW]; simp
  rw [← hW] at V1 HB
  have HY := Lib.hid hy
  clear hc HB0 hy
  go_wp2_with fail
  rw [← hW]
  refine ((impl_WorstChoices_cap P C H S b m d ys W hbW (by omega) HC.out HY.out).mono fun _ _ H => H.un).mono ?_
  rintro e w2 ⟨ao, co, rfl, hco, hr, hb⟩
  have hwl := wcZ_len P C H S m ys
  have F1 := Lib.hid (fun h => wcM_ok (p := P) (c := C) (h := H) (s := S) (n := m) (xs := ys) h)
  have F0 := Lib.hid (fun h => wcM_no (p := P) (c := C) (h := H) (s := S) (n := m) (xs := ys) h)
  have F2 := Lib.hid (fun h i => wc_rng (p := P) (c := C) (h := H) (s := S) (n := m) (i := i) (xs := ys) h)
  have F3 := Lib.hid (fun h i => wc_new (p := P) (c := C) (h := H) (s := S) (n := m) (i := i) (xs := ys) h)
  have F4 := Lib.hid (fun h i => wc_step (p := P) (c := C) (h := H) (s := S) (n := m) (i := i) (xs := ys) h)
  have HC2 := Lib.hid (fun i hi => (hb.cell (p := ⟨b, i, none⟩) hbW).trans (HC.out i hi))
  have V2 := Lib.hid (rowIs_below V1.out hb V1.out.lt)
  have HB2 := Lib.hid (HB.out.trans (hb.mono HB.out.size))
  have hb2 : b < w2.heap.size := by have := hb.size; omega
  obtain ⟨Z, hZ⟩ : ∃ Z, wcZ P C H S m ys = Z := ⟨_, rfl⟩
  obtain ⟨M, hM⟩ : ∃ M, wcM P C H S m ys = M := ⟨_, rfl⟩
  obtain ⟨c0, hc0⟩ : ∃ c0, wcC P C H S m ys = c0 := ⟨_, rfl⟩
  have SP := Lib.hid (fun W hbW hcW => (spec_WorstChoices_any P C H S b m d ys W hbW (by omega) hcW HY.out).mono fun _ _ H => H.un)
  rw [hZ, hM, hc0] at SP
  rw [hM] at hco
  rw [hZ, hM] at hr hwl
  rw [hM, hc0] at F0 F1
  rw [hZ, hc0] at F2 F3 F4
  rw [hM, hc0]
  have RO := Lib.hid (hr.ints hwl)
  clear hr hb HC V1 HB hZ hM hwl
  obtain ⟨v0, v1, v2, v3⟩ := q4_cells V2.out
  go_wp2_with fail
  (with_reducible refine (SP.out _ hb2 HC2.out).mono ?_)
  rintro e w3 ⟨a3, c3, rfl, _, hb⟩
  have HC3 := Lib.hid (fun i hi => (hb.cell (p := ⟨b, i, none⟩) hb2).trans (HC2.out i hi))
  have V3 := Lib.hid (rowIs_below V2.out hb V2.out.lt)
  have HB3 := Lib.hid (HB2.out.trans (hb.mono HB2.out.size))
  have hb3 : b < w3.heap.size := by have := hb.size; omega
  have RO3 := Lib.hid ((RO.out.below hb).more hb.size)
  clear hb RO HC2 V2 HB2 v0 v1 v2 v3 hc0 SP
  have hcc : (c0 != c0) = false := by simp
  by_cases h0 : c0 = 0
  · obtain rfl := F1.out h0
    replace F2 := Lib.hid (F2.out h0)
    replace F3 := Lib.hid (F3.out h0)
    replace F4 := Lib.hid (F4.out h0)
    subst h0
    clear F0 F1 hcc
    by_cases hM0 : M = 0
    · subst hM0
      clear F2 F3 F4 RO3
      go_wp2_with fail
      go_loop [9] (fun i => i = .int .i64 0) (fun _ => 0)
      case atStart => rfl
      case round =>
        subst hrel
        go_wp2_with fail
        go_ret
        exact ⟨rfl, HB3.out⟩
    obtain ⟨g, off, rfl, hg3, _⟩ := RO3.out.2 (by omega)
    go_wp2_with fail
    go_loopw [9] (fun iv wr => ∃ i : Nat, iv = .int .i64 i ∧ i ≤ M ∧ Hid (Below w3.heap.size w3 wr)) (fun iv _ => M - (intOf iv).toNat)
    case atStart => exact ⟨0, rfl, Nat.zero_le _, Lib.hid (Below.refl _ _)⟩
    case round =>
      obtain ⟨i, rfl, hi, HBW⟩ := hrel
      by_cases hlt : i < M
      · have hlt' : (i : Int) < (M : Int) := by omega
        have hltd : decide ((i : Int) < (M : Int)) = true := decide_eq_true hlt'
        have RO4 := Lib.hid ((RO3.out.below HBW.out).more HBW.out.size)
        have HC4 := Lib.hid (fun i hi => (HBW.out.cell (p := ⟨b, i, none⟩) (by show b < _; omega)).trans (HC3.out i hi))
        have V4 := Lib.hid (rowIs_below V3.out HBW.out V3.out.lt)
        have HB4 := Lib.hid (HB3.out.trans (HBW.out.mono HB3.out.size))
        have hgr : g < wr.heap.size := by have := HBW.out.size; omega
        have HI := Lib.hid (fun V (h : Ints V V.heap.size .i64 (some ⟨g, off, none⟩) i (Z.take i)) => hasInt_any (some ⟨g, off, none⟩) i co _ (Z.take i) (Z.getD i 0) V h (by omega))
        have RT := Lib.hid (RO4.out.take (i := i) (by omega))
        rw [decide_eq_false (F3.out i hlt)] at HI
        have CZ := Lib.hid (fun j (hj : j < M) => (by
          obtain ⟨g', off', e, _, h⟩ := RO4.out.2 (by omega)
          injection e with e
          injection e with e1 e2
          subst e1 e2
          exact h j hj : wr.cell? ⟨g, off + j, none⟩ = some (.int .i64 (Z.getD j 0))))
        have r1 := F2.out i hlt
        have FS := Lib.hid (fun h => F4.out i hlt h)
        have c1 := CZ.out i hlt
        obtain ⟨x, hx⟩ : ∃ x, Z.getD i 0 = x := ⟨_, rfl⟩
        rw [hx] at HI r1 FS c1
        clear hx
        obtain ⟨r10, r11⟩ := r1
        have nx0 : ¬ x < 0 := by omega
        have nxd : decide (x < 0) = false := decide_eq_false nx0
        have hic : i ≤ co := by omega
        have nxm : ¬ (M : Int) ≤ x := by omega
        have nxe : decide ((M : Int) ≤ x) = false := decide_eq_false nxm
        have RTd := Lib.hid (show Ints wr.drew wr.drew.heap.size .i64 (some ⟨g, off, none⟩) i (Z.take i) from RT.out)
        go_wp2_with fail
        go_region_held3 (fun w' => w'.cell? ⟨g, off + i, none⟩ = some (.int .i64 x)) (first | go_keep | fail)
          ((go_at_call 17; (first | (with_reducible refine (HI.out _ RTd.out).mono ?_) | (with_reducible refine (HI.out _ RT.out).mono ?_)); rintro e w4 ⟨rfl, rfl⟩))
        by_cases hi0 : i = 0
        · clear hltd hlt' c1 HI RT RTd CZ FS r10 r11 nx0 nxd nxm nxe hic
          obtain ⟨z, hz⟩ : ∃ z : Int, (i : Int) = z := ⟨_, rfl⟩
          have hz0 : z = 0 := by omega
          have hM1 : 1 ≤ M := by omega
          have HI0 := Lib.hid hi0
          rw [hz]
          clear hz hi0
          subst hz0
          go_wp2_with fail
          go_roundw
          case rel => exact ⟨1, rfl, hM1, Lib.hid (by first | exact HBW.out | exact below_drewN HBW.out _)⟩
          case measure => have hi00 := HI0.out; simp [intOf]; omega
        · obtain ⟨k, hk⟩ : ∃ k, i - 1 = k := ⟨_, rfl⟩
          have ik : (0 : Int) < (i : Int) := by omega
          have ikd : decide ((0 : Int) < (i : Int)) = true := decide_eq_true ik
          have wk : IntKind.i64.wrap ((i : Int) - 1) = (k : Int) := by rw [IntWalk.i64_in _ (by omega)]; omega
          have hkM : k < M := by omega
          obtain ⟨A, B, z, hA, hB, hAn, hBn, z0, z1, CP0⟩ := FS.out (by omega)
          rw [hk] at hA
          clear hk
          have CP := Lib.hid CP0
          have cA0 := HC4.out (A * 2) (by omega)
          have cA1 := HC4.out (A * 2 + 1) (by omega)
          have cB0 := HC4.out (B * 2) (by omega)
          have cB1 := HC4.out (B * 2 + 1) (by omega)
          have ck := CZ.out k (by omega)
          rw [hA] at ck
          subst hB
          clear CP0 hA
          obtain ⟨v0, v1, v2, v3⟩ := q4_cells V4.out
          obtain ⟨a0, ha0⟩ : ∃ x, ys.getD (A * 2) 0 = x := ⟨_, rfl⟩
          obtain ⟨a1, ha1⟩ : ∃ x, ys.getD (A * 2 + 1) 0 = x := ⟨_, rfl⟩
          obtain ⟨b0, hb0⟩ : ∃ x, ys.getD (B * 2) 0 = x := ⟨_, rfl⟩
          obtain ⟨b1, hb1⟩ : ∃ x, ys.getD (B * 2 + 1) 0 = x := ⟨_, rfl⟩
          rw [ha0] at cA0 CP
          rw [ha1] at cA1 CP
          rw [hb0] at cB0 CP
          rw [hb1] at cB1 CP
          clear ha0 ha1 hb0 hb1
          have hAi : (A : Int) < (M : Int) := by omega
          have hBi : (B : Int) < (M : Int) := by omega
          have hki : (k : Int) < (M : Int) := by omega
          have hvr := V4.out.lt
          have hbr : b < wr.heap.size := by have := HBW.out.size; omega
          have KP := Lib.hid (fun V (h : Below wr.heap.size wr V) => show V.cell? ⟨v, 0, none⟩ = some (.int .i64 P) ∧ V.cell? ⟨v, 1, none⟩ = some (.int .i64 C) ∧ V.cell? ⟨v, 2, none⟩ = some (.int .i64 H) ∧ V.cell? ⟨v, 3, none⟩ = some (.int .i64 S) ∧ V.cell? ⟨g, off + k, none⟩ = some (.int .i64 A) ∧ V.cell? ⟨g, off + i, none⟩ = some (.int .i64 B) ∧ V.cell? ⟨b, A * 2, none⟩ = some (.int .i64 a0) ∧ V.cell? ⟨b, A * 2 + 1, none⟩ = some (.int .i64 a1) ∧ V.cell? ⟨b, B * 2, none⟩ = some (.int .i64 b0) ∧ V.cell? ⟨b, B * 2 + 1, none⟩ = some (.int .i64 b1) from
            ⟨(h.cell (p := ⟨v, 0, none⟩) hvr).trans v0, (h.cell (p := ⟨v, 1, none⟩) hvr).trans v1, (h.cell (p := ⟨v, 2, none⟩) hvr).trans v2, (h.cell (p := ⟨v, 3, none⟩) hvr).trans v3, (h.cell (p := ⟨g, off + k, none⟩) hgr).trans ck, (h.cell (p := ⟨g, off + i, none⟩) hgr).trans c1, (h.cell (p := ⟨b, A * 2, none⟩) hbr).trans cA0, (h.cell (p := ⟨b, A * 2 + 1, none⟩) hbr).trans cA1, (h.cell (p := ⟨b, B * 2, none⟩) hbr).trans cB0, (h.cell (p := ⟨b, B * 2 + 1, none⟩) hbr).trans cB1⟩)
          clear RT RTd HI nxd nxe ikd CZ FS
          go_wp2_with fail
          go_region_held3 (fun w' => w'.cell? ⟨v, 0, none⟩ = some (.int .i64 P) ∧ w'.cell? ⟨v, 1, none⟩ = some (.int .i64 C) ∧ w'.cell? ⟨v, 2, none⟩ = some (.int .i64 H) ∧ w'.cell? ⟨v, 3, none⟩ = some (.int .i64 S) ∧ w'.cell? ⟨g, off + k, none⟩ = some (.int .i64 A) ∧ w'.cell? ⟨g, off + i, none⟩ = some (.int .i64 B) ∧ w'.cell? ⟨b, A * 2, none⟩ = some (.int .i64 a0) ∧ w'.cell? ⟨b, A * 2 + 1, none⟩ = some (.int .i64 a1) ∧ w'.cell? ⟨b, B * 2, none⟩ = some (.int .i64 b0) ∧ w'.cell? ⟨b, B * 2 + 1, none⟩ = some (.int .i64 b1)) (first | (with_reducible exact KW.out) | go_keep)
            ((go_at_call 18; (with_reducible refine (CP.out _).mono ?_); rintro e w4 ⟨rfl, hb4⟩; have HB5 := Lib.hid (show Below wr.heap.size wr w4 from (by first | exact hb4 | exact (Below.refl wr.heap.size wr).drew.trans hb4 | exact ((Below.refl wr.heap.size wr).drew.drew).trans hb4)); have KW := Lib.hid (KP.out w4 HB5.out)))
          obtain ⟨_, _, _, _, ck5, ci5, _, _, _, _⟩ := KW.out
          have HB6 := Lib.hid (HBW.out.trans (HB5.out.mono HBW.out.size))
          clear v0 v1 v2 v3 c1 ck cA0 cA1 cB0 cB1 KW KP CP
          rcases z0 with hz | hz
          · have hAB := z1 hz
            have hBA : ¬ (B : Int) < (A : Int) := by omega
            have hBAd : decide ((B : Int) < (A : Int)) = false := decide_eq_false hBA
            clear z1
            subst hz
            go_wp2_with fail
            go_region_held3 (fun w' => w'.cell? ⟨g, off + k, none⟩ = some (.int .i64 A) ∧ w'.cell? ⟨g, off + i, none⟩ = some (.int .i64 B)) (first | go_keep | fail) ((fail))
            all_goals
              go_wp2_with fail
              go_roundw
              case rel => exact ⟨i + 1, by go_num, by omega, Lib.hid (by first | exact HB6.out | exact below_drewN HB6.out _)⟩
              case measure => simp [intOf]; omega
          · clear z1
            subst hz
            go_wp2_with fail
            (first | go_region | go_big_region)
            all_goals
              (try go_wp2_with fail)
              go_roundw
              case rel => exact ⟨i + 1, by go_num, by omega, Lib.hid (by first | exact HB6.out | exact below_drewN HB6.out _)⟩
              case measure => simp [intOf]; omega
      · obtain rfl : i = M := by omega
        go_wp2_with fail
        go_ret
        exact ⟨rfl, (HB3.out.trans (HBW.out.mono HB3.out.size))⟩
  · have n0 : (c0 == 0) = false := by simpa using h0
    obtain rfl := F0.out h0
    clear F0 F1 F2 F3 F4 RO3
    go_wp2_with fail
    go_loop [9] (fun i => i = .int .i64 0) (fun _ => 0)
    case atStart => rfl
    case round =>
      subst hrel
      go_wp2_with fail
      go_ret
      exact ⟨rfl, HB3.out⟩
namespace fnWorstChoices
set_option linter.unusedVariables false
set_option maxRecDepth 100000 in
theorem lifted (os : Os) (started : os.Started) (H : Type) (enc : TypeId × Value → H) :
    ReturnsInHanded {} Try.checked os 4 .any (Rows.fnWorstChoicesSpec.pre6 enc Try.prog Try.f4 Rows.fnWorstChoicesRow.domain false) (Rows.fnWorstChoicesSpec.post enc Try.prog Try.f4 false true false false) := by
  refine returnsInHanded_of_change (C := Try.checked) own started (by kernel_rfl) Try.func4
    (ChangeSpec.witness6 (enc := enc) (C := Try.checked) false ⟨#[], #[.slice none 0 0], []⟩ 8 (by kernel_rfl) (by kernel_rfl) (by kernel_rfl) (by kernel_rfl)) ?_
  intro W base args ds gs before hval0 hW hcnd _
  have hval : ∀ (j : Nat) t v, Try.f4.params[j]? = some t → args[j]? = some v → Value.okWide Try.prog W .any base t v := hval0
  have hW' := hW
  obtain ⟨p, q, hA0, hV, rfl, hfz, hnd⟩ := hW
  have hA : DataW.TrodAll enc Try.prog W 0 (fun _ => true) true Try.f4.params.toList args.toList ds p := hA0
  rw [Try.params4] at hA hval
  obtain ⟨v0, vs0, d0, ds0, p0, q0, hargs, rfl, rfl, h0, r0⟩ := trodAll_cons hA
  obtain ⟨rfl, rfl, rfl⟩ := trodAll_nil r0
  obtain rfl : args = #[v0] := by cases args; simp_all
  obtain ⟨rfl, rfl⟩ := trodVars_none hV
  obtain ⟨ax0, nx0, cx0, x0, rfl, wx0⟩ := open_ints_arg Try.underlying38 Try.underlying5 (by kernel_rfl) (hval 0 38 v0 rfl rfl) h0
  clear hA0 hval0
  refine (walk_FnWorstChoices W ax0 nx0 cx0 x0 wx0).mono fun e W' ⟨he, bel⟩ => ?_
  subst he
  exact ⟨_, rfl, _, _, _, [], _, [], hW', trodAll_mk1 (shut_bool Try.underlying4 _), (trodAll_cons_mk (Below.trod laidOut (by kernel_rfl) (of_decide_eq_true (by kernel_rfl)) h0 bel (lt_of_trod h0)) trodAll_mk0), rfl, bel.frame _, fun h => by cases h⟩

theorem over : Rows.fnWorstChoicesRow.holds Try.pinned (OpenSpec.ofChange Rows.fnWorstChoicesSpec) :=
  OpenClaim.holds_of_wide 4 Try.f4 rfl rfl rfl rfl rfl rfl rfl ⟨rfl, rfl, rfl, rfl, rfl⟩ rfl rfl rfl rfl rfl (by kernel_rfl) Try.func4 (by kernel_rfl)
    (of_decide_eq_true (by kernel_rfl)) (by unfold Func.isWrapper; first | (rw [if_pos (by decide +kernel)]; kernel_rfl) | (rw [if_neg (by decide +kernel)]; exact ⟨rfl, rfl⟩))
    (fun os started H enc _ => lifted os started H enc)
theorem proved : Rows.FnWorstChoicesSaid := over
#print axioms proved
end fnWorstChoices
end Go.Proofs.Ytmhmhbiihcdgiaa
