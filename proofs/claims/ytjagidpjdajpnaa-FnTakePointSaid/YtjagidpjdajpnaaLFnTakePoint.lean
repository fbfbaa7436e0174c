/-
  FnTakePoint returns true for every code: at the take point, taking is worth as much as passing. No condition.
-/
import Derived.Test.YtjagidpjdajpnaaDrawTP
import Derived.Test.YtjagidpjdajpnaaTp
namespace Go.Proofs.Ytjagidpjdajpnaa
open Go.ChangeShapes Go.WideShapes Go.ChangeAt Go.RowKit
set_option linter.unusedVariables false

theorem tpV_code {a b c d e f : Int} (h : (tpV a b c d e f).2.2 ≠ 0) : (tpV a b c d e f).1 = 0 ∧ (tpV a b c d e f).2.1 = 0 := by
  unfold tpV at h ⊢
  split
  · exact ⟨rfl, rfl⟩
  · split
    · exact ⟨rfl, rfl⟩
    · split
      · exact ⟨rfl, rfl⟩
      · rename_i h1 h2 h3
        rw [if_neg h1, if_neg h2, if_neg h3] at h
        exact absurd rfl h
theorem tpA_code {a b c d e f : Int} (h : (tpA a b c d e f).2.2 ≠ 0) : (tpA a b c d e f).1 = 0 ∧ (tpA a b c d e f).2.1 = 0 := by
  cases hs : (shB a b && shB c d && shB e f)
  · rw [tpA_1 hs]; exact ⟨rfl, rfl⟩
  · rw [tpA_2 hs] at h ⊢; exact tpV_code h
theorem tpA_ok {a b c d e f : Int} (h : (tpA a b c d e f).2.2 = 0) : (shB a b = true ∧ shB c d = true ∧ shB e f = true) ∧ ¬ tpOrd a b c d e f ∧ fitsB [a, b, c, d, e, f] 3 = true ∧ loB (tpN a b c d f) (tpD b c d e f) = true ∧ tpA a b c d e f = (loN (tpN a b c d f) (tpD b c d e f), loD (tpN a b c d f) (tpD b c d e f), 0) := by
  cases hs : (shB a b && shB c d && shB e f)
  · rw [tpA_1 hs] at h; exact absurd h (by decide)
  · rw [tpA_2 hs] at h
    by_cases ho : tpOrd a b c d e f
    · rw [tpV_5 ho] at h; exact absurd h (by decide)
    · cases hf : fitsB [a, b, c, d, e, f] 3
      · rw [tpV_3 ho hf] at h; exact absurd h (by decide)
      · cases hl : loB (tpN a b c d f) (tpD b c d e f)
        · rw [tpV_4 ho hf hl] at h; exact absurd h (by decide)
        · rw [tpA_2 hs, tpV_0 ho hf hl]
          simp only [Bool.and_eq_true] at hs
          exact ⟨⟨hs.1.1, hs.1.2, hs.2⟩, ho, rfl, rfl, rfl⟩
theorem tpA_sh {a b c d e f : Int} (h : (tpA a b c d e f).2.2 = 0) : shB (tpA a b c d e f).1 (tpA a b c d e f).2.1 = true := by
  obtain ⟨⟨h1, h2, h3⟩, ho, hf, hl, he⟩ := tpA_ok h
  obtain ⟨_, _, _, _, _, _, m9, m10, m11, _⟩ := tp_facts (shOk_of h1) (shOk_of h2) (shOk_of h3) ho hf
  rw [he]
  show shB (loN _ _) (loD _ _) = true
  rw [shB_lo m9 m11 m10, hl]
theorem tpA_eq {a b c d e f N D : Int} (h : (tpA a b c d e f).2.2 = 0) (hN : (tpA a b c d e f).1 = N) (hD : (tpA a b c d e f).2.1 = D) (hb : b ≤ 100) (hd : d ≤ 100) (hf : f ≤ 100) :
    (0 ≤ a * d ∧ a * d ≤ 10000) ∧ (0 ≤ c * b ∧ c * b ≤ 10000) ∧ (0 ≤ e * d ∧ e * d ≤ 10000) ∧ (0 ≤ c * f ∧ c * f ≤ 10000) ∧ (0 ≤ a * d - c * b) ∧ (0 ≤ e * d - c * f) ∧
    (0 ≤ (a * d - c * b) * f ∧ (a * d - c * b) * f ≤ 1000000) ∧ (0 ≤ (e * d - c * f) * b ∧ (e * d - c * f) * b ≤ 1000000) ∧ (0 ≤ (a * d - c * b) * f * D ∧ (a * d - c * b) * f * D ≤ 1000000000000) ∧ (0 ≤ (e * d - c * f) * b * N ∧ (e * d - c * f) * b * N ≤ 1000000000000) ∧
    (a * d - c * b) * f * D = (e * d - c * f) * b * N := by
  obtain ⟨⟨h1, h2, h3⟩, ho, hf2, hl, he⟩ := tpA_ok h
  obtain ⟨_, _, _, _, o1, o3, m9, m10, m11, _⟩ := tp_facts (shOk_of h1) (shOk_of h2) (shOk_of h3) ho hf2
  obtain ⟨b1, b2, a1, a2, _⟩ := shB_out h1
  obtain ⟨d1, d2, c1, c2, _⟩ := shB_out h2
  obtain ⟨f1, f2, e1, e2, _⟩ := shB_out h3
  have k1 := mul_bd a1 (show a ≤ 100 by omega) (show 0 ≤ d by omega) hd
  have k2 := mul_bd c1 (show c ≤ 100 by omega) (show 0 ≤ b by omega) hb
  have k3 := mul_bd e1 (show e ≤ 100 by omega) (show 0 ≤ d by omega) hd
  have k4 := mul_bd c1 (show c ≤ 100 by omega) (show 0 ≤ f by omega) hf
  have k5 := mul_bd (x := a * d - c * b) (by omega) (show a * d - c * b ≤ 10000 by omega) (show 0 ≤ f by omega) hf
  have k6 := mul_bd (x := e * d - c * f) (by omega) (show e * d - c * f ≤ 10000 by omega) (show 0 ≤ b by omega) hb
  obtain ⟨g0, g1, g2, g3, g4, g5, g6, _⟩ := lo_facts m9 m11
  rw [he] at hN hD
  have hN' : loN (tpN a b c d f) (tpD b c d e f) = N := hN
  have hD' : loD (tpN a b c d f) (tpD b c d e f) = D := hD
  obtain ⟨G, hG⟩ : ∃ G, (Int.gcd (tpD b c d e f) (tpN a b c d f) : Int) = G := ⟨_, rfl⟩
  rw [hN', hG] at g1
  rw [hD', hG] at g2
  rw [hN'] at g3 g5
  rw [hD'] at g4 g6
  have t1 : tpN a b c d f = (a * d - c * b) * f := rfl
  have t2 : tpD b c d e f = (e * d - c * f) * b := rfl
  rw [t1] at g1 g5
  rw [t2] at g2 g6
  have k7 := mul_bd k5.1 (show (a * d - c * b) * f ≤ 1000000 by omega) (show 0 ≤ D by omega) (show D ≤ 1000000 by omega)
  have k8 := mul_bd k6.1 (show (e * d - c * f) * b ≤ 1000000 by omega) (show 0 ≤ N by omega) (show N ≤ 1000000 by omega)
  refine ⟨⟨k1.1, by omega⟩, ⟨k2.1, by omega⟩, ⟨k3.1, by omega⟩, ⟨k4.1, by omega⟩, by omega, by omega, ⟨k5.1, by omega⟩, ⟨k6.1, by omega⟩, ⟨k7.1, by omega⟩, ⟨k8.1, by omega⟩, ?_⟩
  rw [← g1, ← g2]; ac_rfl

set_option maxHeartbeats 3200000 in
theorem walk_FnTakePoint (w : World) (ax0 : Option Addr) (nx0 cx0 : Nat) (x0 : List Int) (wx0 : IntsArg w .u8 ax0 nx0 x0) :
    Calls Try.prog 8 #[.slice ax0 nx0 cx0] w fun e w' => e = .returned (.bool true) ∧ Below w.heap.size w w' := by
  by_cases hbig : 4096 < nx0
  · have hb : decide (4096 < (nx0 : Int)) = true := by simp; omega
    go_enter Try.func8, Try.ntmps8
    go_wp2_with fail
    refine (big_any _ _ _ _).mono ?_
    rintro e w1 ⟨rfl, rfl⟩
    go_wp2_with fail
    go_ret
    exact ⟨rfl, Below.refl _ _⟩
  have hb : decide (4096 < (nx0 : Int)) = false := by simp; omega
  go_enter Try.func8, Try.ntmps8
  go_wp2_with fail
  refine (big_any _ _ _ _).mono ?_
  rintro e w1 ⟨rfl, rfl⟩
  clear hb
  go_wp2_with fail
  refine (DrawTakePoint_any _ _ _ _ _ wx0 (by omega)).mono ?_
  rintro e w1 ⟨p, q, r, s, t, u, rfl, HB⟩
  have IM := Lib.hid (fun W => impl_TakePoint_any p q r s t u W)
  have SP := Lib.hid (fun W => spec_TakePoint_any p q r s t u W)
  have H1 := Lib.hid (fun h => tpA_code (a := p) (b := q) (c := r) (d := s) (e := t) (f := u) h)
  have H4 := Lib.hid (fun h => tpA_sh (a := p) (b := q) (c := r) (d := s) (e := t) (f := u) h)
  obtain ⟨N, hN⟩ : ∃ x, (tpA p q r s t u).1 = x := ⟨_, rfl⟩
  obtain ⟨D, hD⟩ : ∃ x, (tpA p q r s t u).2.1 = x := ⟨_, rfl⟩
  have H5 := Lib.hid (fun h => tpA_eq (a := p) (b := q) (c := r) (d := s) (e := t) (f := u) h hN hD)
  obtain ⟨C, hC⟩ : ∃ x, (tpA p q r s t u).2.2 = x := ⟨_, rfl⟩
  rw [hN, hD, hC] at IM SP H1 H4
  rw [hC] at H5
  clear hN hD hC
  have hcc : (C != C) = false := by simp
  go_wp2_with fail
  have R0 := Lib.hid (two_new w1 p q 23)
  replace HB := HB.alloc HB.size (.cells #[.int .i64 p, .int .i64 q] 23)
  replace R0 := Lib.hid (R0.out.alloc (.cells #[.int .i64 r, .int .i64 s] 23))
  have R1 := Lib.hid (two_new (w1.alloc (.cells #[.int .i64 p, .int .i64 q] 23)) r s 23)
  replace HB := HB.alloc HB.size (.cells #[.int .i64 r, .int .i64 s] 23)
  replace R0 := Lib.hid (R0.out.alloc (.cells #[.int .i64 t, .int .i64 u] 23))
  replace R1 := Lib.hid (R1.out.alloc (.cells #[.int .i64 t, .int .i64 u] 23))
  have R2 := Lib.hid (two_new ((w1.alloc (.cells #[.int .i64 p, .int .i64 q] 23)).alloc (.cells #[.int .i64 r, .int .i64 s] 23)) t u 23)
  replace HB := HB.alloc HB.size (.cells #[.int .i64 t, .int .i64 u] 23)
  simp only [World.size_alloc] at R1 R2
  refine (IM.out _).mono ?_
  rintro e w2 ⟨rfl, hb⟩
  have z2 := hb.size
  simp only [World.size_alloc] at z2
  replace R0 := Lib.hid (rowIs_below R0.out hb R0.out.lt)
  replace R1 := Lib.hid (rowIs_below R1.out hb R1.out.lt)
  replace R2 := Lib.hid (rowIs_below R2.out hb R2.out.lt)
  replace HB := HB.trans (hb.mono HB.size)
  clear hb
  obtain ⟨r0c10, r0c11, _, _⟩ := two_cells R0.out
  have r0c1l := R0.out.lt
  obtain ⟨r1c10, r1c11, _, _⟩ := two_cells R1.out
  have r1c1l := R1.out.lt
  obtain ⟨r2c10, r2c11, _, _⟩ := two_cells R2.out
  have r2c1l := R2.out.lt
  go_wp2_with fail
  clear r0c10 r0c11 r1c10 r1c11 r2c10 r2c11
  replace R0 := Lib.hid (R0.out.alloc (.cells #[.int .i64 N, .int .i64 D] 23))
  replace R1 := Lib.hid (R1.out.alloc (.cells #[.int .i64 N, .int .i64 D] 23))
  replace R2 := Lib.hid (R2.out.alloc (.cells #[.int .i64 N, .int .i64 D] 23))
  have R3 := Lib.hid (two_new w2 N D 23)
  replace HB := HB.alloc HB.size (.cells #[.int .i64 N, .int .i64 D] 23)
  refine (SP.out _).mono ?_
  rintro e w3 ⟨rfl, hb⟩
  have z3 := hb.size
  simp only [World.size_alloc] at z3
  replace R0 := Lib.hid (rowIs_below R0.out hb R0.out.lt)
  replace R1 := Lib.hid (rowIs_below R1.out hb R1.out.lt)
  replace R2 := Lib.hid (rowIs_below R2.out hb R2.out.lt)
  replace R3 := Lib.hid (rowIs_below R3.out hb R3.out.lt)
  replace HB := HB.trans (hb.mono HB.size)
  clear hb
  obtain ⟨r0c20, r0c21, _, _⟩ := two_cells R0.out
  have r0c2l := R0.out.lt
  obtain ⟨r1c20, r1c21, _, _⟩ := two_cells R1.out
  have r1c2l := R1.out.lt
  obtain ⟨r2c20, r2c21, _, _⟩ := two_cells R2.out
  have r2c2l := R2.out.lt
  obtain ⟨r3c20, r3c21, _, _⟩ := two_cells R3.out
  have r3c2l := R3.out.lt
  have y3 : w2.heap.size < w3.heap.size := by omega
  by_cases hC0 : C = 0
  · subst hC0
    have s3 := H4.out rfl
    have HS := Lib.hid s3
    clear s3
    go_wp2_with fail
    clear r0c20 r0c21 r1c20 r1c21 r2c20 r2c21 r3c20 r3c21
    replace R0 := Lib.hid (R0.out.alloc (.cells #[.int .i64 N, .int .i64 D] 23))
    replace R1 := Lib.hid (R1.out.alloc (.cells #[.int .i64 N, .int .i64 D] 23))
    replace R2 := Lib.hid (R2.out.alloc (.cells #[.int .i64 N, .int .i64 D] 23))
    replace R3 := Lib.hid (R3.out.alloc (.cells #[.int .i64 N, .int .i64 D] 23))
    have R4 := Lib.hid (two_new w3 N D 23)
    replace HB := HB.alloc HB.size (.cells #[.int .i64 N, .int .i64 D] 23)
    refine (spec_IsShare_any _ _ _).mono ?_
    rintro e w4 ⟨rfl, hb⟩
    rw [HS.out]
    have z4 := hb.size
    simp only [World.size_alloc] at z4
    replace R0 := Lib.hid (rowIs_below R0.out hb R0.out.lt)
    replace R1 := Lib.hid (rowIs_below R1.out hb R1.out.lt)
    replace R2 := Lib.hid (rowIs_below R2.out hb R2.out.lt)
    replace R3 := Lib.hid (rowIs_below R3.out hb R3.out.lt)
    replace R4 := Lib.hid (rowIs_below R4.out hb R4.out.lt)
    replace HB := HB.trans (hb.mono HB.size)
    clear hb
    obtain ⟨r0c30, r0c31, _, _⟩ := two_cells R0.out
    have r0c3l := R0.out.lt
    obtain ⟨r1c30, r1c31, _, _⟩ := two_cells R1.out
    have r1c3l := R1.out.lt
    obtain ⟨r2c30, r2c31, _, _⟩ := two_cells R2.out
    have r2c3l := R2.out.lt
    obtain ⟨r3c30, r3c31, _, _⟩ := two_cells R3.out
    have r3c3l := R3.out.lt
    by_cases d1 : 100 < q
    · go_wp2_with fail
      refine (spec_IsShare_any _ _ _).mono ?_
      rintro e w5 ⟨rfl, hb⟩
      rw [HS.out]
      replace HB := HB.trans (hb.mono HB.size)
      clear hb
      go_wp2_with fail
      go_ret
      exact ⟨rfl, HB⟩
    by_cases d2 : 100 < s
    · go_wp2_with fail
      refine (spec_IsShare_any _ _ _).mono ?_
      rintro e w5 ⟨rfl, hb⟩
      rw [HS.out]
      replace HB := HB.trans (hb.mono HB.size)
      clear hb
      go_wp2_with fail
      go_ret
      exact ⟨rfl, HB⟩
    by_cases d3 : 100 < u
    · go_wp2_with fail
      refine (spec_IsShare_any _ _ _).mono ?_
      rintro e w5 ⟨rfl, hb⟩
      rw [HS.out]
      replace HB := HB.trans (hb.mono HB.size)
      clear hb
      go_wp2_with fail
      go_ret
      exact ⟨rfl, HB⟩
    obtain ⟨⟨j1, j2⟩, ⟨j3, j4⟩, ⟨j5, j6⟩, ⟨j7, j8⟩, j9, j10, ⟨j11, j12⟩, ⟨j13, j14⟩, ⟨j15, j16⟩, ⟨j17, j18⟩, j19⟩ := H5.out (by first | trivial | rfl) (by omega) (by omega) (by omega)
    have J := Lib.hid j19
    clear j19
    go_wp2_with fail
    go_ret
    exact ⟨ret_bool (by symm; rw [beq_iff_eq]; exact J.out), HB⟩
  · have hC1 : (C != 0) = true := by simpa using hC0
    obtain ⟨rfl, rfl⟩ := H1.out hC0
    replace HB := HB.alloc HB.size (.cells #[.int .i64 0, .int .i64 0] 23)
    go_wp2_with fail
    go_ret
    exact ⟨rfl, HB⟩
namespace fnTakePoint
set_option linter.unusedVariables false
set_option maxRecDepth 100000 in
theorem lifted (os : Os) (started : os.Started) (H : Type) (enc : TypeId × Value → H) :
    ReturnsInHanded {} Try.checked os 8 .any (Rows.fnTakePointSpec.pre6 enc Try.prog Try.f8 Rows.fnTakePointRow.domain false) (Rows.fnTakePointSpec.post enc Try.prog Try.f8 false true false false) := by
  refine returnsInHanded_of_change (C := Try.checked) own started (by kernel_rfl) Try.func8
    (ChangeSpec.witness6 (enc := enc) (C := Try.checked) false ⟨#[], #[.slice none 0 0], []⟩ 8 (by kernel_rfl) (by kernel_rfl) (by kernel_rfl) (by kernel_rfl)) ?_
  intro W base args ds gs before hval0 hW hcnd _
  have hval : ∀ (j : Nat) t v, Try.f8.params[j]? = some t → args[j]? = some v → Value.okWide Try.prog W .any base t v := hval0
  have hW' := hW
  obtain ⟨p, q, hA0, hV, rfl, hfz, hnd⟩ := hW
  have hA : DataW.TrodAll enc Try.prog W 0 (fun _ => true) true Try.f8.params.toList args.toList ds p := hA0
  rw [Try.params8] at hA hval
  obtain ⟨v0, vs0, d0, ds0, p0, q0, hargs, rfl, rfl, h0, r0⟩ := trodAll_cons hA
  obtain ⟨rfl, rfl, rfl⟩ := trodAll_nil r0
  obtain rfl : args = #[v0] := by cases args; simp_all
  obtain ⟨rfl, rfl⟩ := trodVars_none hV
  obtain ⟨ax0, nx0, cx0, x0, rfl, wx0⟩ := open_ints_arg Try.underlying28 Try.underlying5 (by kernel_rfl) (hval 0 28 v0 rfl rfl) h0
  clear hA0 hval0
  refine (walk_FnTakePoint W ax0 nx0 cx0 x0 wx0).mono fun e W' ⟨he, bel⟩ => ?_
  subst he
  exact ⟨_, rfl, _, _, _, [], _, [], hW', trodAll_mk1 (shut_bool Try.underlying4 _), (trodAll_cons_mk (Below.trod laidOut (by kernel_rfl) (of_decide_eq_true (by kernel_rfl)) h0 bel (lt_of_trod h0)) trodAll_mk0), rfl, bel.frame _, fun h => by cases h⟩

theorem over : Rows.fnTakePointRow.holds Try.pinned (OpenSpec.ofChange Rows.fnTakePointSpec) :=
  OpenClaim.holds_of_wide 8 Try.f8 rfl rfl rfl rfl rfl rfl rfl ⟨rfl, rfl, rfl, rfl, rfl⟩ rfl rfl rfl rfl rfl (by kernel_rfl) Try.func8 (by kernel_rfl)
    (of_decide_eq_true (by kernel_rfl)) (by unfold Func.isWrapper; first | (rw [if_pos (by decide +kernel)]; kernel_rfl) | (rw [if_neg (by decide +kernel)]; exact ⟨rfl, rfl⟩))
    (fun os started H enc _ => lifted os started H enc)
theorem proved : Rows.FnTakePointSaid := over
#print axioms proved
end fnTakePoint
end Go.Proofs.Ytjagidpjdajpnaa
