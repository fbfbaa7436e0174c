/-
  FnHits returns true for every code: the hits and the dancing rolls are no more than all rolls, and a board without contact has no hit. No condition.
-/
import Derived.Test.YtjfmpnkbocilpaaHwDr
import Derived.Deep.QuietTactic
import Derived.Deep.RegionWith
import Derived.Deep.RegionHeld3
import Derived.BigQuiet
namespace Go.Proofs.Ytjfmpnkbocilpaa
open Go.ChangeShapes Go.WideShapes Go.ChangeAt Go.RowKit Go.Joins Go.Deep
set_option linter.unusedVariables false

theorem Ints.bb {w w' : World} {k : IntKind} {a : Option Addr} {n : Nat} {xs : List Int} (h : Ints w w.heap.size k a n xs) (hb : Below w.heap.size w w') : Ints w' w'.heap.size k a n xs := (h.below hb).more hb.size

/-- what HitWeight answers -/
theorem hwV_cases {p c h s : Int} {m : Nat} {ys : List Int} {q : Nat} {zs : List Int} : (boardB p c h s m ys q zs = true ∧ okK p h ys zs (rlA s.toNat) (rlA s.toNat).length = true) ∨ ∃ z : Int, z ≠ 0 ∧ hwV p c h s m ys q zs = .tuple #[.int .i64 0, .int .i64 z] := by
  cases hv : boardB p c h s m ys q zs
  · exact .inr ⟨1, by decide, hwV_no hv⟩
  · cases hk : okK p h ys zs (rlA s.toNat) (rlA s.toNat).length
    · exact .inr ⟨3, by decide, hwV_bad hv hk⟩
    · exact .inl ⟨rfl, rfl⟩

set_option maxRecDepth 16000 in
set_option maxHeartbeats 3200000 in
theorem walk_FnHits (w : World) (ax0 : Option Addr) (nx0 cx0 : Nat) (x0 : List Int) (wx0 : IntsArg w .u8 ax0 nx0 x0) :
    Calls Try.prog 4 #[.slice ax0 nx0 cx0] w fun e w' => e = .returned (.bool true) ∧ Below w.heap.size w w' := by
  by_cases hbig : 4096 < (nx0 : Int)
  · have hd : decide (4096 < (nx0 : Int)) = true := decide_eq_true hbig
    go_enter Try.func4, Try.ntmps4
    go_wp2_with fail
    refine (big_any _ _ _ _).mono ?_
    rw [hd]
    rintro e w1 ⟨rfl, rfl⟩
    go_wp2_with fail
    go_ret
    exact ⟨rfl, Below.refl _ _⟩
  · have hd : decide (4096 < (nx0 : Int)) = false := decide_eq_false hbig
    have DR := Lib.hid (DrawHitWeight_any ax0 nx0 cx0 x0 w wx0 (by omega))
    clear wx0 hbig
    go_enter Try.func4, Try.ntmps4
    go_wp2_with fail
    refine (big_any _ _ _ _).mono ?_
    rw [hd]
    rintro e w1 ⟨rfl, rfl⟩
    go_wp2_with fail
    refine DR.out.mono ?_
    rintro e w1 ⟨p, c, h, s, A, m, d, ys, B, q, f, zs, rfl, hm, hq, hA, hB, hb⟩
    have hb0 := ((Below.refl w1.heap.size w1).alloc (Nat.le_refl _) (.cells #[.int .i64 p, .int .i64 c, .int .i64 h, .int .i64 s] 30)).alloc (by simp) (.cells #[.slice A m d, .slice B q f] 32)
    have V1 := Lib.hid ((vr4_new w1 (.int .i64 p) (.int .i64 c) (.int .i64 h) (.int .i64 s) 30).alloc (.cells #[.slice A m d, .slice B q f] 32))
    have R1 := Lib.hid (pr_new (w1.alloc (.cells #[.int .i64 p, .int .i64 c, .int .i64 h, .int .i64 s] 30)) (.slice A m d) (.slice B q f) 32)
    rw [World.size_alloc] at R1
    obtain ⟨W1, hW1⟩ : ∃ W, (w1.alloc (.cells #[.int .i64 p, .int .i64 c, .int .i64 h, .int .i64 s] 30)).alloc (.cells #[.slice A m d, .slice B q f] 32) = W := ⟨_, rfl⟩
    rw [hW1] at hb0 V1 R1
    have IA := hA.bb hb0
    have IB := hB.bb hb0
    have HB := hb.trans (hb0.mono hb.size)
    obtain ⟨bv, hbv⟩ : ∃ b, w1.heap.size = b := ⟨_, rfl⟩
    rw [hbv] at V1 R1
    have HW1 := Lib.hid hW1
    have HBV := Lib.hid hbv
    clear hA hB hb hb0 hW1 hbv hd DR
    obtain ⟨v0, v1, v2, v3⟩ := vr4_cells V1.out
    obtain ⟨b0, b1⟩ := pr_cells R1.out
    have IM := Lib.hid (impl_HitWeight_any p c h s A m d ys B q f zs _ W1 IA IB (Nat.le_refl _) (by omega) (by omega))
    go_wp2_with fail
    rw [HW1.out]
    simp only [HBV.out]
    clear HW1 HBV
    go_wp2_with fail
    rcases hwV_cases (p := p) (c := c) (h := h) (s := s) (m := m) (ys := ys) (q := q) (zs := zs) with ⟨hv, hk⟩ | ⟨z, hz, hV⟩
    · obtain ⟨P, S, rfl, rfl, p1, p24, hmP, hqP, c15, s6, hx, hy, hvr⟩ := boardB_sv IA.len IB.len hv
      have hmq : q = m := by omega
      subst hmq
      have h1 := wtK_two (g := hitF (P : Int) h ys zs) (h := dncF (P : Int) h ys zs) (l := rlA S) dance_no_hit (rlA S).length
      rw [wtK_all s6] at h1
      obtain ⟨n0, n1⟩ := wtK_bd (hitF (P : Int) h ys zs) (rlA S) (rlA S).length
      obtain ⟨d0, d1⟩ := wtK_bd (dncF (P : Int) h ys zs) (rlA S) (rlA S).length
      have hl := rlA_len6 s6
      have hC : contB P q ys q zs = false → wtK (hitF (P : Int) h ys zs) (rlA S) (rlA S).length = 0 := fun hc => hits_zero p1 IA.len IB.len hx hc
      have HV := hwV_yes hv hk
      rw [Int.toNat_natCast] at HV
      have SP := Lib.hid (fun (W : World) (i1 : Ints W W.heap.size .i64 A q ys) (i2 : Ints W W.heap.size .i64 B q zs) => spec_HitWeight_any (P : Int) c h S A q d ys B q f zs _ W i1 i2 (Nat.le_refl _) (by omega) (by omega))
      have DA := Lib.hid (fun (W : World) (i1 : Ints W W.heap.size .i64 A q ys) (i2 : Ints W W.heap.size .i64 B q zs) => DancingWeight_yes (P : Int) c h S P A q d ys B f zs _ W i1 i2 (Nat.le_refl _) hv rfl p1 p24 hmP c15 s6 hx hy hvr)
      have RT := Lib.hid (fun (W : World) => RollTotal_any (P : Int) c h S W hvr s6)
      have CO := Lib.hid (fun (W : World) (i1 : Ints W W.heap.size .i64 A q ys) (i2 : Ints W W.heap.size .i64 B q zs) => impl_IsContact_any (P : Int) c h S A q d ys B q f zs _ W i1 i2 (Nat.le_refl _) (by omega) (by omega))
      rw [HV] at IM SP
      rw [hv, Int.toNat_natCast, Bool.true_and] at CO
      obtain ⟨N, hN⟩ : ∃ x, wtK (hitF (P : Int) h ys zs) (rlA S) (rlA S).length = x := ⟨_, rfl⟩
      obtain ⟨D, hD⟩ : ∃ x, wtK (dncF (P : Int) h ys zs) (rlA S) (rlA S).length = x := ⟨_, rfl⟩
      obtain ⟨T, hT⟩ : ∃ x, (S : Int) * S = x := ⟨_, rfl⟩
      rw [hN] at IM SP h1 n0 n1 hC
      rw [hD] at DA h1 d0 d1
      rw [hT] at RT h1
      have wND : IntKind.i64.wrap (N + D) = N + D := IntWalk.i64_in _ (by omega)
      have dND : decide (N + D ≤ T) = true := decide_eq_true h1
      have nn : (N != N) = false := by simp
      obtain ⟨cb, hcb⟩ : ∃ x, contB P q ys q zs = x := ⟨_, rfl⟩
      rw [hcb] at CO hC
      have HC : cb = false → (N == 0) = true := fun h => by rw [hC h]; rfl
      clear hv hk hx hy hvr HV hN hD hT hC hcb n0 n1 d0 d1 hl c15 s6 p1 p24 hmP hqP
      refine IM.out.mono ?_
      rintro e w2 ⟨rfl, hb⟩
      have V2 := Lib.hid (rowIs_below V1.out hb V1.out.lt)
      have R2 := Lib.hid (rowIs_below R1.out hb R1.out.lt)
      replace IA := IA.bb hb
      replace IB := IB.bb hb
      replace HB := HB.trans (hb.mono HB.size)
      clear hb v0 v1 v2 v3 b0 b1 V1 R1 IM
      obtain ⟨v0, v1, v2, v3⟩ := vr4_cells V2.out
      obtain ⟨b0, b1⟩ := pr_cells R2.out
      go_wp2_with fail
      refine (SP.out w2 IA IB).mono ?_
      rintro e w3 ⟨rfl, hb⟩
      have V3 := Lib.hid (rowIs_below V2.out hb V2.out.lt)
      have R3 := Lib.hid (rowIs_below R2.out hb R2.out.lt)
      replace IA := IA.bb hb
      replace IB := IB.bb hb
      replace HB := HB.trans (hb.mono HB.size)
      clear hb v0 v1 v2 v3 b0 b1 V2 R2 SP
      obtain ⟨v0, v1, v2, v3⟩ := vr4_cells V3.out
      obtain ⟨b0, b1⟩ := pr_cells R3.out
      go_wp2_with fail
      refine (DA.out w3 IA IB).mono ?_
      rintro e w4 ⟨rfl, hb⟩
      have V4 := Lib.hid (rowIs_below V3.out hb V3.out.lt)
      have R4 := Lib.hid (rowIs_below R3.out hb R3.out.lt)
      replace IA := IA.bb hb
      replace IB := IB.bb hb
      replace HB := HB.trans (hb.mono HB.size)
      clear hb v0 v1 v2 v3 b0 b1 V3 R3 DA
      obtain ⟨v0, v1, v2, v3⟩ := vr4_cells V4.out
      obtain ⟨b0, b1⟩ := pr_cells R4.out
      go_wp2_with fail
      refine (RT.out _).mono ?_
      rintro e w5 ⟨rfl, hb⟩
      have V5 := Lib.hid (rowIs_below V4.out hb V4.out.lt)
      have R5 := Lib.hid (rowIs_below R4.out hb R4.out.lt)
      replace IA := IA.bb hb
      replace IB := IB.bb hb
      replace HB := HB.trans (hb.mono HB.size)
      clear hb v0 v1 v2 v3 b0 b1 V4 R4 RT
      obtain ⟨v0, v1, v2, v3⟩ := vr4_cells V5.out
      obtain ⟨b0, b1⟩ := pr_cells R5.out
      go_wp2_with fail
      refine (CO.out w5 IA IB).mono ?_
      rintro e w6 ⟨rfl, hb⟩
      replace HB := HB.trans (hb.mono HB.size)
      clear hb v0 v1 v2 v3 b0 b1 V5 R5 CO
      cases cb
      · have N0 := HC rfl
        go_wp2_with fail
        go_ret
        exact ⟨rfl, HB⟩
      · go_wp2_with fail
        go_ret
        exact ⟨rfl, HB⟩
    · have SP := Lib.hid (fun (W : World) (i1 : Ints W W.heap.size .i64 A m ys) (i2 : Ints W W.heap.size .i64 B q zs) => spec_HitWeight_any p c h s A m d ys B q f zs _ W i1 i2 (Nat.le_refl _) (by omega) (by omega))
      rw [hV] at IM SP
      have zz : (z != z) = false := by simp
      have z0 : (z != 0) = true := by simpa using hz
      have z1 : (z == 0) = false := by simpa using hz
      clear hV
      refine IM.out.mono ?_
      rintro e w2 ⟨rfl, hb⟩
      have V2 := Lib.hid (rowIs_below V1.out hb V1.out.lt)
      have R2 := Lib.hid (rowIs_below R1.out hb R1.out.lt)
      replace IA := IA.bb hb
      replace IB := IB.bb hb
      replace HB := HB.trans (hb.mono HB.size)
      clear hb v0 v1 v2 v3 b0 b1 V1 R1 IM
      obtain ⟨v0, v1, v2, v3⟩ := vr4_cells V2.out
      obtain ⟨b0, b1⟩ := pr_cells R2.out
      go_wp2_with fail
      refine (SP.out w2 IA IB).mono ?_
      rintro e w3 ⟨rfl, hb⟩
      replace HB := HB.trans (hb.mono HB.size)
      clear hb v0 v1 v2 v3 b0 b1 V2 R2 SP
      go_wp2_with fail
      go_ret
      exact ⟨rfl, HB⟩
namespace fnHits
set_option linter.unusedVariables false
set_option maxRecDepth 100000 in
theorem lifted (os : Os) (started : os.Started) (H : Type) (enc : TypeId × Value → H) :
    ReturnsInHanded {} Try.checked os 4 .any (Rows.fnHitsSpec.pre6 enc Try.prog Try.f4 Rows.fnHitsRow.domain false) (Rows.fnHitsSpec.post enc Try.prog Try.f4 false true false false) := by
  refine returnsInHanded_of_change (C := Try.checked) own started (by kernel_rfl) Try.func4
    (ChangeSpec.witness6 (enc := enc) (C := Try.checked) false ⟨#[], #[.slice none 0 0], []⟩ 8 (by kernel_rfl) (by kernel_rfl) (by kernel_rfl) (by kernel_rfl)) ?_
  intro W base args ds gs before hval0 hW hcnd _
  have hval : ∀ (j : Nat) t v, Try.f4.params[j]? = some t → args[j]? = some v → Value.okWide Try.prog W .any base t v := hval0
  have hW' := hW
  obtain ⟨p, q, hA0, hV, rfl, hfz, hnd⟩ := hW
  have hA : DataW.TrodAll enc Try.prog W 0 (fun _ => true) true Try.f4.params.toList args.toList ds p := hA0
  rw [Try.params4] at hA hval
  obtain ⟨v0, vs0, d0, ds0, p0, q0, hargs, rfl, rfl, h0, r0⟩ := trodAll_cons hA
  obtain ⟨rfl, rfl, rfl⟩ := trodAll_nil r0
  obtain rfl : args = #[v0] := by cases args; simp_all
  obtain ⟨rfl, rfl⟩ := trodVars_none hV
  obtain ⟨ax0, nx0, cx0, x0, rfl, wx0⟩ := open_ints_arg Try.underlying36 Try.underlying5 (by kernel_rfl) (hval 0 36 v0 rfl rfl) h0
  clear hA0 hval0
  refine (walk_FnHits W ax0 nx0 cx0 x0 wx0).mono fun e W' ⟨he, bel⟩ => ?_
  subst he
  exact ⟨_, rfl, _, _, _, [], _, [], hW', trodAll_mk1 (shut_bool Try.underlying4 _), (trodAll_cons_mk (Below.trod laidOut (by kernel_rfl) (of_decide_eq_true (by kernel_rfl)) h0 bel (lt_of_trod h0)) trodAll_mk0), rfl, bel.frame _, fun h => by cases h⟩

theorem over : Rows.fnHitsRow.holds Try.pinned (OpenSpec.ofChange Rows.fnHitsSpec) :=
  OpenClaim.holds_of_wide 4 Try.f4 rfl rfl rfl rfl rfl rfl rfl ⟨rfl, rfl, rfl, rfl, rfl⟩ rfl rfl rfl rfl rfl (by kernel_rfl) Try.func4 (by kernel_rfl)
    (of_decide_eq_true (by kernel_rfl)) (by unfold Func.isWrapper; first | (rw [if_pos (by decide +kernel)]; kernel_rfl) | (rw [if_neg (by decide +kernel)]; exact ⟨rfl, rfl⟩))
    (fun os started H enc _ => lifted os started H enc)
theorem proved : Rows.FnHitsSaid := over
#print axioms proved
end fnHits
end Go.Proofs.Ytjfmpnkbocilpaa
