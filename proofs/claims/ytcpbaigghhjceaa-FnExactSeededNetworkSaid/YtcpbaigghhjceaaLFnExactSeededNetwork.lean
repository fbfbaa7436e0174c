/-
  FnExactSeededNetwork returns true for all arguments: SeededNetwork of the program and of the reference agree in the network, the seed that remains and the flag, and the network is new memory. No condition.
-/
import Derived.Test.YtcpbaigghhjceaaSdM
import Derived.StillTailTactics
import Derived.RegionTactic
import Derived.BigRegion
import Derived.Deep.RegionWith
import Derived.Deep.RegionHeld3
namespace Go.Proofs.Ytcpbaigghhjceaa
open Go.ChangeShapes Go.WideShapes Go.ChangeAt Go.RowKit
set_option linter.unusedVariables false

set_option maxHeartbeats 3200000 in
theorem walk_FnExactSeededNetwork (w : World) (x0 : Int) (wx0 : (Lit.int .i64 x0).wf = true) (x1 : Int) (wx1 : (Lit.int .i64 x1).wf = true) (x2 : Int) (wx2 : (Lit.int .i64 x2).wf = true) :
    Calls Try.prog 4 #[.int .i64 x0, .int .i64 x1, .int .i64 x2] w fun e w' => e = .returned (.bool true) ∧ Below w.heap.size w w' := by
  obtain ⟨i, h, n, xs, m, ys, S, b, el, em, hn, hm, hspec, himpl⟩ := sd_both x0 x1 x2
  have hbb : (b != b) = false := by cases b <;> rfl
  have hbq : (b == b) = true := by cases b <;> rfl
  have EL := Lib.hid el
  have EM := Lib.hid em
  have hspec := Lib.hid hspec
  have himpl := Lib.hid himpl
  clear el em
  have HB := Below.refl w.heap.size w
  go_enter Try.func4, Try.ntmps4
  go_wp2_with fail
  refine (hspec.out _).mono ?_
  rintro e w1 ⟨a1, c1, b1, d1, l1, u1, p1, q1, rfl, hr1, hs1, hl1, hp1, hu1, hq1, hd1, hb⟩
  have z1 := hb.size
  replace HB := HB.trans (hb.mono HB.size)
  clear hb
  go_wp2_with fail
  have hb := (Below.refl w1.heap.size w1).alloc (Nat.le_refl _) (.cells #[.int .i64 i, .int .i64 h, .slice a1 n c1, .slice b1 m d1] 27)
  have hq := four_new w1 (.int .i64 i) (.int .i64 h) (.slice a1 n c1) (.slice b1 m d1) 27
  obtain ⟨w2, hw2⟩ : ∃ x, x = (w1.alloc (.cells #[.int .i64 i, .int .i64 h, .slice a1 n c1, .slice b1 m d1] 27)) := ⟨_, rfl⟩
  rw [← hw2] at hb hq
  have z2 : w1.heap.size + 1 = w2.heap.size := by rw [hw2]; simp
  replace hr1 := hr1.below hb
  replace hs1 := hs1.below hb
  replace HB := HB.trans (hb.mono HB.size)
  have HN1 := Lib.hid hq
  rw [← hw2]
  clear hb hq hw2
  refine (himpl.out _).mono ?_
  rintro e w3 ⟨a2, c2, b2, d2, l2, u2, p2, q2, rfl, hr2, hs2, hl2, hp2, hu2, hq2, hd2, hb⟩
  have z3 := hb.size
  replace hr1 := hr1.below hb
  replace hs1 := hs1.below hb
  replace HN1 := Lib.hid (rowIs_below HN1.out hb HN1.out.lt)
  replace HB := HB.trans (hb.mono HB.size)
  clear hb
  obtain ⟨v10, v11, v12, v13⟩ := four_cells HN1.out
  have y1 : w1.heap.size < w3.heap.size := by omega
  go_wp2_with fail
  clear v10 v11 v12 v13
  have hb := (Below.refl w3.heap.size w3).alloc (Nat.le_refl _) (.cells #[.int .i64 i, .int .i64 h, .slice a2 n c2, .slice b2 m d2] 27)
  have hq := four_new w3 (.int .i64 i) (.int .i64 h) (.slice a2 n c2) (.slice b2 m d2) 27
  obtain ⟨w4, hw4⟩ : ∃ x, x = (w3.alloc (.cells #[.int .i64 i, .int .i64 h, .slice a2 n c2, .slice b2 m d2] 27)) := ⟨_, rfl⟩
  rw [← hw4] at hb hq
  have z4 : w3.heap.size + 1 = w4.heap.size := by rw [hw4]; simp
  replace hr1 := hr1.below hb
  replace hs1 := hs1.below hb
  replace HN1 := Lib.hid (rowIs_below HN1.out hb HN1.out.lt)
  replace hr2 := hr2.below hb
  replace hs2 := hs2.below hb
  replace HB := HB.trans (hb.mono HB.size)
  have HN2 := Lib.hid hq
  rw [← hw4]
  clear hb hq hw4
  refine (eqNetwork_same _ _ _ _ _ _ _ _ _ _ _ _ _ _ _ (hr2.ints EL.out) (hr1.ints EL.out) (hs2.ints EM.out) (hs1.ints EM.out) hn hm).mono ?_
  rintro e w5 ⟨rfl, hb⟩
  have z5 := hb.size
  replace hr1 := hr1.below hb
  replace hs1 := hs1.below hb
  replace HN1 := Lib.hid (rowIs_below HN1.out hb HN1.out.lt)
  replace hr2 := hr2.below hb
  replace hs2 := hs2.below hb
  replace HN2 := Lib.hid (rowIs_below HN2.out hb HN2.out.lt)
  replace HB := HB.trans (hb.mono HB.size)
  clear hb
  obtain ⟨v20, v21, v22, v23⟩ := four_cells HN2.out
  go_wp2_with fail
  clear v20 v21 v22 v23
  refine (markNetwork_any _ _ _ _ _ _ _ _ _ _ _ _ _ _ _ _ _ hr2 hs2 (by omega) (by omega) (by omega) (by omega) hn hm).mono ?_
  rintro e w6 ⟨rfl, hm1, hm2, ho⟩
  have z6 := ho.size
  replace hr1 := Out2.rowN hr1 ho (by omega) (by omega)
  replace hs1 := Out2.rowN hs1 ho (by omega) (by omega)
  replace HN1 := Lib.hid (Out2.row HN1.out ho (by omega) (by omega))
  replace HN2 := Lib.hid (Out2.row HN2.out ho (by omega) (by omega))
  replace HB := Out2.below HB ho (by omega) (by omega)
  replace hr2 := hm1
  replace hs2 := hm2
  clear ho hm1 hm2
  obtain ⟨v20, v21, v22, v23⟩ := four_cells HN2.out
  go_wp2_with fail
  clear v20 v21 v22 v23
  refine (heldNetwork_any _ _ _ _ _ _ _ _ _ _ _ _ _ _ _ hr2 hs2 (by omega) (by omega) hn hm).mono ?_
  rintro e w7 ⟨rfl, hb⟩
  have z7 := hb.size
  replace hr1 := hr1.below hb
  replace hs1 := hs1.below hb
  replace HN1 := Lib.hid (rowIs_below HN1.out hb HN1.out.lt)
  replace hr2 := hr2.below hb
  replace hs2 := hs2.below hb
  replace HN2 := Lib.hid (rowIs_below HN2.out hb HN2.out.lt)
  replace HB := HB.trans (hb.mono HB.size)
  clear hb
  have dd : decide (1 + (n : Int) + (m : Int) < 0) = false := by simp; omega
  go_wp2_with fail
  refine (himpl.out _).mono ?_
  rintro e w8 ⟨a3, c3, b3, d3, l3, u3, p3, q3, rfl, hr3, hs3, hl3, hp3, hu3, hq3, hd3, hb⟩
  have z8 := hb.size
  replace hr1 := hr1.below hb
  replace hs1 := hs1.below hb
  replace HN1 := Lib.hid (rowIs_below HN1.out hb HN1.out.lt)
  replace hr2 := hr2.below hb
  replace hs2 := hs2.below hb
  replace HN2 := Lib.hid (rowIs_below HN2.out hb HN2.out.lt)
  replace HB := HB.trans (hb.mono HB.size)
  clear hb
  obtain ⟨v10, v11, v12, v13⟩ := four_cells HN1.out
  have y2 : w1.heap.size < w8.heap.size := by omega
  go_wp2_with fail
  clear v10 v11 v12 v13
  have hb := (Below.refl w8.heap.size w8).alloc (Nat.le_refl _) (.cells #[.int .i64 i, .int .i64 h, .slice a3 n c3, .slice b3 m d3] 27)
  have hq := four_new w8 (.int .i64 i) (.int .i64 h) (.slice a3 n c3) (.slice b3 m d3) 27
  obtain ⟨w9, hw9⟩ : ∃ x, x = (w8.alloc (.cells #[.int .i64 i, .int .i64 h, .slice a3 n c3, .slice b3 m d3] 27)) := ⟨_, rfl⟩
  rw [← hw9] at hb hq
  have z9 : w8.heap.size + 1 = w9.heap.size := by rw [hw9]; simp
  replace hr1 := hr1.below hb
  replace hs1 := hs1.below hb
  replace HN1 := Lib.hid (rowIs_below HN1.out hb HN1.out.lt)
  replace hr2 := hr2.below hb
  replace hs2 := hs2.below hb
  replace HN2 := Lib.hid (rowIs_below HN2.out hb HN2.out.lt)
  replace hr3 := hr3.below hb
  replace hs3 := hs3.below hb
  replace HB := HB.trans (hb.mono HB.size)
  have HN3 := Lib.hid hq
  rw [← hw9]
  clear hb hq hw9
  refine (eqNetwork_same _ _ _ _ _ _ _ _ _ _ _ _ _ _ _ (hr3.ints EL.out) (hr1.ints EL.out) (hs3.ints EM.out) (hs1.ints EM.out) hn hm).mono ?_
  rintro e w10 ⟨rfl, hb⟩
  have z10 := hb.size
  replace hr1 := hr1.below hb
  replace hs1 := hs1.below hb
  replace HN1 := Lib.hid (rowIs_below HN1.out hb HN1.out.lt)
  replace hr2 := hr2.below hb
  replace hs2 := hs2.below hb
  replace HN2 := Lib.hid (rowIs_below HN2.out hb HN2.out.lt)
  replace hr3 := hr3.below hb
  replace hs3 := hs3.below hb
  replace HN3 := Lib.hid (rowIs_below HN3.out hb HN3.out.lt)
  replace HB := HB.trans (hb.mono HB.size)
  clear hb
  obtain ⟨v20, v21, v22, v23⟩ := four_cells HN2.out
  go_wp2_with fail
  clear v20 v21 v22 v23
  refine (heldNetwork_any _ _ _ _ _ _ _ _ _ _ _ _ _ _ _ hr2 hs2 (by omega) (by omega) hn hm).mono ?_
  rintro e w11 ⟨rfl, hb⟩
  have z11 := hb.size
  replace hr1 := hr1.below hb
  replace hs1 := hs1.below hb
  replace HN1 := Lib.hid (rowIs_below HN1.out hb HN1.out.lt)
  replace hr2 := hr2.below hb
  replace hs2 := hs2.below hb
  replace HN2 := Lib.hid (rowIs_below HN2.out hb HN2.out.lt)
  replace hr3 := hr3.below hb
  replace hs3 := hs3.below hb
  replace HN3 := Lib.hid (rowIs_below HN3.out hb HN3.out.lt)
  replace HB := HB.trans (hb.mono HB.size)
  clear hb
  go_wp2_with fail
  go_ret
  exact ⟨rfl, HB⟩
namespace fnExactSeededNetwork
set_option linter.unusedVariables false
set_option maxRecDepth 100000 in
theorem lifted (os : Os) (started : os.Started) (H : Type) (enc : TypeId × Value → H) :
    ReturnsInHanded {} Try.checked os 4 .any (Rows.fnExactSeededNetworkSpec.pre6 enc Try.prog Try.f4 Rows.fnExactSeededNetworkRow.domain false) (Rows.fnExactSeededNetworkSpec.post enc Try.prog Try.f4 false true false false) := by
  refine returnsInHanded_of_change (C := Try.checked) own started (by kernel_rfl) Try.func4
    (ChangeSpec.witness6 (enc := enc) (C := Try.checked) false ⟨#[], #[.int .i64 0, .int .i64 0, .int .i64 0], []⟩ 8 (by kernel_rfl) (by kernel_rfl) (by kernel_rfl) (by kernel_rfl)) ?_
  intro W base args ds gs before hval0 hW hcnd _
  have hval : ∀ (j : Nat) t v, Try.f4.params[j]? = some t → args[j]? = some v → Value.okWide Try.prog W .any base t v := hval0
  have hW' := hW
  obtain ⟨p, q, hA0, hV, rfl, hfz, hnd⟩ := hW
  have hA : DataW.TrodAll enc Try.prog W 0 (fun _ => true) true Try.f4.params.toList args.toList ds p := hA0
  rw [Try.params4] at hA hval
  obtain ⟨v0, vs0, d0, ds0, p0, q0, hargs, rfl, rfl, h0, r0⟩ := trodAll_cons hA
  obtain ⟨v1, vs1, d1, ds1, p1, q1, rfl, rfl, rfl, h1, r1⟩ := trodAll_cons r0
  obtain ⟨v2, vs2, d2, ds2, p2, q2, rfl, rfl, rfl, h2, r2⟩ := trodAll_cons r1
  obtain ⟨rfl, rfl, rfl⟩ := trodAll_nil r2
  obtain rfl : args = #[v0, v1, v2] := by cases args; simp_all
  obtain ⟨rfl, rfl⟩ := trodVars_none hV
  obtain ⟨x0, rfl, _, _, wx0⟩ := open_int Try.underlying2 (hval 0 2 v0 rfl rfl) h0
  obtain ⟨x1, rfl, _, _, wx1⟩ := open_int Try.underlying2 (hval 1 2 v1 rfl rfl) h1
  obtain ⟨x2, rfl, _, _, wx2⟩ := open_int Try.underlying2 (hval 2 2 v2 rfl rfl) h2
  clear hA0 hval0
  refine (walk_FnExactSeededNetwork W x0 wx0 x1 wx1 x2 wx2).mono fun e W' ⟨he, bel⟩ => ?_
  subst he
  exact ⟨_, rfl, _, _, _, [], _, [], hW', trodAll_mk1 (shut_bool Try.underlying4 _), (trodAll_cons_mk (Below.trod laidOut (by kernel_rfl) (of_decide_eq_true (by kernel_rfl)) h0 bel (lt_of_trod h0)) (trodAll_cons_mk (Below.trod laidOut (by kernel_rfl) (of_decide_eq_true (by kernel_rfl)) h1 bel (lt_of_trod h1)) (trodAll_cons_mk (Below.trod laidOut (by kernel_rfl) (of_decide_eq_true (by kernel_rfl)) h2 bel (lt_of_trod h2)) trodAll_mk0))), rfl, bel.frame _, fun h => by cases h⟩

theorem over : Rows.fnExactSeededNetworkRow.holds Try.pinned (OpenSpec.ofChange Rows.fnExactSeededNetworkSpec) :=
  OpenClaim.holds_of_wide 4 Try.f4 rfl rfl rfl rfl rfl rfl rfl ⟨rfl, rfl, rfl, rfl, rfl⟩ rfl rfl rfl rfl rfl (by kernel_rfl) Try.func4 (by kernel_rfl)
    (of_decide_eq_true (by kernel_rfl)) (by unfold Func.isWrapper; first | (rw [if_pos (by decide +kernel)]; kernel_rfl) | (rw [if_neg (by decide +kernel)]; exact ⟨rfl, rfl⟩))
    (fun os started H enc _ => lifted os started H enc)
theorem proved : Rows.FnExactSeededNetworkSaid := over
#print axioms proved
end fnExactSeededNetwork
end Go.Proofs.Ytcpbaigghhjceaa
