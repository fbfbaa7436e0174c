/-
  FnSeeded returns true for every code: a seeded network is valid, and equal seeds yield equal networks and remaining seeds. No condition.
-/
import Derived.Test.YtcpbaigghhjceaaSdM
import Derived.Test.YtcpbaigghhjceaaDrawS
import Derived.Test.YtcpbaigghhjceaaDig
import Derived.StillTailTactics
import Derived.RegionTactic
import Derived.BigRegion
import Derived.Deep.RegionWith
import Derived.Deep.RegionHeld3
namespace Go.Proofs.Ytcpbaigghhjceaa
open Go.ChangeShapes Go.WideShapes Go.ChangeAt Go.RowKit
set_option linter.unusedVariables false

set_option maxHeartbeats 3200000 in
theorem walk_FnSeeded (w : World) (ax0 : Option Addr) (nx0 cx0 : Nat) (x0 : List Int) (wx0 : IntsArg w .u8 ax0 nx0 x0) :
    Calls Try.prog 6 #[.slice ax0 nx0 cx0] w fun e w' => e = .returned (.bool true) ∧ Below w.heap.size w w' := by
  by_cases hbig : 4096 < nx0
  · have hb : decide (4096 < (nx0 : Int)) = true := by simp; omega
    go_enter Try.func6, Try.ntmps6
    go_wp2_with fail
    refine (big_any _ _ _ _).mono ?_
    rintro e w1 ⟨rfl, rfl⟩
    go_wp2_with fail
    go_ret
    exact ⟨rfl, Below.refl _ _⟩
  have hb : decide (4096 < (nx0 : Int)) = false := by simp; omega
  have HB := Below.refl w.heap.size w
  go_enter Try.func6, Try.ntmps6
  go_wp2_with fail
  refine (big_any _ _ _ _).mono ?_
  rintro e w1 ⟨rfl, rfl⟩
  go_wp2_with fail
  refine (DrawSeededNetwork_any _ _ _ _ _ wx0 (by omega)).mono ?_
  rintro e w1 ⟨u, v, t, rfl, hb⟩
  have z1 := hb.size
  replace HB := HB.trans (hb.mono HB.size)
  clear hb
  obtain ⟨i, h, n, xs, m, ys, S, b, el, em, hn, hm, hspec, himpl, hor⟩ := sd_both2 u v t
  have hbb : (b != b) = false := by cases b <;> rfl
  have hSS : (S != S) = false := by simp
  have EL := Lib.hid el
  have EM := Lib.hid em
  have hspec := Lib.hid hspec
  have himpl := Lib.hid himpl
  have hOR := Lib.hid hor
  clear el em hor
  go_wp2_with fail
  refine (himpl.out _).mono ?_
  rintro e w2 ⟨a1, c1, b1, d1, l1, u1, p1, q1, rfl, hr1, hs1, hl1, hp1, hu1, hq1, hd1, hb⟩
  have z2 := hb.size
  replace HB := HB.trans (hb.mono HB.size)
  clear hb
  go_wp2_with fail
  have hb := (Below.refl w2.heap.size w2).alloc (Nat.le_refl _) (.cells #[.int .i64 i, .int .i64 h, .slice a1 n c1, .slice b1 m d1] 27)
  have hq := four_new w2 (.int .i64 i) (.int .i64 h) (.slice a1 n c1) (.slice b1 m d1) 27
  obtain ⟨w3, hw3⟩ : ∃ x, x = (w2.alloc (.cells #[.int .i64 i, .int .i64 h, .slice a1 n c1, .slice b1 m d1] 27)) := ⟨_, rfl⟩
  rw [← hw3] at hb hq
  have z3 : w2.heap.size + 1 = w3.heap.size := by rw [hw3]; simp
  replace hr1 := hr1.below hb
  replace hs1 := hs1.below hb
  replace HB := HB.trans (hb.mono HB.size)
  have HN1 := Lib.hid hq
  rw [← hw3]
  clear hb hq hw3
  refine (hspec.out _).mono ?_
  rintro e w4 ⟨a2, c2, b2, d2, l2, u2, p2, q2, rfl, hr2, hs2, hl2, hp2, hu2, hq2, hd2, hb⟩
  have z4 := hb.size
  replace hr1 := hr1.below hb
  replace hs1 := hs1.below hb
  replace HN1 := Lib.hid (rowIs_below HN1.out hb HN1.out.lt)
  replace HB := HB.trans (hb.mono HB.size)
  clear hb
  rcases hOR.out with ⟨rfl, rfl⟩ | ⟨rfl, hnb⟩
  · obtain ⟨v10, v11, v12, v13⟩ := four_cells HN1.out
    have y1 : w2.heap.size < w4.heap.size := by omega
    go_wp2_with fail
    go_ret
    exact ⟨rfl, HB.alloc HB.size _⟩
  · have HN := Lib.hid (show netB i h n xs m ys = true from hnb)
    clear hnb
    obtain ⟨v10, v11, v12, v13⟩ := four_cells HN1.out
    go_wp2_with fail
    clear v10 v11 v12 v13
    have hb := (Below.refl w4.heap.size w4).alloc (Nat.le_refl _) (.cells #[.int .i64 i, .int .i64 h, .slice a2 n c2, .slice b2 m d2] 27)
    have hq := four_new w4 (.int .i64 i) (.int .i64 h) (.slice a2 n c2) (.slice b2 m d2) 27
    obtain ⟨w5, hw5⟩ : ∃ x, x = (w4.alloc (.cells #[.int .i64 i, .int .i64 h, .slice a2 n c2, .slice b2 m d2] 27)) := ⟨_, rfl⟩
    rw [← hw5] at hb hq
    have z5 : w4.heap.size + 1 = w5.heap.size := by rw [hw5]; simp
    replace hr1 := hr1.below hb
    replace hs1 := hs1.below hb
    replace HN1 := Lib.hid (rowIs_below HN1.out hb HN1.out.lt)
    replace hr2 := hr2.below hb
    replace hs2 := hs2.below hb
    replace HB := HB.trans (hb.mono HB.size)
    have HN2 := Lib.hid hq
    rw [← hw5]
    clear hb hq hw5
    refine (himpl.out _).mono ?_
    rintro e w6 ⟨a3, c3, b3, d3, l3, u3, p3, q3, rfl, hr3, hs3, hl3, hp3, hu3, hq3, hd3, hb⟩
    have z6 := hb.size
    replace hr1 := hr1.below hb
    replace hs1 := hs1.below hb
    replace HN1 := Lib.hid (rowIs_below HN1.out hb HN1.out.lt)
    replace hr2 := hr2.below hb
    replace hs2 := hs2.below hb
    replace HN2 := Lib.hid (rowIs_below HN2.out hb HN2.out.lt)
    replace HB := HB.trans (hb.mono HB.size)
    clear hb
    obtain ⟨v10, v11, v12, v13⟩ := four_cells HN1.out
    have y1 : w2.heap.size < w6.heap.size := by omega
    go_wp2_with fail
    have hb := (Below.refl w6.heap.size w6).alloc (Nat.le_refl _) (.cells #[.int .i64 i, .int .i64 h, .slice a3 n c3, .slice b3 m d3] 27)
    have hq := four_new w6 (.int .i64 i) (.int .i64 h) (.slice a3 n c3) (.slice b3 m d3) 27
    obtain ⟨w7, hw7⟩ : ∃ x, x = (w6.alloc (.cells #[.int .i64 i, .int .i64 h, .slice a3 n c3, .slice b3 m d3] 27)) := ⟨_, rfl⟩
    rw [← hw7] at hb hq
    have z7 : w6.heap.size + 1 = w7.heap.size := by rw [hw7]; simp
    replace hr1 := hr1.below hb
    replace hs1 := hs1.below hb
    replace HN1 := Lib.hid (rowIs_below HN1.out hb HN1.out.lt)
    replace hr2 := hr2.below hb
    replace hs2 := hs2.below hb
    replace HN2 := Lib.hid (rowIs_below HN2.out hb HN2.out.lt)
    replace hr3 := hr3.below hb
    replace hs3 := hs3.below hb
    replace HB := HB.trans (hb.mono HB.size)
    have HN3 := Lib.hid hq
    rw [← hw7]
    clear hb hq hw7
    obtain ⟨D, hD⟩ : ∃ D : Int, digV i h n xs m ys = D := ⟨_, rfl⟩
    have HD := Lib.hid hD
    clear hD
    have hDD : (D == D) = true := by simp
    have hSE : (S == S) = true := by simp
    obtain ⟨v30, v31, v32, v33⟩ := four_cells HN3.out
    clear v10 v11 v12 v13
    obtain ⟨v10, v11, v12, v13⟩ := four_cells HN1.out
    replace hr1 := hr1.drew
    replace hs1 := hs1.drew
    replace HN1 := Lib.hid (rowIs_drewN HN1.out 1)
    replace hr2 := hr2.drew
    replace hs2 := hs2.drew
    replace HN2 := Lib.hid (rowIs_drewN HN2.out 1)
    replace hr3 := hr3.drew
    replace hs3 := hs3.drew
    replace HN3 := Lib.hid (rowIs_drewN HN3.out 1)
    replace HB : Below w.heap.size w w7.drew := below_drewN HB 1
    have zd7 : w7.drew.heap.size = w7.heap.size := rfl
    go_region_held3 (fun w' => w'.cell? ⟨w2.heap.size, 0, none⟩ = some (.int .i64 i) ∧ w'.cell? ⟨w2.heap.size, 1, none⟩ = some (.int .i64 h) ∧ w'.cell? ⟨w2.heap.size, 2, none⟩ = some (.slice a1 n c1) ∧ w'.cell? ⟨w2.heap.size, 3, none⟩ = some (.slice b1 m d1) ∧ w'.cell? ⟨w6.heap.size, 0, none⟩ = some (.int .i64 i) ∧ w'.cell? ⟨w6.heap.size, 1, none⟩ = some (.int .i64 h) ∧ w'.cell? ⟨w6.heap.size, 2, none⟩ = some (.slice a3 n c3) ∧ w'.cell? ⟨w6.heap.size, 3, none⟩ = some (.slice b3 m d3))
      (go_keep)
      (first
        | (go_at_call 13; refine (impl_IsNetwork_any _ _ _ _ _ _ _ _ _ _ _ _ (hr1.ints EL.out) (hs1.ints EM.out) (Nat.le_refl _) hn hm).mono ?_; rw [HN.out]; rintro e wx ⟨rfl, hb⟩; replace hr1 := hr1.below hb; replace hs1 := hs1.below hb; replace hr3 := hr3.below hb; replace hs3 := hs3.below hb; replace HN1 := Lib.hid (rowIs_below HN1.out hb HN1.out.lt); replace HN3 := Lib.hid (rowIs_below HN3.out hb HN3.out.lt); replace HB := HB.trans (hb.mono HB.size); clear hb; obtain ⟨x10, x11, x12, x13⟩ := four_cells HN1.out; obtain ⟨x30, x31, x32, x33⟩ := four_cells HN3.out)
        | (go_at_call 20; (first | (with_reducible refine (impl_NetworkDigest_any _ _ _ _ _ _ _ _ _ _ _ _ (hr1.ints EL.out) (hs1.ints EM.out) (Nat.le_refl _) hn hm).mono ?_) | (with_reducible refine (impl_NetworkDigest_any _ _ _ _ _ _ _ _ _ _ _ _ (hr3.ints EL.out) (hs3.ints EM.out) (Nat.le_refl _) hn hm).mono ?_)); rw [HD.out]; rintro e wx ⟨rfl, hb⟩; replace hr1 := hr1.below hb; replace hs1 := hs1.below hb; replace hr3 := hr3.below hb; replace hs3 := hs3.below hb; replace HN1 := Lib.hid (rowIs_below HN1.out hb HN1.out.lt); replace HN3 := Lib.hid (rowIs_below HN3.out hb HN3.out.lt); replace HB := HB.trans (hb.mono HB.size); clear hb; obtain ⟨x10, x11, x12, x13⟩ := four_cells HN1.out; obtain ⟨x30, x31, x32, x33⟩ := four_cells HN3.out)
        | (go_at_call 19; (first | (with_reducible refine (spec_NetworkDigest_any _ _ _ _ _ _ _ _ _ _ _ _ (hr1.ints EL.out) (hs1.ints EM.out) (Nat.le_refl _) hn hm).mono ?_) | (with_reducible refine (spec_NetworkDigest_any _ _ _ _ _ _ _ _ _ _ _ _ (hr3.ints EL.out) (hs3.ints EM.out) (Nat.le_refl _) hn hm).mono ?_)); rw [HD.out]; rintro e wx ⟨rfl, hb⟩; replace hr1 := hr1.below hb; replace hs1 := hs1.below hb; replace hr3 := hr3.below hb; replace hs3 := hs3.below hb; replace HN1 := Lib.hid (rowIs_below HN1.out hb HN1.out.lt); replace HN3 := Lib.hid (rowIs_below HN3.out hb HN3.out.lt); replace HB := HB.trans (hb.mono HB.size); clear hb; obtain ⟨x10, x11, x12, x13⟩ := four_cells HN1.out; obtain ⟨x30, x31, x32, x33⟩ := four_cells HN3.out))
    all_goals
      go_wp2
      go_ret
      exact ⟨rfl, HB⟩
namespace fnSeeded
set_option linter.unusedVariables false
set_option maxRecDepth 100000 in
theorem lifted (os : Os) (started : os.Started) (H : Type) (enc : TypeId × Value → H) :
    ReturnsInHanded {} Try.checked os 6 .any (Rows.fnSeededSpec.pre6 enc Try.prog Try.f6 Rows.fnSeededRow.domain false) (Rows.fnSeededSpec.post enc Try.prog Try.f6 false true false false) := by
  refine returnsInHanded_of_change (C := Try.checked) own started (by kernel_rfl) Try.func6
    (ChangeSpec.witness6 (enc := enc) (C := Try.checked) false ⟨#[], #[.slice none 0 0], []⟩ 8 (by kernel_rfl) (by kernel_rfl) (by kernel_rfl) (by kernel_rfl)) ?_
  intro W base args ds gs before hval0 hW hcnd _
  have hval : ∀ (j : Nat) t v, Try.f6.params[j]? = some t → args[j]? = some v → Value.okWide Try.prog W .any base t v := hval0
  have hW' := hW
  obtain ⟨p, q, hA0, hV, rfl, hfz, hnd⟩ := hW
  have hA : DataW.TrodAll enc Try.prog W 0 (fun _ => true) true Try.f6.params.toList args.toList ds p := hA0
  rw [Try.params6] at hA hval
  obtain ⟨v0, vs0, d0, ds0, p0, q0, hargs, rfl, rfl, h0, r0⟩ := trodAll_cons hA
  obtain ⟨rfl, rfl, rfl⟩ := trodAll_nil r0
  obtain rfl : args = #[v0] := by cases args; simp_all
  obtain ⟨rfl, rfl⟩ := trodVars_none hV
  obtain ⟨ax0, nx0, cx0, x0, rfl, wx0⟩ := open_ints_arg Try.underlying36 Try.underlying5 (by kernel_rfl) (hval 0 36 v0 rfl rfl) h0
  clear hA0 hval0
  refine (walk_FnSeeded W ax0 nx0 cx0 x0 wx0).mono fun e W' ⟨he, bel⟩ => ?_
  subst he
  exact ⟨_, rfl, _, _, _, [], _, [], hW', trodAll_mk1 (shut_bool Try.underlying4 _), (trodAll_cons_mk (Below.trod laidOut (by kernel_rfl) (of_decide_eq_true (by kernel_rfl)) h0 bel (lt_of_trod h0)) trodAll_mk0), rfl, bel.frame _, fun h => by cases h⟩

theorem over : Rows.fnSeededRow.holds Try.pinned (OpenSpec.ofChange Rows.fnSeededSpec) :=
  OpenClaim.holds_of_wide 6 Try.f6 rfl rfl rfl rfl rfl rfl rfl ⟨rfl, rfl, rfl, rfl, rfl⟩ rfl rfl rfl rfl rfl (by kernel_rfl) Try.func6 (by kernel_rfl)
    (of_decide_eq_true (by kernel_rfl)) (by unfold Func.isWrapper; first | (rw [if_pos (by decide +kernel)]; kernel_rfl) | (rw [if_neg (by decide +kernel)]; exact ⟨rfl, rfl⟩))
    (fun os started H enc _ => lifted os started H enc)
theorem proved : Rows.FnSeededSaid := over
#print axioms proved
end fnSeeded
end Go.Proofs.Ytcpbaigghhjceaa
