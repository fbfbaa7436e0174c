/-
  What the law on the recursion of match chances needs: the sums of a game, and w5Scaled.
-/
import Derived.Test.YtkioliioakmepaaMchT
import Derived.Test.YtkioliioakmepaaMchA
namespace Go.Proofs.Ytkioliioakmepaa
open Go.ChangeShapes Go.WideShapes Go.ChangeAt Go.RowKit
set_option linter.unusedVariables false

theorem Mm.acc_up {M : Mm} {a b : Nat} {q T : Int} (h : M.acc a b q 4 = some T) {j : Nat} (hj : j ≤ 4) : ∃ t, M.acc a b q j = some t := by
  cases k : M.acc a b q j with
  | none => rw [Mm.acc_none k 4 hj] at h; cases h
  | some t => exact ⟨t, rfl⟩
theorem Mm.acc_out {M : Mm} {a b : Nat} {q r x t T4 : Int} {j : Nat} (h4 : M.acc a b q 4 = some T4) (hj : j < 4) (ht : M.acc a b q j = some t) (hr : nx q = r) (hx : (M.wt q).getD j 0 = x) (hx0 : ¬ x = 0) :
    ∃ c1 c2, M.ch (a - (j + 1)) b r = some c1 ∧ M.ch a (b - (j + 1)) r = some c2 ∧ M.acc a b q (j + 1) = some (t + x * (c1 + c2)) := by
  obtain ⟨t', h'⟩ := Mm.acc_up h4 (show j + 1 ≤ 4 by omega)
  have h2 : stp ((M.wt q).getD j 0) (M.ch (a - (j + 1)) b (nx q)) (M.ch a (b - (j + 1)) (nx q)) (M.acc a b q j) = some t' := h'
  rw [hx, hr, ht] at h2
  rcases stp_some h2 with ⟨z, _⟩ | ⟨_, c1, c2, t0, h1, h3, h5, rfl⟩
  · exact absurd z hx0
  · injection h5 with h5
    subst h5
    exact ⟨c1, c2, h1, h3, h'⟩
/-- a chance times twice the sum of the weights is the sum of a game -/
theorem Mm.ch_sum {M : Mm} (hM : M.ok) {a b : Nat} {ph q c : Int} (ha : 0 < a) (hb : 0 < b) (hq : gp a b ph = q) (hc : M.ch a b ph = some c) : ∃ T, M.acc a b q 4 = some T ∧ c * (2 * psum (M.wt q) 4) = T ∧ 0 ≤ T ∧ T ≤ 72057594037927936 ∧ 1 ≤ psum (M.wt q) 4 ∧ psum (M.wt q) 4 ≤ 16 := by
  rw [Mm.ch_acc ha hb, hq] at hc
  obtain ⟨_, _, _, _, _, okS⟩ := Mm.wt_ok hM q
  rw [psum4]
  have hS : 1 ≤ sum4 (M.wt q) ∧ sum4 (M.wt q) ≤ 16 := by unfold okM at okS; omega
  cases k : M.acc a b q 4 with
  | none => rw [k] at hc; cases hc
  | some T =>
    rw [k] at hc
    obtain ⟨b0, b1⟩ := Mm.acc_bd hM 4 (Nat.le_refl _) _ k
    refine ⟨T, rfl, ?_, b0, ?_, hS.1, hS.2⟩
    · unfold mean at hc
      simp only at hc
      split at hc
      · rename_i hd
        injection hc with hc
        rw [← hc]
        exact Int.ediv_mul_cancel (Int.dvd_of_emod_eq_zero hd)
      · cases hc
    · have e : (32 * ((4 : Nat) : Int)) * SC = 72057594037927936 := by decide
      omega
theorem apV_at {M : Mm} {a b : Nat} {ph q r p : Int} (hg : M.good = true) (hs : stB a b ph = true) (ha : 0 < a) (hb : 0 < b) (hp : ¬ p = 0) (h1 : -1000 ≤ p) (h2 : p ≤ 1000) (hq : gp a b ph = q) (hr : nx q = r) {c : Int} (hc : (if 0 < p then M.ch (a - p.toNat) b r else M.ch a (b - (-p).toNat) r) = some c) : apV M a b ph p = (sN c, sD c, 0) := by
  unfold apV
  rw [if_pos hg, if_pos hs, if_neg (by rintro (h | h); exact hp h; rw [wB_true.2 ⟨h1, h2⟩] at h; cases h), if_neg (by omega)]
  show chR (M.af a b ph p) = _
  unfold Mm.af
  rw [hq, hr, hc]; rfl
set_option maxHeartbeats 800000 in
theorem w5_any (p d c : Int) (w : World) (hs : shB p d = true) (hm : 562949953421312 % d = 0) (hc : p * (562949953421312 / d) = c) (c0 : 0 ≤ c) (c1 : c ≤ 562949953421312) :
    Calls Try.prog 32 #[shV p d] w fun e w' => e = .returned (.tuple #[.int .i64 c, .bool true]) ∧ Below w.heap.size w w' := by
  have HB := Lib.hid ((Below.refl w.heap.size w).alloc (Nat.le_refl _) (.cells #[.int .i64 p, .int .i64 d] 30))
  have R0 := Lib.hid (two_new w p d 30)
  obtain ⟨d1, d2, p1, p2, _⟩ := shB_out hs
  have HS := Lib.hid (fun W => spec_IsShare_any p d W)
  rw [hs] at HS
  have dn : ¬ d = 0 := by omega
  obtain ⟨e, he⟩ : ∃ e, 562949953421312 / d = e := ⟨_, rfl⟩
  rw [he] at hc
  have t1 : Int.tmod 562949953421312 d = 0 := by rw [Int.tmod_eq_emod_of_nonneg (by omega)]; exact hm
  have t2 : IntKind.i64.wrap (Int.tmod 562949953421312 d) = 0 := by rw [t1]; decide
  have e0 : 0 ≤ e := by rw [← he]; exact Int.ediv_nonneg (by omega) (by omega)
  have e1 : e ≤ 562949953421312 := by rw [← he]; exact Int.ediv_le_self _ (by omega)
  have q1 : IntKind.i64.wrap (Int.tdiv 562949953421312 d) = e := by rw [Int.tdiv_eq_ediv_of_nonneg (by omega), he]; exact IntWalk.i64_in _ (by omega)
  have m1 : IntKind.i64.wrap (p * e) = c := by rw [hc]; exact IntWalk.i64_in _ (by omega)
  have HC := Lib.hid hc
  clear hs hc he
  go_enter Try.func32, Try.ntmps32
  go_wp2_with fail
  refine (HS.out _).mono ?_
  rintro e' w1 ⟨rfl, hb⟩
  have BF := Lib.hid (HB.out.trans (hb.mono HB.out.size))
  have R1 := Lib.hid (rowIs_below R0.out hb R0.out.lt)
  obtain ⟨x0, x1, _, _⟩ := two_cells R1.out
  clear hb
  go_wp2_with fail
  go_region
  go_wp2_with fail
  refine bodyPost_ret (v := .tuple #[.int .i64 c, .bool true]) (by simp [results, Try.results32, go_sem]) rfl ⟨rfl, BF.out.drew⟩
end Go.Proofs.Ytkioliioakmepaa
