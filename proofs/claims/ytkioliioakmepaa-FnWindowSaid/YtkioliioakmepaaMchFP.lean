/-
  The walk of l19Parts of the reference.
-/
import Derived.Test.YtkioliioakmepaaMchF
namespace Go.Proofs.Ytkioliioakmepaa
open Go.ChangeShapes Go.WideShapes Go.ChangeAt Go.RowKit
set_option linter.unusedVariables false

/-- R to R + G as a share and a code -/
def prV (R G : Int) : Int × Int × Int := if loB R (R + G) = true then (loN R (R + G), loD R (R + G), 0) else (0, 0, 3)
set_option maxHeartbeats 1600000 in
theorem l19Parts_any (R G : Int) (w : World) (R0 : 0 ≤ R) (R1 : R ≤ SC) (G0 : 0 ≤ G) (G1 : G ≤ SC) (hp : 0 < R + G) (hn : sD R ≤ 1000000) (hd : sD G ≤ 1000000) :
    Calls Try.prog 86 #[.int .i64 (sN R), .int .i64 (sD R), .int .i64 (sN G), .int .i64 (sD G)] w fun e w' => ShPost (prV R G) w e w' := by
  obtain ⟨_, p0, p1, n0, _, _, pk⟩ := s_facts R0 R1
  obtain ⟨_, q0, q1, d0, _, _, qk⟩ := s_facts G0 G1
  have s1 := (D2.share R0 R1).scq
  have s2 := (D2.share G0 G1).scq
  have hS : ¬ SC = 0 := by decide
  have f1 : sN R * SC = R * sD R := by
    conv => lhs; rw [← s1]
    rw [← Int.mul_assoc, pk]
  have f2 : sN G * SC = G * sD G := by
    conv => lhs; rw [← s2]
    rw [← Int.mul_assoc, qk]
  obtain ⟨p, hp'⟩ : ∃ p, sN R = p := ⟨_, rfl⟩
  obtain ⟨n, hn'⟩ : ∃ n, sD R = n := ⟨_, rfl⟩
  obtain ⟨q, hq'⟩ : ∃ q, sN G = q := ⟨_, rfl⟩
  obtain ⟨d, hd'⟩ : ∃ d, sD G = d := ⟨_, rfl⟩
  rw [hp'] at p0 p1 f1 pk
  rw [hn'] at p1 n0 f1 hn
  rw [hq'] at q0 q1 f2 qk
  rw [hd'] at q1 d0 f2 hd
  rw [hp', hn', hq', hd']
  obtain ⟨g, hg⟩ : ∃ g : Int, (Int.gcd n d : Int) = g := ⟨_, rfl⟩
  have g0 : 0 < g := by rw [← hg]; exact Int.natCast_pos.2 (Int.gcd_pos_of_ne_zero_left d (by omega))
  have hng : n / g * g = n := by rw [← hg]; exact Int.ediv_mul_cancel (Int.gcd_dvd_left ..)
  have hdg : d / g * g = d := by rw [← hg]; exact Int.ediv_mul_cancel (Int.gcd_dvd_right ..)
  have ng1 : n / g ≤ n := Int.ediv_le_self _ (by omega)
  have dg1 : d / g ≤ d := Int.ediv_le_self _ (by omega)
  have ng0 : 0 ≤ n / g := Int.ediv_nonneg (by omega) (by omega)
  have dg0 : 0 ≤ d / g := Int.ediv_nonneg (by omega) (by omega)
  have HG := Lib.hid hg
  obtain ⟨N, hN⟩ : ∃ N, n / g = N := ⟨_, rfl⟩
  obtain ⟨D, hD⟩ : ∃ D, d / g = D := ⟨_, rfl⟩
  rw [hN] at hng ng0 ng1
  rw [hD] at hdg dg0 dg1
  have hpar := parts_eq hS f1 f2 hng hdg
  have a0 : 0 ≤ p * D := Int.mul_nonneg p0 dg0
  have a1 : p * D ≤ 1000000000000 := by
    have := Int.mul_le_mul (show p ≤ 1000000 by omega) (show D ≤ 1000000 by omega) dg0 (by omega); omega
  have b0 : 0 ≤ q * N := Int.mul_nonneg q0 ng0
  have b1 : q * N ≤ 1000000000000 := by
    have := Int.mul_le_mul (show q ≤ 1000000 by omega) (show N ≤ 1000000 by omega) ng0 (by omega); omega
  have hN0 : ¬ N = 0 := by
    intro h; rw [h, Int.zero_mul] at hng; omega
  have hD0 : ¬ D = 0 := by
    intro h; rw [h, Int.zero_mul] at hdg; omega
  have hpos : 0 < p * D + q * N := by
    rcases Int.lt_or_le 0 (p * D + q * N) with h | h
    · exact h
    · have e1 : p * D = 0 := by omega
      have e2 : q * N = 0 := by omega
      have z1 : p = 0 := (Int.mul_eq_zero.1 e1).resolve_right hD0
      have z2 : q = 0 := (Int.mul_eq_zero.1 e2).resolve_right hN0
      rw [z1, Int.zero_mul] at pk
      rw [z2, Int.zero_mul] at qk
      omega
  obtain ⟨l1, l2, l3⟩ := parts_lo hpos hp hpar
  have wq1 : IntKind.i64.wrap (Int.tdiv d g) = D := by rw [Int.tdiv_eq_ediv_of_nonneg (by omega), hD]; exact IntWalk.i64_in _ (by omega)
  have wq2 : IntKind.i64.wrap (Int.tdiv n g) = N := by rw [Int.tdiv_eq_ediv_of_nonneg (by omega), hN]; exact IntWalk.i64_in _ (by omega)
  have wm1 : IntKind.i64.wrap (p * D) = p * D := IntWalk.i64_in _ (by omega)
  have wm2 : IntKind.i64.wrap (q * N) = q * N := IntWalk.i64_in _ (by omega)
  have gn : ¬ g = 0 := by omega
  obtain ⟨x, hx⟩ : ∃ x, loN R (R + G) = x := ⟨_, rfl⟩
  obtain ⟨y, hy⟩ : ∃ y, loD R (R + G) = y := ⟨_, rfl⟩
  obtain ⟨k, hk⟩ : ∃ k, loB R (R + G) = k := ⟨_, rfl⟩
  have HV : Hid (prV R G = if k = true then (x, y, 0) else (0, 0, 3)) := by
    refine Lib.hid ?_
    unfold prV; rw [hx, hy, hk]
  have MK := Lib.hid (fun W => l18Make_any (p * D) (p * D + q * N) W a0 hpos (by omega) (by omega))
  rw [l1, l2, l3, hx, hy, hk] at MK
  have R8 := Lib.hid (two_new w 0 0 30)
  have B8 := Lib.hid (((Below.refl w.heap.size w).alloc (Nat.le_refl _) (.cells #[.int .i64 0, .int .i64 0] 30)).drew)
  clear hp' hn' hq' hd' hng hdg hN hD hpar l1 l2 l3 hx hy hk hg pk qk f1 f2 s1 s2
  go_enter Try.func86, Try.ntmps86
  go_wp2_with fail
  refine (l18Gcd_any _ _ _ (by omega) (by omega)).mono ?_
  rintro e w1 ⟨rfl, rfl⟩
  rw [HG.out]
  go_wp2_with fail
  go_region
  go_wp2_with fail
  refine (MK.out _).mono ?_
  rintro e w2 ⟨rfl, hb⟩
  have z2 := hb.size
  have B2 := Lib.hid ((B8.out.trans (hb.mono (by show w.heap.size ≤ (w.alloc _).heap.size; simp))).alloc (by have := hb.size; exact Nat.le_trans (show w.heap.size ≤ (w.alloc (.cells #[.int .i64 0, .int .i64 0] 30)).heap.size by simp) this) (.cells #[.int .i64 x, .int .i64 y] 30))
  have R2 := Lib.hid ((rowIs_below R8.out.drew hb R8.out.lt).alloc (.cells #[.int .i64 x, .int .i64 y] 30))
  have X2 := Lib.hid (two_new w2 x y 30)
  obtain ⟨h0, h1, h2, h3⟩ := two_cells R2.out
  obtain ⟨x0, x1, _, _⟩ := two_cells X2.out
  clear hb
  cases k
  · have HF : Hid (prV R G = (0, 0, 3)) := HV.out.trans (if_neg (by decide))
    have BF := Lib.hid ((B2.out.setCell (p := ⟨w.heap.size, 0, none⟩) (Nat.le_refl _) (.int .i64 0)).setCell (p := ⟨w.heap.size, 1, none⟩) (Nat.le_refl _) (.int .i64 0))
    obtain ⟨e0, e1, _, _⟩ := two_cells (two_set R2.out 0 0)
    go_wp2_with fail
    refine bodyPost_ret (v := .tuple #[shV 0 0, .int .i64 3]) (by simp [results, Try.results86, go_sem, e0, e1]) rfl (ShPost.mk rfl HF.out BF.out)
  · have HF : Hid (prV R G = (x, y, 0)) := HV.out.trans (if_pos rfl)
    have BF := Lib.hid ((B2.out.setCell (p := ⟨w.heap.size, 0, none⟩) (Nat.le_refl _) (.int .i64 x)).setCell (p := ⟨w.heap.size, 1, none⟩) (Nat.le_refl _) (.int .i64 y))
    obtain ⟨e0, e1, _, _⟩ := two_cells (two_set R2.out x y)
    go_wp2_with fail
    refine bodyPost_ret (v := .tuple #[shV x y, .int .i64 0]) (by simp [results, Try.results86, go_sem, e0, e1]) rfl (ShPost.mk rfl HF.out BF.out)
end Go.Proofs.Ytkioliioakmepaa
