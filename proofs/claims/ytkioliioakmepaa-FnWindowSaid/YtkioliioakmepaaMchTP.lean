/-
  The walks of MatchTakePoint (both packages).
-/
import Derived.Test.YtkioliioakmepaaMchZ
import Derived.Test.YtkioliioakmepaaMchT
import Derived.Test.YtkioliioakmepaaMchG
import Derived.Test.YtkioliioakmepaaTp
import Derived.Deep.RegionHeld3
namespace Go.Proofs.Ytkioliioakmepaa
open Go.ChangeShapes Go.WideShapes Go.ChangeAt Go.RowKit
set_option linter.unusedVariables false

def mtR (L : Option (List Int)) : Int × Int × Int := match L with
  | some [n1, d1, n2, d2, n3, d3] => tpV (d1 - n1) d1 (d2 - n2) d2 (d3 - n3) d3
  | _ => (0, 0, 3)
/-- what both packages' MatchTakePoint returns -/
def mtV (M : Mm) (a b ph c : Int) : Int × Int × Int := if cdV M a b ph c = 0 then mtR (M.afK a.toNat b.toNat ph [c, 2 * c, -(2 * c)] 3) else (0, 0, cdV M a b ph c)
theorem Mm.afK3 {M : Mm} (hM : M.ok) {a b : Nat} {ph : Int} {ps l : List Int} (h : M.afK a b ph ps 3 = some l) : ∃ c1 c2 c3, l = [sN c1, sD c1, sN c2, sD c2, sN c3, sD c3] ∧ (0 ≤ c1 ∧ c1 ≤ SC) ∧ (0 ≤ c2 ∧ c2 ≤ SC) ∧ (0 ≤ c3 ∧ c3 ≤ SC) := by
  have bd : ∀ p c, M.af a b ph p = some c → 0 ≤ c ∧ c ≤ SC := by
    intro p c hc
    unfold Mm.af at hc
    split at hc
    · exact Mm.ch_bd hM hc
    · exact Mm.ch_bd hM hc
  have st : ∀ k l, M.afK a b ph ps (k + 1) = some l → ∃ l' c, M.afK a b ph ps k = some l' ∧ M.af a b ph (ps.getD k 0) = some c ∧ l = l' ++ [sN c, sD c] := by
    intro k l hl
    have hl : (match M.afK a b ph ps k, M.af a b ph (ps.getD k 0) with | some l, some c => some (l ++ [sN c, sD c]) | _, _ => none) = some l := hl
    cases e1 : M.afK a b ph ps k with
    | none => rw [e1] at hl; cases hl
    | some l' =>
      cases e2 : M.af a b ph (ps.getD k 0) with
      | none => rw [e1, e2] at hl; cases hl
      | some c => rw [e1, e2] at hl; injection hl with hl; exact ⟨l', c, rfl, rfl, hl.symm⟩
  obtain ⟨l2, c3, h2, k3, rfl⟩ := st 2 l h
  obtain ⟨l1, c2, h1, k2, rfl⟩ := st 1 l2 h2
  obtain ⟨l0, c1, h0, k1, rfl⟩ := st 0 l1 h1
  injection h0 with h0
  subst h0
  exact ⟨c1, c2, c3, rfl, bd _ _ k1, bd _ _ k2, bd _ _ k3⟩
theorem Sm.afK {K M : Mm} (h : Sm K M) (a b : Nat) (ph : Int) (ps : List Int) : ∀ n, K.afK a b ph ps n = M.afK a b ph ps n
  | 0 => rfl
  | n + 1 => by
    show (match K.afK a b ph ps n, K.af a b ph (ps.getD n 0) with | some l, some c => some (l ++ [sN c, sD c]) | _, _ => none) = (match M.afK a b ph ps n, M.af a b ph (ps.getD n 0) with | some l, some c => some (l ++ [sN c, sD c]) | _, _ => none)
    rw [Sm.afK h a b ph ps n, h.af]
theorem Sm.cd {K M : Mm} (h : Sm K M) (a b ph c : Int) : cdV K a b ph c = cdV M a b ph c := by unfold cdV; rw [h.good]
theorem Sm.mt {K M : Mm} (h : Sm K M) (a b ph c : Int) : mtV K a b ph c = mtV M a b ph c := by unfold mtV; rw [h.cd, h.afK]
theorem cdV_out {M : Mm} {a b ph c : Int} (h : cdV M a b ph c = 0) : M.good = true ∧ stB a b ph = true ∧ pwB c 64 = true ∧ ¬ a = 0 ∧ ¬ b = 0 := by
  unfold cdV at h
  split at h
  · split at h
    · rename_i h1 h2
      split at h
      · exact absurd h (by decide)
      · rename_i h3
        exact ⟨h1, h2.1, h2.2, fun e => h3 (.inl e), fun e => h3 (.inr e)⟩
    · exact absurd h (by decide)
  · exact absurd h (by decide)
/-- the other player's share of a chance -/
theorem rest_ok {c : Int} (h0 : 0 ≤ c) (h1 : c ≤ SC) : 0 ≤ sN c ∧ sN c ≤ sD c ∧ sD c ≤ 1000000000000000 ∧ shB (sD c - sN c) (sD c) = true := by
  have s1 : SC ≤ 1000000000000000 := by decide
  obtain ⟨_, a1, a2, _, a3, _⟩ := s_facts h0 h1
  obtain ⟨k1, k2⟩ := s_co h0 h1
  obtain ⟨b0, _⟩ := s_facts (v := SC - c) (by omega) (by omega)
  have e : sD c - sN c = sN (SC - c) := by omega
  exact ⟨a1, a2, by omega, by rw [e, ← k1]; exact b0⟩
/-- the six cells of three shares -/
def L6 (w : World) (g : Nat) (a b c d e f : Int) : Prop := w.cell? ⟨g, 0, none⟩ = some (.int .i64 a) ∧ w.cell? ⟨g, 1, none⟩ = some (.int .i64 b) ∧ w.cell? ⟨g, 2, none⟩ = some (.int .i64 c) ∧ w.cell? ⟨g, 3, none⟩ = some (.int .i64 d) ∧ w.cell? ⟨g, 4, none⟩ = some (.int .i64 e) ∧ w.cell? ⟨g, 5, none⟩ = some (.int .i64 f)
theorem L6.below {w w' : World} {g B : Nat} {a b c d e f : Int} (h : L6 w g a b c d e f) (hb : Below B w w') (hg : g < B) : L6 w' g a b c d e f :=
  ⟨(hb.cell (p := ⟨g, 0, none⟩) hg).trans h.1, (hb.cell (p := ⟨g, 1, none⟩) hg).trans h.2.1, (hb.cell (p := ⟨g, 2, none⟩) hg).trans h.2.2.1, (hb.cell (p := ⟨g, 3, none⟩) hg).trans h.2.2.2.1, (hb.cell (p := ⟨g, 4, none⟩) hg).trans h.2.2.2.2.1, (hb.cell (p := ⟨g, 5, none⟩) hg).trans h.2.2.2.2.2⟩
theorem L6.set {w : World} {g b i : Nat} {a1 b1 c d e f : Int} (h : L6 w g a1 b1 c d e f) (hne : ¬ b = g) (u : Value) : L6 (w.setCell ⟨b, i, none⟩ u) g a1 b1 c d e f := by
  obtain ⟨h0, h1, h2, h3, h4, h5⟩ := h
  refine ⟨?_, ?_, ?_, ?_, ?_, ?_⟩
  all_goals (rw [World.cell?_setCell_far _ _ _ _ hne]; assumption)
theorem shOk_rest {x y : Int} (h : shB x y = true) : shOk x y := shOk_of h
set_option maxHeartbeats 3200000 in
theorem spec_MatchTakePoint_any (M : Mm) (a b ph c : Int) (w : World) (hA : M.at w w.heap.size) (hs : M.sz) :
    Calls Try.prog 44 #[M.V, .int .i64 a, .int .i64 b, .int .i64 ph, .int .i64 c] w fun e w' => ShPost (mtV M a b ph c) w e w' := by
  have hb0 := ((Below.refl w.heap.size w).alloc (Nat.le_refl _) (.cells #[.slice M.a M.n M.c, .slice M.b M.m M.d, .slice M.e M.p M.f] 26)).alloc (by simp) (.cells #[.int .i64 0, .int .i64 0] 30)
  have HB := Lib.hid hb0
  have HA := Lib.hid (hA.keep hb0)
  have rm := (three_new w (.slice M.a M.n M.c) (.slice M.b M.m M.d) (.slice M.e M.p M.f) 26).alloc (.cells #[.int .i64 0, .int .i64 0] 30)
  have r8 := two_new (w.alloc (.cells #[.slice M.a M.n M.c, .slice M.b M.m M.d, .slice M.e M.p M.f] 26)) 0 0 30
  rw [World.size_alloc] at r8
  have RM := Lib.hid rm
  have R8 := Lib.hid r8
  have GA := Lib.hid hA
  have HSZ := Lib.hid hs
  obtain ⟨K, hK⟩ : ∃ K, cdV M a b ph c = K := ⟨_, rfl⟩
  have HK := Lib.hid hK
  clear hb0 rm r8 hA hK
  go_enter Try.func44, Try.ntmps44
  go_wp2_with fail
  refine (l19Code_any M a b ph c _ (HA.out.more HB.out.size) hs K HK.out).mono ?_
  rintro e w1 ⟨rfl, hb1⟩
  have z1 := hb1.size
  simp only [World.size_alloc] at z1
  have B1 := Lib.hid (HB.out.trans (hb1.mono HB.out.size))
  have A1 := Lib.hid (HA.out.keep (hb1.mono HB.out.size))
  have M1 := Lib.hid (rowIs_below RM.out hb1 RM.out.lt)
  have E1 := Lib.hid (rowIs_below R8.out hb1 R8.out.lt)
  obtain ⟨h0, h1, h2, h3⟩ := two_cells E1.out
  obtain ⟨m0, m1, m2⟩ := three_cells M1.out
  clear hb1
  by_cases hk : K = 0
  · subst hk
    obtain ⟨kg, ks, kc, ka, kb⟩ := cdV_out HK.out
    obtain ⟨⟨a0, a9⟩, ⟨b0, b9⟩, ab, p0, p2⟩ := stB_out ks
    obtain ⟨c1, c64⟩ := pwB_pos kc
    obtain ⟨X, rfl⟩ := Int.eq_ofNat_of_zero_le a0
    obtain ⟨Y, rfl⟩ := Int.eq_ofNat_of_zero_le b0
    have hM := Mm.good_ok kg GA.out
    have HMV : Hid (mtV M X Y ph c = mtR (M.afK X Y ph [c, 2 * c, -(2 * c)] 3)) := by
      refine Lib.hid ?_
      unfold mtV; rw [if_pos HK.out]; rfl
    have hX0 : 0 < X := by omega
    have hY0 : 0 < Y := by omega
    have LC := Lib.hid (fun (W : World) (A : Option Addr) (hAt : M.at W W.heap.size) (hP : Ints W W.heap.size .i64 A 3 [c, 2 * c, -(2 * c)]) => l19Chances_any M X Y ph A 3 3 [c, 2 * c, -(2 * c)] W hAt HSZ.out kg ks hX0 hY0 hP (by omega) (fun i hi => by
      match i, hi with
      | 0, _ => show ¬ c = 0 ∧ -1000 ≤ c ∧ c ≤ 1000; omega
      | 1, _ => show ¬ 2 * c = 0 ∧ -1000 ≤ 2 * c ∧ 2 * c ≤ 1000; omega
      | 2, _ => show ¬ -(2 * c) = 0 ∧ -1000 ≤ -(2 * c) ∧ -(2 * c) ≤ 1000; omega))
    have hx2 : -2 * c = -(2 * c) := by omega
    clear kg ks kc ka kb h0 h1 h2 h3
    go_wp2_with fail
    have IN := Lib.hid (ints_new3 w1 c (2 * c) (-(2 * c)))
    have A2 := Lib.hid (A1.out.keep ((Below.refl w.heap.size w1).alloc (by omega) (.cells #[.int .i64 c, .int .i64 (2 * c), .int .i64 (-(2 * c))] 2)))
    have B2 := Lib.hid (B1.out.alloc B1.out.size (.cells #[.int .i64 c, .int .i64 (2 * c), .int .i64 (-(2 * c))] 2))
    have E2 := Lib.hid (E1.out.alloc (.cells #[.int .i64 c, .int .i64 (2 * c), .int .i64 (-(2 * c))] 2))
    refine (LC.out _ _ (A2.out.more (by simp; omega)) (IN.out.more (by simp))).mono ?_
    rintro e w2 ⟨v, ok, rfl, hb2, hyes, hno⟩
    have z2 := hb2.size
    simp only [World.size_alloc] at z2
    have B3 := Lib.hid (B2.out.trans (hb2.mono B2.out.size))
    have E3 := Lib.hid (rowIs_below E2.out hb2 E2.out.lt)
    have HYES := Lib.hid hyes
    have HNO := Lib.hid hno
    obtain ⟨h0, h1, h2, h3⟩ := two_cells E3.out
    clear hb2 hyes hno m0 m1 m2
    cases ok
    · have HV : Hid (mtV M X Y ph c = (0, 0, 3)) := by
        refine Lib.hid ?_
        rw [HMV.out, HNO.out rfl]; rfl
      have BF := Lib.hid ((B3.out.setCell (p := ⟨w.heap.size + 1, 0, none⟩) (by simp) (.int .i64 0)).setCell (p := ⟨w.heap.size + 1, 1, none⟩) (by simp) (.int .i64 0))
      obtain ⟨e0, e1, _, _⟩ := two_cells (two_set E3.out 0 0)
      go_wp2_with fail
      refine bodyPost_ret (v := .tuple #[shV 0 0, .int .i64 3]) (by simp [results, Try.results44, go_sem, e0, e1]) rfl (ShPost.mk rfl HV.out BF.out)
    · obtain ⟨xs, lo, hafk, hgs, hlo⟩ := HYES.out rfl
      obtain ⟨k1, k2, k3, rfl, ⟨k10, k11⟩, ⟨k20, k21⟩, k30, k31⟩ := Mm.afK3 hM hafk
      obtain ⟨al, cl, rfl, hrow⟩ := hgs.row
      obtain ⟨gl, rfl, gl1, gl2, gl3, hcs⟩ := hrow.blk (by omega)
      have r1 := rest_ok k10 k11
      have r2 := rest_ok k20 k21
      have r3 := rest_ok k30 k31
      have q0 := (hcs 0 (by omega)).1
      have q1 := (hcs 1 (by omega)).1
      have q2 := (hcs 2 (by omega)).1
      have q3 := (hcs 3 (by omega)).1
      have q4 := (hcs 4 (by omega)).1
      have q5 := (hcs 5 (by omega)).1
      simp only [icell, List.getD_cons_zero, List.getD_cons_succ] at q0 q1 q2 q3 q4 q5
      obtain ⟨n1, hn1⟩ : ∃ n, sN k1 = n := ⟨_, rfl⟩
      obtain ⟨d1, hd1⟩ : ∃ d, sD k1 = d := ⟨_, rfl⟩
      obtain ⟨n2, hn2⟩ : ∃ n, sN k2 = n := ⟨_, rfl⟩
      obtain ⟨d2, hd2⟩ : ∃ d, sD k2 = d := ⟨_, rfl⟩
      obtain ⟨n3, hn3⟩ : ∃ n, sN k3 = n := ⟨_, rfl⟩
      obtain ⟨d3, hd3⟩ : ∃ d, sD k3 = d := ⟨_, rfl⟩
      rw [hn1, hd1, hn2, hd2, hn3, hd3] at hafk
      rw [hn1, hd1] at r1
      rw [hn2, hd2] at r2
      rw [hn3, hd3] at r3
      rw [hn1] at q0
      rw [hd1] at q1
      rw [hn2] at q2
      rw [hd2] at q3
      rw [hn3] at q4
      rw [hd3] at q5
      obtain ⟨u1, u2, u3, u4⟩ := r1
      obtain ⟨v1, v2, v3, v4⟩ := r2
      obtain ⟨x1, x2, x3, x4⟩ := r3
      have O1 := Lib.hid (fun W => l19Rest_any n1 d1 W u1 u2 u3)
      have O2 := Lib.hid (fun W => l19Rest_any n2 d2 W v1 v2 v3)
      have O3 := Lib.hid (fun W => l19Rest_any n3 d3 W x1 x2 x3)
      have TP := Lib.hid (fun W => spec_TakePoint_any (d1 - n1) d1 (d2 - n2) d2 (d3 - n3) d3 W)
      have hA3 : tpA (d1 - n1) d1 (d2 - n2) d2 (d3 - n3) d3 = tpV (d1 - n1) d1 (d2 - n2) d2 (d3 - n3) d3 := tpA_2 (by rw [u4, v4, x4]; rfl)
      obtain ⟨N, hN⟩ : ∃ N, (tpV (d1 - n1) d1 (d2 - n2) d2 (d3 - n3) d3).1 = N := ⟨_, rfl⟩
      obtain ⟨D, hD⟩ : ∃ D, (tpV (d1 - n1) d1 (d2 - n2) d2 (d3 - n3) d3).2.1 = D := ⟨_, rfl⟩
      obtain ⟨Z, hZ⟩ : ∃ Z, (tpV (d1 - n1) d1 (d2 - n2) d2 (d3 - n3) d3).2.2 = Z := ⟨_, rfl⟩
      rw [hA3, hN, hD, hZ] at TP
      have HV : Hid (mtV M X Y ph c = (N, D, Z)) := by
        refine Lib.hid ?_
        rw [HMV.out, hafk, ← hN, ← hD, ← hZ]; rfl
      have E4 := Lib.hid E3.out.drew
      have B4 := Lib.hid B3.out.drew
      simp only [World.size_alloc] at hlo
      have hne : ¬ w.heap.size + 1 = gl := by omega
      have HQ := Lib.hid (show L6 w2 gl n1 d1 n2 d2 n3 d3 from ⟨q0, q1, q2, q3, q4, q5⟩)
      have hgl3 : gl < w2.heap.size := gl3
      clear hcs hrow hgs hafk hn1 hd1 hn2 hd2 hn3 hd3 hA3 hN hD hZ u4 v4 x4 k10 k11 k20 k21 k30 k31 hx2
      go_wp2_with fail
      go_region_held3 (fun w' => w'.cell? ⟨gl, 0, none⟩ = some (.int .i64 n1) ∧ w'.cell? ⟨gl, 1, none⟩ = some (.int .i64 d1) ∧ w'.cell? ⟨gl, 2, none⟩ = some (.int .i64 n2) ∧ w'.cell? ⟨gl, 3, none⟩ = some (.int .i64 d2) ∧ w'.cell? ⟨gl, 4, none⟩ = some (.int .i64 n3) ∧ w'.cell? ⟨gl, 5, none⟩ = some (.int .i64 d3))
        (first | exact HQ.out | exact KS.out _ _ | go_keep)
        (first
          | (go_at_call 48; (with_reducible refine (O1.out w2.drew).mono ?_); rintro e p1 ⟨rfl, hb⟩; replace HQ := Lib.hid (L6.below (w := w2.drew) HQ.out hb hgl3); have s1 : w2.heap.size ≤ p1.heap.size := hb.size; obtain ⟨y0, y1, y2, y3, y4, y5⟩ := HQ.out; have E5 := Lib.hid (rowIs_below E4.out hb E4.out.lt); have B5 := Lib.hid (B4.out.trans (hb.mono B4.out.size)); clear hb)
          | (go_at_call 48; (with_reducible refine (O2.out p1).mono ?_); rintro e p2 ⟨rfl, hb⟩; replace HQ := Lib.hid (HQ.out.below hb (by omega)); have s2 := hb.size; obtain ⟨i0, i1, i2, i3, i4, i5⟩ := HQ.out; have E6 := Lib.hid (rowIs_below E5.out hb E5.out.lt); have B6 := Lib.hid (B5.out.trans (hb.mono B5.out.size)); clear hb)
          | (go_at_call 48; (with_reducible refine (O3.out p2).mono ?_); rintro e p3 ⟨rfl, hb⟩; replace HQ := Lib.hid (HQ.out.below hb (by omega)); have s3 := hb.size; obtain ⟨f0, f1, f2, f3, f4, f5⟩ := HQ.out; have E7 := Lib.hid (rowIs_below E6.out hb E6.out.lt); have B7 := Lib.hid (B6.out.trans (hb.mono B6.out.size)); clear hb)
          | (go_at_call 87; (with_reducible refine (TP.out p3).mono ?_); rintro e p4 ⟨rfl, hb⟩; replace HQ := Lib.hid (HQ.out.below hb (by omega)); have s4 := hb.size; have KS := Lib.hid (fun (v1 v2 : Value) => (HQ.out.set (i := 0) hne v1).set (i := 1) hne v2); have E8 := Lib.hid (rowIs_below E7.out hb E7.out.lt); have B8 := Lib.hid (B7.out.trans (hb.mono B7.out.size)); obtain ⟨j0, j1, j2, j3⟩ := two_cells E8.out; clear hb)
          | fail)
      have BF := Lib.hid ((B8.out.setCell (p := ⟨w.heap.size + 1, 0, none⟩) (by simp) (.int .i64 N)).setCell (p := ⟨w.heap.size + 1, 1, none⟩) (by simp) (.int .i64 D))
      obtain ⟨e0, e1, _, _⟩ := two_cells (two_set E8.out N D)
      go_wp2_with fail
      refine bodyPost_ret (v := .tuple #[shV N D, .int .i64 Z]) (by simp [results, Try.results44, go_sem, e0, e1]) rfl (ShPost.mk rfl HV.out BF.out)
  · have ek : (K != 0) = true := by simpa using hk
    have HV : Hid (mtV M a b ph c = (0, 0, K)) := by
      refine Lib.hid ?_
      unfold mtV; rw [HK.out, if_neg hk]
    have BF := Lib.hid ((B1.out.setCell (p := ⟨w.heap.size + 1, 0, none⟩) (by simp) (.int .i64 0)).setCell (p := ⟨w.heap.size + 1, 1, none⟩) (by simp) (.int .i64 0))
    obtain ⟨e0, e1, _, _⟩ := two_cells (two_set E1.out 0 0)
    clear hk
    go_wp2_with fail
    refine bodyPost_ret (v := .tuple #[shV 0 0, .int .i64 K]) (by simp [results, Try.results44, go_sem, e0, e1]) rfl (ShPost.mk rfl HV.out BF.out)
set_option maxHeartbeats 3200000 in
theorem impl_MatchTakePoint_any (M : Mm) (a b ph c : Int) (w : World) (hA : M.at w w.heap.size) (hs : M.sz) :
    Calls Try.prog 21 #[M.V, .int .i64 a, .int .i64 b, .int .i64 ph, .int .i64 c] w fun e w' => ShPost (mtV M a b ph c) w e w' := by
  have hb0 := ((Below.refl w.heap.size w).alloc (Nat.le_refl _) (.cells #[.slice M.a M.n M.c, .slice M.b M.m M.d, .slice M.e M.p M.f] 26)).alloc (by simp) (.cells #[.int .i64 0, .int .i64 0] 30)
  have HB := Lib.hid hb0
  have HA := Lib.hid (hA.keep hb0)
  have rm := (three_new w (.slice M.a M.n M.c) (.slice M.b M.m M.d) (.slice M.e M.p M.f) 26).alloc (.cells #[.int .i64 0, .int .i64 0] 30)
  have r8 := two_new (w.alloc (.cells #[.slice M.a M.n M.c, .slice M.b M.m M.d, .slice M.e M.p M.f] 26)) 0 0 30
  rw [World.size_alloc] at r8
  have RM := Lib.hid rm
  have R8 := Lib.hid r8
  have GA := Lib.hid hA
  have HSZ := Lib.hid hs
  obtain ⟨U, hU⟩ : ∃ U, pwB c 64 = U := ⟨_, rfl⟩
  have HU := Lib.hid hU
  clear hb0 rm r8 hA hU
  go_enter Try.func21, Try.ntmps21
  go_wp2_with fail
  refine (isCube_k c U HU.out _).mono ?_
  rintro e w1 ⟨rfl, rfl⟩
  obtain ⟨m0, m1, m2⟩ := three_cells RM.out
  cases U
  · obtain ⟨K, hK⟩ : ∃ K, cdV M a b ph 0 = K := ⟨_, rfl⟩
    have hk0 : cdV M a b ph c = K ∧ ¬ K = 0 := by
      have e0 : pwB 0 64 = false := by decide
      unfold cdV at hK ⊢
      rw [e0] at hK
      rw [HU.out]
      refine ⟨hK, fun h => ?_⟩
      rw [h] at hK
      split at hK
      · split at hK
        · rename_i q; exact absurd q.2 (by decide)
        · exact absurd hK (by decide)
      · exact absurd hK (by decide)
    obtain ⟨hk1, hk2⟩ := hk0
    have HK := Lib.hid hK
    have HV : Hid (mtV M a b ph c = (0, 0, K)) := by
      refine Lib.hid ?_
      unfold mtV; rw [hk1, if_neg hk2]
    have ek : (K != 0) = true := by simpa using hk2
    have HKN := Lib.hid hk2
    have SI := Lib.hid (fun (W : World) (A : Option Addr) (hAt : M.at W W.heap.size) (hP : Ints W W.heap.size .i64 A 3 [0, 0, 0]) => situation_any M a b ph 0 A 3 3 [0, 0, 0] W hAt HSZ.out hP (by omega) (fun h => absurd (HK.out.symm.trans h) HKN.out))
    have in0 := ints_new3 ((w.alloc (.cells #[.slice M.a M.n M.c, .slice M.b M.m M.d, .slice M.e M.p M.f] 26)).alloc (.cells #[.int .i64 0, .int .i64 0] 30)) 0 0 0
    simp only [World.size_alloc] at in0
    have IN := Lib.hid in0
    clear in0
    clear hK hk1 hk2
    go_wp2_with fail
    refine (SI.out _ _ (HA.out.keep ((Below.refl w.heap.size _).alloc (by first | (simp; done) | (simp; omega)) _) |>.more (by first | (simp; done) | (simp; omega))) (IN.out.more (by simp))).mono ?_
    rintro e w2 ⟨v, code, rfl, hb2, hc1, _⟩
    have hcode : code = K := (hc1 (by rw [HK.out]; exact HKN.out)).trans HK.out
    have z2 := hb2.size
    simp only [World.size_alloc] at z2
    have B3 := Lib.hid ((HB.out.alloc (by first | (simp; done) | (simp; omega)) (.cells #[.int .i64 0, .int .i64 0, .int .i64 0] 2)).trans (hb2.mono (by first | (simp; done) | (simp; omega))))
    have E3 := Lib.hid (rowIs_below (R8.out.alloc (.cells #[.int .i64 0, .int .i64 0, .int .i64 0] 2)) hb2 (by first | (simp; done) | (simp; omega)))
    obtain ⟨h0, h1, h2, h3⟩ := two_cells E3.out
    subst hcode
    have BF := Lib.hid ((B3.out.setCell (p := ⟨w.heap.size + 1, 0, none⟩) (by simp) (.int .i64 0)).setCell (p := ⟨w.heap.size + 1, 1, none⟩) (by simp) (.int .i64 0))
    obtain ⟨e0, e1, _, _⟩ := two_cells (two_set E3.out 0 0)
    clear hb2 hc1 m0 m1 m2
    go_wp2_with fail
    refine bodyPost_ret (v := .tuple #[shV 0 0, .int .i64 code]) (by simp [results, Try.results21, go_sem, e0, e1]) rfl (ShPost.mk rfl HV.out BF.out)
  obtain ⟨c1, c64⟩ := pwB_pos HU.out
  obtain ⟨K, hK⟩ : ∃ K, cdV M a b ph c = K := ⟨_, rfl⟩
  have HK := Lib.hid hK
  have hx2 : -2 * c = -(2 * c) := by omega
  have SI := Lib.hid (fun (W : World) (A : Option Addr) (hAt : M.at W W.heap.size) (hP : Ints W W.heap.size .i64 A 3 [c, 2 * c, -(2 * c)]) => situation_any M a b ph c A 3 3 [c, 2 * c, -(2 * c)] W hAt HSZ.out hP (by omega) (fun _ i hi => by
      match i, hi with
      | 0, _ => show ¬ c = 0 ∧ -1000 ≤ c ∧ c ≤ 1000; omega
      | 1, _ => show ¬ 2 * c = 0 ∧ -1000 ≤ 2 * c ∧ 2 * c ≤ 1000; omega
      | 2, _ => show ¬ -(2 * c) = 0 ∧ -1000 ≤ -(2 * c) ∧ -(2 * c) ≤ 1000; omega))
  have in0 := ints_new3 ((w.alloc (.cells #[.slice M.a M.n M.c, .slice M.b M.m M.d, .slice M.e M.p M.f] 26)).alloc (.cells #[.int .i64 0, .int .i64 0] 30)) c (2 * c) (-(2 * c))
  simp only [World.size_alloc] at in0
  have IN := Lib.hid in0
  clear in0
  clear hK
  go_wp2_with fail
  refine (SI.out _ _ (HA.out.keep ((Below.refl w.heap.size _).alloc (by first | (simp; done) | (simp; omega)) _) |>.more (by first | (simp; done) | (simp; omega))) (IN.out.more (by simp))).mono ?_
  rintro e w2 ⟨v, code, rfl, hb2, hc1, hc2⟩
  have z2 := hb2.size
  simp only [World.size_alloc] at z2
  have B3 := Lib.hid ((HB.out.alloc (by first | (simp; done) | (simp; omega)) (.cells #[.int .i64 c, .int .i64 (2 * c), .int .i64 (-(2 * c))] 2)).trans (hb2.mono (by first | (simp; done) | (simp; omega))))
  have E3 := Lib.hid (rowIs_below (R8.out.alloc (.cells #[.int .i64 c, .int .i64 (2 * c), .int .i64 (-(2 * c))] 2)) hb2 (by first | (simp; done) | (simp; omega)))
  have HC1 := Lib.hid hc1
  have HC2 := Lib.hid hc2
  obtain ⟨h0, h1, h2, h3⟩ := two_cells E3.out
  have BF0 := Lib.hid ((B3.out.setCell (p := ⟨w.heap.size + 1, 0, none⟩) (by simp) (.int .i64 0)).setCell (p := ⟨w.heap.size + 1, 1, none⟩) (by simp) (.int .i64 0))
  clear hb2 hc1 hc2 m0 m1 m2
  by_cases hk : K = 0
  · subst hk
    obtain ⟨kg, ks, kc, ka, kb⟩ := cdV_out HK.out
    have hM := Mm.good_ok kg GA.out
    have HMV : Hid (mtV M a b ph c = mtR (M.afK a.toNat b.toNat ph [c, 2 * c, -(2 * c)] 3)) := by
      refine Lib.hid ?_
      unfold mtV; rw [if_pos HK.out]
    clear kg ks kc ka kb
    rcases HC2.out HK.out with hyes | ⟨hno, hcode⟩
    · have HYES := Lib.hid hyes
      clear hyes
      obtain ⟨_, _, _, hcode, _⟩ := HYES.out
      subst hcode
      obtain ⟨xs, lo, hafk, _, hgs, hlo⟩ := HYES.out
      obtain ⟨k1, k2, k3, rfl, ⟨k10, k11⟩, ⟨k20, k21⟩, k30, k31⟩ := Mm.afK3 hM hafk
      obtain ⟨al, cl, rfl, hrow⟩ := hgs.row
      obtain ⟨gl, rfl, gl1, gl2, gl3, hcs⟩ := hrow.blk (by omega)
      have r1 := rest_ok k10 k11
      have r2 := rest_ok k20 k21
      have r3 := rest_ok k30 k31
      have q0 := (hcs 0 (by omega)).1
      have q1 := (hcs 1 (by omega)).1
      have q2 := (hcs 2 (by omega)).1
      have q3 := (hcs 3 (by omega)).1
      have q4 := (hcs 4 (by omega)).1
      have q5 := (hcs 5 (by omega)).1
      simp only [icell, List.getD_cons_zero, List.getD_cons_succ] at q0 q1 q2 q3 q4 q5
      obtain ⟨n1, hn1⟩ : ∃ n, sN k1 = n := ⟨_, rfl⟩
      obtain ⟨d1, hd1⟩ : ∃ d, sD k1 = d := ⟨_, rfl⟩
      obtain ⟨n2, hn2⟩ : ∃ n, sN k2 = n := ⟨_, rfl⟩
      obtain ⟨d2, hd2⟩ : ∃ d, sD k2 = d := ⟨_, rfl⟩
      obtain ⟨n3, hn3⟩ : ∃ n, sN k3 = n := ⟨_, rfl⟩
      obtain ⟨d3, hd3⟩ : ∃ d, sD k3 = d := ⟨_, rfl⟩
      rw [hn1, hd1, hn2, hd2, hn3, hd3] at hafk
      rw [hn1, hd1] at r1
      rw [hn2, hd2] at r2
      rw [hn3, hd3] at r3
      rw [hn1] at q0
      rw [hd1] at q1
      rw [hn2] at q2
      rw [hd2] at q3
      rw [hn3] at q4
      rw [hd3] at q5
      obtain ⟨u1, u2, u3, u4⟩ := r1
      obtain ⟨v1, v2, v3, v4⟩ := r2
      obtain ⟨x1, x2, x3, x4⟩ := r3
      have O1 := Lib.hid (fun W => otherChance_any n1 d1 W u1 u2 u3)
      have O2 := Lib.hid (fun W => otherChance_any n2 d2 W v1 v2 v3)
      have O3 := Lib.hid (fun W => otherChance_any n3 d3 W x1 x2 x3)
      have TP := Lib.hid (fun W => takePoint_any (d1 - n1) d1 (d2 - n2) d2 (d3 - n3) d3 W (shOk_of u4) (shOk_of v4) (shOk_of x4))
      obtain ⟨N, hN⟩ : ∃ N, (tpV (d1 - n1) d1 (d2 - n2) d2 (d3 - n3) d3).1 = N := ⟨_, rfl⟩
      obtain ⟨D, hD⟩ : ∃ D, (tpV (d1 - n1) d1 (d2 - n2) d2 (d3 - n3) d3).2.1 = D := ⟨_, rfl⟩
      obtain ⟨Z, hZ⟩ : ∃ Z, (tpV (d1 - n1) d1 (d2 - n2) d2 (d3 - n3) d3).2.2 = Z := ⟨_, rfl⟩
      rw [hN, hD, hZ] at TP
      have HV : Hid (mtV M a b ph c = (N, D, Z)) := by
        refine Lib.hid ?_
        rw [HMV.out, hafk, ← hN, ← hD, ← hZ]; rfl
      have E4 := Lib.hid E3.out.drew
      have B4 := Lib.hid B3.out.drew
      simp only [World.size_alloc] at hlo
      have hne : ¬ w.heap.size + 1 = gl := by omega
      have HQ := Lib.hid (show L6 w2 gl n1 d1 n2 d2 n3 d3 from ⟨q0, q1, q2, q3, q4, q5⟩)
      have hgl3 : gl < w2.heap.size := gl3
      clear hcs hrow hgs hafk hn1 hd1 hn2 hd2 hn3 hd3 hN hD hZ u4 v4 x4 k10 k11 k20 k21 k30 k31 hx2
      go_wp2_with fail
      go_region_held3 (fun w' => w'.cell? ⟨gl, 0, none⟩ = some (.int .i64 n1) ∧ w'.cell? ⟨gl, 1, none⟩ = some (.int .i64 d1) ∧ w'.cell? ⟨gl, 2, none⟩ = some (.int .i64 n2) ∧ w'.cell? ⟨gl, 3, none⟩ = some (.int .i64 d2) ∧ w'.cell? ⟨gl, 4, none⟩ = some (.int .i64 n3) ∧ w'.cell? ⟨gl, 5, none⟩ = some (.int .i64 d3))
        (first | exact HQ.out | exact KS.out _ _ | go_keep)
        (first
          | (go_at_call 47; (with_reducible refine (O1.out w2.drew).mono ?_); rintro e p1 ⟨rfl, hb⟩; replace HQ := Lib.hid (L6.below (w := w2.drew) HQ.out hb hgl3); have s1 : w2.heap.size ≤ p1.heap.size := hb.size; obtain ⟨y0, y1, y2, y3, y4, y5⟩ := HQ.out; have E5 := Lib.hid (rowIs_below E4.out hb E4.out.lt); have B5 := Lib.hid (B4.out.trans (hb.mono B4.out.size)); clear hb)
          | (go_at_call 47; (with_reducible refine (O2.out p1).mono ?_); rintro e p2 ⟨rfl, hb⟩; replace HQ := Lib.hid (HQ.out.below hb (by omega)); have s2 := hb.size; obtain ⟨i0, i1, i2, i3, i4, i5⟩ := HQ.out; have E6 := Lib.hid (rowIs_below E5.out hb E5.out.lt); have B6 := Lib.hid (B5.out.trans (hb.mono B5.out.size)); clear hb)
          | (go_at_call 47; (with_reducible refine (O3.out p2).mono ?_); rintro e p3 ⟨rfl, hb⟩; replace HQ := Lib.hid (HQ.out.below hb (by omega)); have s3 := hb.size; obtain ⟨f0, f1, f2, f3, f4, f5⟩ := HQ.out; have E7 := Lib.hid (rowIs_below E6.out hb E6.out.lt); have B7 := Lib.hid (B6.out.trans (hb.mono B6.out.size)); clear hb)
          | (go_at_call 61; (with_reducible refine (TP.out p3).mono ?_); rintro e p4 ⟨rfl, hb⟩; replace HQ := Lib.hid (HQ.out.below hb (by omega)); have s4 := hb.size; have KS := Lib.hid (fun (v1 v2 : Value) => (HQ.out.set (i := 0) hne v1).set (i := 1) hne v2); have E8 := Lib.hid (rowIs_below E7.out hb E7.out.lt); have B8 := Lib.hid (B7.out.trans (hb.mono B7.out.size)); obtain ⟨j0, j1, j2, j3⟩ := two_cells E8.out; clear hb)
          | fail)
      have BF := Lib.hid ((B8.out.setCell (p := ⟨w.heap.size + 1, 0, none⟩) (by simp) (.int .i64 N)).setCell (p := ⟨w.heap.size + 1, 1, none⟩) (by simp) (.int .i64 D))
      obtain ⟨e0, e1, _, _⟩ := two_cells (two_set E8.out N D)
      go_wp2_with fail
      refine bodyPost_ret (v := .tuple #[shV N D, .int .i64 Z]) (by simp [results, Try.results21, go_sem, e0, e1]) rfl (ShPost.mk rfl HV.out BF.out)
    · subst hcode
      have HV : Hid (mtV M a b ph c = (0, 0, 3)) := by
        refine Lib.hid ?_
        rw [HMV.out, hno]; rfl
      obtain ⟨e0, e1, _, _⟩ := two_cells (two_set E3.out 0 0)
      clear hno
      go_wp2_with fail
      refine bodyPost_ret (v := .tuple #[shV 0 0, .int .i64 3]) (by simp [results, Try.results21, go_sem, e0, e1]) rfl (ShPost.mk rfl HV.out BF0.out)
  · have ek : (K != 0) = true := by simpa using hk
    have hcode : code = K := (HC1.out (by rw [HK.out]; exact hk)).trans HK.out
    subst hcode
    have HV : Hid (mtV M a b ph c = (0, 0, code)) := by
      refine Lib.hid ?_
      unfold mtV; rw [HK.out, if_neg hk]
    obtain ⟨e0, e1, _, _⟩ := two_cells (two_set E3.out 0 0)
    clear hk
    go_wp2_with fail
    refine bodyPost_ret (v := .tuple #[shV 0 0, .int .i64 code]) (by simp [results, Try.results21, go_sem, e0, e1]) rfl (ShPost.mk rfl HV.out BF0.out)
end Go.Proofs.Ytkioliioakmepaa
