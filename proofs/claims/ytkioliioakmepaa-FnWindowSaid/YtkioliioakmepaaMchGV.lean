/-
  The walk of GammonValue of the program (printed by gen_gv.py).
-/
import Derived.Test.YtkioliioakmepaaMchDP
namespace Go.Proofs.Ytkioliioakmepaa
open Go.ChangeShapes Go.WideShapes Go.ChangeAt Go.RowKit
set_option linter.unusedVariables false

/-- P to Q as a share and a code -/
def gvP (P Q : Int) : Int × Int × Int := if loB P Q = true ∧ P ≤ Q then (loN P Q, loD P Q, 0) else (0, 0, 3)
def gvQ (P Q : Int) (ft : Bool) : Int × Int × Int := if Q ≤ 0 ∨ P < 0 then (0, 0, 5) else if ft = false then (0, 0, 3) else gvP P Q
def gvR (L : Option (List Int)) : Int × Int × Int := match L with
  | some [n0, d0, n1, d1, n2, d2] => gvQ (n0 * (SC / d0) - n1 * (SC / d1)) (n1 * (SC / d1) - n2 * (SC / d2)) (fitsB [n0, d0, n1, d1, n2, d2] 3)
  | _ => (0, 0, 3)
/-- what both packages' GammonValue returns -/
def gvV (M : Mm) (a b ph c : Int) : Int × Int × Int := if cdV M a b ph c = 0 then gvR (M.afK a.toNat b.toNat ph [2 * c, c, -c] 3) else (0, 0, cdV M a b ph c)
theorem Sm.gv {K M : Mm} (h : Sm K M) (a b ph c : Int) : gvV K a b ph c = gvV M a b ph c := by unfold gvV; rw [h.cd, h.afK]
/-- three cells -/
def L3 (w : World) (g : Nat) (a b c : Int) : Prop := w.cell? ⟨g, 0, none⟩ = some (.int .i64 a) ∧ w.cell? ⟨g, 1, none⟩ = some (.int .i64 b) ∧ w.cell? ⟨g, 2, none⟩ = some (.int .i64 c)
theorem rowIs_other {w : World} {g t n : Nat} {f : Nat → Value} (h : w.rowIs g t n f) {b : Nat} (hne : ¬ b = g) (i : Nat) (u : Value) : (w.setCell ⟨b, i, none⟩ u).rowIs g t n f :=
  h.setOther (a := ⟨b, i, none⟩) (by simpa using Ne.symm hne) u
theorem L3.below {w w' : World} {g B : Nat} {a b c : Int} (h : L3 w g a b c) (hb : Below B w w') (hg : g < B) : L3 w' g a b c :=
  ⟨(hb.cell (p := ⟨g, 0, none⟩) hg).trans h.1, (hb.cell (p := ⟨g, 1, none⟩) hg).trans h.2.1, (hb.cell (p := ⟨g, 2, none⟩) hg).trans h.2.2⟩
theorem L3.drew {w : World} {g : Nat} {a b c : Int} (h : L3 w g a b c) : L3 w.drew g a b c := h
theorem L3.alloc {w : World} {g : Nat} {a b c : Int} (h : L3 w g a b c) (o : Obj) : L3 (w.alloc o) g a b c :=
  ⟨(World.cell?_alloc_some w _ o (by rw [h.1]; rfl)).trans h.1, (World.cell?_alloc_some w _ o (by rw [h.2.1]; rfl)).trans h.2.1, (World.cell?_alloc_some w _ o (by rw [h.2.2]; rfl)).trans h.2.2⟩
theorem L3.set {w : World} {g b i : Nat} {a1 b1 c : Int} (h : L3 w g a1 b1 c) (hne : ¬ b = g) (u : Value) : L3 (w.setCell ⟨b, i, none⟩ u) g a1 b1 c := by
  obtain ⟨h0, h1, h2⟩ := h
  refine ⟨?_, ?_, ?_⟩
  all_goals (rw [World.cell?_setCell_far _ _ _ _ hne]; assumption)
theorem gvP_scale {P Q T : Int} (hT : 0 < T) (hQ : 0 < Q) : gvP (P * T) (Q * T) = gvP P Q := by
  have h := lo_cross (a := P * T) (b := Q * T) (c := P) (d := Q) (Int.mul_pos hQ hT) hQ (by ac_rfl)
  have e : (P * T ≤ Q * T) ↔ (P ≤ Q) := ⟨fun k => Int.le_of_mul_le_mul_right k hT, fun k => Int.mul_le_mul_of_nonneg_right k (by omega)⟩
  unfold gvP
  rw [h.1, h.2.1, h.2.2]
  simp only [e]
set_option maxHeartbeats 3200000 in
theorem impl_GammonValue_any (M : Mm) (a b ph c : Int) (w : World) (hA : M.at w w.heap.size) (hs : M.sz) :
    Calls Try.prog 18 #[M.V, .int .i64 a, .int .i64 b, .int .i64 ph, .int .i64 c] w fun e w' => ShPost (gvV M a b ph c) w e w' := by
  have hb0 := ((Below.refl w.heap.size w).alloc (Nat.le_refl _) (.cells #[.slice M.a M.n M.c, .slice M.b M.m M.d, .slice M.e M.p M.f] 26)).alloc (by simp) (.cells #[.int .i64 0, .int .i64 0] 30)
  have HB := Lib.hid hb0
  have HA := Lib.hid (hA.keep hb0)
  have rm := (three_new w (.slice M.a M.n M.c) (.slice M.b M.m M.d) (.slice M.e M.p M.f) 26).alloc (.cells #[.int .i64 0, .int .i64 0] 30)
  have r8 := two_new (w.alloc (.cells #[.slice M.a M.n M.c, .slice M.b M.m M.d, .slice M.e M.p M.f] 26)) 0 0 30
  rw [World.size_alloc] at r8
  have RM := Lib.hid rm
  have R8 := Lib.hid r8
  have GA := Lib.hid hA
  have HSZ := Lib.hid hs
  obtain ⟨U, hU⟩ : ∃ U, pwB c 64 = U := ⟨_, rfl⟩
  have HU := Lib.hid hU
  clear hb0 rm r8 hA hU
  go_enter Try.func18, Try.ntmps18
  go_wp2_with fail
  refine (isCube_k c U HU.out _).mono ?_
  rintro e w1 ⟨rfl, rfl⟩
  obtain ⟨m0, m1, m2⟩ := three_cells RM.out
  cases U
  · obtain ⟨K, hK⟩ : ∃ K, cdV M a b ph 0 = K := ⟨_, rfl⟩
    have hk0 : cdV M a b ph c = K ∧ ¬ K = 0 := by
      have e0 : pwB 0 64 = false := by decide
      unfold cdV at hK ⊢
      rw [e0] at hK
      rw [HU.out]
      refine ⟨hK, fun h => ?_⟩
      rw [h] at hK
      split at hK
      · split at hK
        · rename_i q; exact absurd q.2 (by decide)
        · exact absurd hK (by decide)
      · exact absurd hK (by decide)
    obtain ⟨hk1, hk2⟩ := hk0
    have HK := Lib.hid hK
    have HV : Hid (gvV M a b ph c = (0, 0, K)) := by
      refine Lib.hid ?_
      unfold gvV; rw [hk1, if_neg hk2]
    have ek : (K != 0) = true := by simpa using hk2
    have HKN := Lib.hid hk2
    have SI := Lib.hid (fun (W : World) (A : Option Addr) (hAt : M.at W W.heap.size) (hP : Ints W W.heap.size .i64 A 3 [0, 0, 0]) => situation_any M a b ph 0 A 3 3 [0, 0, 0] W hAt HSZ.out hP (by omega) (fun h => absurd (HK.out.symm.trans h) HKN.out))
    have in0 := ints_new3 ((w.alloc (.cells #[.slice M.a M.n M.c, .slice M.b M.m M.d, .slice M.e M.p M.f] 26)).alloc (.cells #[.int .i64 0, .int .i64 0] 30)) 0 0 0
    simp only [World.size_alloc] at in0
    have IN := Lib.hid in0
    clear in0
    clear hK hk1 hk2
    go_wp2_with fail
    refine (SI.out _ _ (HA.out.keep ((Below.refl w.heap.size _).alloc (by first | (simp; done) | (simp; omega)) _) |>.more (by first | (simp; done) | (simp; omega))) (IN.out.more (by simp))).mono ?_
    rintro e w2 ⟨v, code, rfl, hb2, hc1, _⟩
    have hcode : code = K := (hc1 (by rw [HK.out]; exact HKN.out)).trans HK.out
    have z2 := hb2.size
    simp only [World.size_alloc] at z2
    have B3 := Lib.hid ((HB.out.alloc (by first | (simp; done) | (simp; omega)) (.cells #[.int .i64 0, .int .i64 0, .int .i64 0] 2)).trans (hb2.mono (by first | (simp; done) | (simp; omega))))
    have E3 := Lib.hid (rowIs_below (R8.out.alloc (.cells #[.int .i64 0, .int .i64 0, .int .i64 0] 2)) hb2 (by first | (simp; done) | (simp; omega)))
    obtain ⟨h0, h1, h2, h3⟩ := two_cells E3.out
    subst hcode
    have BF := Lib.hid ((B3.out.setCell (p := ⟨w.heap.size + 1, 0, none⟩) (by simp) (.int .i64 0)).setCell (p := ⟨w.heap.size + 1, 1, none⟩) (by simp) (.int .i64 0))
    obtain ⟨e0, e1, _, _⟩ := two_cells (two_set E3.out 0 0)
    clear hb2 hc1 m0 m1 m2
    go_wp2_with fail
    refine bodyPost_ret (v := .tuple #[shV 0 0, .int .i64 code]) (by simp [results, Try.results18, go_sem, e0, e1]) rfl (ShPost.mk rfl HV.out BF.out)
  obtain ⟨c1, c64⟩ := pwB_pos HU.out
  obtain ⟨K, hK⟩ : ∃ K, cdV M a b ph c = K := ⟨_, rfl⟩
  have HK := Lib.hid hK
  have SI := Lib.hid (fun (W : World) (A : Option Addr) (hAt : M.at W W.heap.size) (hP : Ints W W.heap.size .i64 A 3 [2 * c, c, -c]) => situation_any M a b ph c A 3 3 [2 * c, c, -c] W hAt HSZ.out hP (by omega) (fun _ i hi => by
      match i, hi with
      | 0, _ => show ¬ 2 * c = 0 ∧ -1000 ≤ 2 * c ∧ 2 * c ≤ 1000; omega
      | 1, _ => show ¬ c = 0 ∧ -1000 ≤ c ∧ c ≤ 1000; omega
      | 2, _ => show ¬ -c = 0 ∧ -1000 ≤ -c ∧ -c ≤ 1000; omega))
  have in0 := ints_new3 ((w.alloc (.cells #[.slice M.a M.n M.c, .slice M.b M.m M.d, .slice M.e M.p M.f] 26)).alloc (.cells #[.int .i64 0, .int .i64 0] 30)) (2 * c) c (-c)
  simp only [World.size_alloc] at in0
  have IN := Lib.hid in0
  clear in0
  clear hK
  go_wp2_with fail
  refine (SI.out _ _ (HA.out.keep ((Below.refl w.heap.size _).alloc (by first | (simp; done) | (simp; omega)) _) |>.more (by first | (simp; done) | (simp; omega))) (IN.out.more (by simp))).mono ?_
  rintro e w2 ⟨v, code, rfl, hb2, hc1, hc2⟩
  have z2 := hb2.size
  simp only [World.size_alloc] at z2
  have B3 := Lib.hid ((HB.out.alloc (by first | (simp; done) | (simp; omega)) (.cells #[.int .i64 (2 * c), .int .i64 c, .int .i64 (-c)] 2)).trans (hb2.mono (by first | (simp; done) | (simp; omega))))
  have E3 := Lib.hid (rowIs_below (R8.out.alloc (.cells #[.int .i64 (2 * c), .int .i64 c, .int .i64 (-c)] 2)) hb2 (by first | (simp; done) | (simp; omega)))
  have HC1 := Lib.hid hc1
  have HC2 := Lib.hid hc2
  obtain ⟨h0, h1, h2, h3⟩ := two_cells E3.out
  have BF0 := Lib.hid ((B3.out.setCell (p := ⟨w.heap.size + 1, 0, none⟩) (by simp) (.int .i64 0)).setCell (p := ⟨w.heap.size + 1, 1, none⟩) (by simp) (.int .i64 0))
  clear hb2 hc1 hc2 m0 m1 m2
  by_cases hk : K = 0
  · subst hk
    obtain ⟨kg, ks, kc, ka, kb⟩ := cdV_out HK.out
    have hM := Mm.good_ok kg GA.out
    have HMV : Hid (gvV M a b ph c = gvR (M.afK a.toNat b.toNat ph [2 * c, c, -c] 3)) := by
      refine Lib.hid ?_
      unfold gvV; rw [if_pos HK.out]
    clear kg ks kc ka kb
    rcases HC2.out HK.out with hyes | ⟨hno, hcode⟩
    · have HYES := Lib.hid hyes
      clear hyes
      obtain ⟨_, _, _, hcode, _⟩ := HYES.out
      subst hcode
      obtain ⟨xs, lo, hafk, _, hgs, hlo⟩ := HYES.out
      obtain ⟨k0, k1, k2, rfl, ⟨k00, k01⟩, ⟨k10, k11⟩, k20, k21⟩ := Mm.afK3 hM hafk
      obtain ⟨al, cl, rfl, hrow⟩ := hgs.row
      have hints := hrow.ints rfl
      obtain ⟨gl, rfl, gl1, gl2, gl3, hcs⟩ := hrow.blk (by omega)
      have SA : Hid (ShAt w2 gl 3 [k0, k1, k2]) := by
        refine Lib.hid (fun i hi => ?_)
        match i, hi with
        | 0, _ => exact ⟨(hcs 0 (by omega)).1, (hcs 1 (by omega)).1⟩
        | 1, _ => exact ⟨(hcs 2 (by omega)).1, (hcs 3 (by omega)).1⟩
        | 2, _ => exact ⟨(hcs 4 (by omega)).1, (hcs 5 (by omega)).1⟩
      have CD := Lib.hid (commonDen_any gl 3 cl [k0, k1, k2] w2 SA.out gl3 (by omega) (fun i hi => by
        match i, hi with
        | 0, _ => exact ⟨k00, k01⟩
        | 1, _ => exact ⟨k10, k11⟩
        | 2, _ => exact ⟨k20, k21⟩))
      have HV0 : Hid (gvV M a b ph c = gvQ (k0 - k1) (k1 - k2) (fitsB [sN k0, sD k0, sN k1, sD k1, sN k2, sD k2] 3)) := by
        refine Lib.hid ?_
        rw [HMV.out, hafk]
        show gvQ (sN k0 * (SC / sD k0) - sN k1 * (SC / sD k1)) (sN k1 * (SC / sD k1) - sN k2 * (SC / sD k2)) _ = _
        rw [(s_facts k00 k01).2.2.2.2.2.2, (s_facts k10 k11).2.2.2.2.2.2, (s_facts k20 k21).2.2.2.2.2.2]
      have SD := Lib.hid (fun (W : World) (hb : Below w2.heap.size w2 W) => smallDens_any (some ⟨gl, 0, none⟩) 3 cl [sN k0, sD k0, sN k1, sD k1, sN k2, sD k2] w2.heap.size W (hints.below hb) hb.size (by omega) (by omega))
      obtain ⟨ft, hft⟩ : ∃ ft, fitsB [sN k0, sD k0, sN k1, sD k1, sN k2, sD k2] 3 = ft := ⟨_, rfl⟩
      rw [hft] at SD HV0
      clear hcs hrow hgs hafk hft hints
      go_wp2_with fail
      refine CD.out.mono ?_
      rintro e w3 ⟨gn, den, f, rfl, hd2, hf, hrn, hgn, hb3⟩
      have z3 := hb3.size
      have gq := hd2.qpos D2.sc hd2.le
      obtain ⟨T, hT⟩ : ∃ T, SC / den = T := ⟨_, rfl⟩
      rw [hT] at gq hf
      have e0 : f 0 * T = k0 ∧ 0 ≤ f 0 := hf 0 (by omega)
      have e1 : f 1 * T = k1 ∧ 0 ≤ f 1 := hf 1 (by omega)
      have e2 : f 2 * T = k2 ∧ 0 ≤ f 2 := hf 2 (by omega)
      have q0 := hrn.cell (i := 0) (by omega)
      have q1 := hrn.cell (i := 1) (by omega)
      have q2 := hrn.cell (i := 2) (by omega)
      obtain ⟨g0, hg0⟩ : ∃ x, f 0 = x := ⟨_, rfl⟩
      obtain ⟨g1, hg1⟩ : ∃ x, f 1 = x := ⟨_, rfl⟩
      obtain ⟨g2, hg2⟩ : ∃ x, f 2 = x := ⟨_, rfl⟩
      rw [hg0] at q0 e0
      rw [hg1] at q1 e1
      rw [hg2] at q2 e2
      have SC1 : SC = 562949953421312 := rfl
      have b0 := le_grow e0.2 gq e0.1
      have b1 := le_grow e1.2 gq e1.1
      have b2 := le_grow e2.2 gq e2.1
      rw [SC1] at k01 k11 k21
      obtain ⟨P, hP⟩ : ∃ P, g0 - g1 = P := ⟨_, rfl⟩
      obtain ⟨Q, hQ⟩ : ∃ Q, g1 - g2 = Q := ⟨_, rfl⟩
      have eP : k0 - k1 = P * T := by rw [← hP, Int.sub_mul, e0.1, e1.1]
      have eQ : k1 - k2 = Q * T := by rw [← hQ, Int.sub_mul, e1.1, e2.1]
      rw [eP, eQ] at HV0
      obtain ⟨_, p0⟩ := e0
      obtain ⟨_, p1⟩ := e1
      obtain ⟨_, p2⟩ := e2
      have wr1 : IntKind.i64.wrap (g0 - g1) = P := by rw [hP]; exact IntWalk.i64_in _ (by omega)
      have wr2 : IntKind.i64.wrap (g1 - g2) = Q := by rw [hQ]; exact IntWalk.i64_in _ (by omega)
      have cQ : g1 ≤ g2 ↔ Q ≤ 0 := by omega
      have cP : g0 < g1 ↔ P < 0 := by omega
      have P1 : P ≤ 562949953421312 := by omega
      have Q1 : Q ≤ 562949953421312 := by omega
      have B4 := Lib.hid (B3.out.trans (hb3.mono B3.out.size))
      have E4 := Lib.hid (rowIs_below E3.out hb3 E3.out.lt)
      have HBD := Lib.hid hb3
      have RN := Lib.hid hrn
      have QI := Lib.hid (And.intro hg0 (And.intro hg1 hg2))
      have BF5 := Lib.hid ((B4.out.setCell (p := ⟨w.heap.size + 1, 0, none⟩) (by simp) (.int .i64 0)).setCell (p := ⟨w.heap.size + 1, 1, none⟩) (by simp) (.int .i64 0)).drew
      obtain ⟨h0, h1, h2, h3⟩ := two_cells E4.out
      obtain ⟨j0, j1, _, _⟩ := two_cells (two_set E4.out 0 0).drew
      clear hf hrn hg0 hg1 hg2 hP hQ eP eQ SC1 b0 b1 b2 hb3 hT
      have HQ := Lib.hid (show L3 w3 gn g0 g1 g2 from ⟨q0, q1, q2⟩)
      by_cases tQ : g1 ≤ g2
      · have HV : Hid (gvV M a b ph c = (0, 0, 5)) := HV0.out.trans (if_pos (.inl (Int.mul_nonpos_of_nonpos_of_nonneg (cQ.1 tQ) (by omega))))
        have hdq : decide (g1 ≤ g2) = true := decide_eq_true tQ
        clear cQ cP tQ
        go_wp2_with fail
        refine wp_region_held_drew (S := fun w' => w'.cell? ⟨gn, 0, none⟩ = some (.int .i64 g0) ∧ w'.cell? ⟨gn, 1, none⟩ = some (.int .i64 g1) ∧ w'.cell? ⟨gn, 2, none⟩ = some (.int .i64 g2)) (by kernel_rfl) ?_ (fun hHeld => ?_)
        · exact HQ.out
        refine wpAnyH_take (i := 0) (oi := ?oa0) (v := ?va0) ?hia0 (by kernel_rfl) (by kernel_rfl) (by kernel_rfl) ?hqa0 (Or.inl ⟨?hwa0, ?hya0⟩) (by assumption) ?_
        case hia0 => (simp only [List.getElem?_toArray, List.getElem?_cons_zero]; all_goals rfl)
        case hqa0 => exact fun _ _ _ h => h
        case hwa0 => rfl
        case hya0 => ((intro w hSw; (try dsimp only at hSw); go_simp); all_goals (first | with_reducible rfl))
        try simp only [Act.put, List.setIfInBounds_toArray, List.set_cons_zero, List.set_cons_succ]
        refine wpAnyH_take (i := 1) (oi := ?oa1) (v := ?va1) ?hia1 (by kernel_rfl) (by kernel_rfl) (by kernel_rfl) ?hqa1 (Or.inl ⟨?hwa1, ?hya1⟩) (by assumption) ?_
        case hia1 => (simp only [List.getElem?_toArray, List.getElem?_cons_succ, List.getElem?_cons_zero]; all_goals rfl)
        case hqa1 => exact fun _ _ _ h => h
        case hwa1 => rfl
        case hya1 => ((intro w hSw; (try dsimp only at hSw); go_simp); all_goals (first | with_reducible rfl))
        try simp only [Act.put, List.setIfInBounds_toArray, List.set_cons_zero, List.set_cons_succ]
        refine wpAnyH_take (i := 2) (oi := ?oa2) (v := ?va2) ?hia2 (by kernel_rfl) (by kernel_rfl) (by kernel_rfl) ?hqa2 (Or.inl ⟨?hwa2, ?hya2⟩) (by assumption) ?_
        case hia2 => (simp only [List.getElem?_toArray, List.getElem?_cons_succ, List.getElem?_cons_zero]; all_goals rfl)
        case hqa2 => exact fun _ _ _ h => h
        case hwa2 => rfl
        case hya2 => ((intro w hSw; (try dsimp only at hSw); go_simp); all_goals (first | with_reducible rfl))
        try simp only [Act.put, List.setIfInBounds_toArray, List.set_cons_zero, List.set_cons_succ]
        refine wpAnyH_take (i := 3) (oi := ?oa3) (v := ?va3) ?hia3 (by kernel_rfl) (by kernel_rfl) (by kernel_rfl) ?hqa3 (Or.inl ⟨?hwa3, ?hya3⟩) (by assumption) ?_
        case hia3 => (simp only [List.getElem?_toArray, List.getElem?_cons_succ, List.getElem?_cons_zero]; all_goals rfl)
        case hqa3 => exact fun _ _ _ h => h
        case hwa3 => rfl
        case hya3 => ((intro w hSw; (try dsimp only at hSw); go_simp); all_goals (first | with_reducible rfl))
        try simp only [Act.put, List.setIfInBounds_toArray, List.set_cons_zero, List.set_cons_succ]
        refine wpAnyH_take (i := 4) (oi := ?oa4) (v := ?va4) ?hia4 (by kernel_rfl) (by kernel_rfl) (by kernel_rfl) ?hqa4 (Or.inl ⟨?hwa4, ?hya4⟩) (by assumption) ?_
        case hia4 => (simp only [List.getElem?_toArray, List.getElem?_cons_succ, List.getElem?_cons_zero]; all_goals rfl)
        case hqa4 => exact fun _ _ _ h => h
        case hwa4 => rfl
        case hya4 => ((intro w hSw; (try dsimp only at hSw); go_simp); all_goals (first | with_reducible rfl))
        try simp only [Act.put, List.setIfInBounds_toArray, List.set_cons_zero, List.set_cons_succ]
        refine wpAnyH_take (i := 5) (oi := ?oa5) (v := ?va5) ?hia5 (by kernel_rfl) (by kernel_rfl) (by kernel_rfl) ?hqa5 (Or.inl ⟨?hwa5, ?hya5⟩) (by assumption) ?_
        case hia5 => (simp only [List.getElem?_toArray, List.getElem?_cons_succ, List.getElem?_cons_zero]; all_goals rfl)
        case hqa5 => exact fun _ _ _ h => h
        case hwa5 => rfl
        case hya5 => ((intro w hSw; (try dsimp only at hSw); go_simp); all_goals (first | with_reducible rfl))
        try simp only [Act.put, List.setIfInBounds_toArray, List.set_cons_zero, List.set_cons_succ]
        refine wpAnyH_take (i := 6) (oi := ?oa6) (v := ?va6) ?hia6 (by kernel_rfl) (by kernel_rfl) (by kernel_rfl) ?hqa6 (Or.inl ⟨?hwa6, ?hya6⟩) (by assumption) ?_
        case hia6 => (simp only [List.getElem?_toArray, List.getElem?_cons_succ, List.getElem?_cons_zero]; all_goals rfl)
        case hqa6 => exact fun _ _ _ h => h
        case hwa6 => rfl
        case hya6 => ((intro w hSw; (try dsimp only at hSw); go_simp); all_goals (first | with_reducible rfl))
        try simp only [Act.put, List.setIfInBounds_toArray, List.set_cons_zero, List.set_cons_succ]
        refine wpAnyH_take (i := 7) (oi := ?oa7) (v := ?va7) ?hia7 (by kernel_rfl) (by kernel_rfl) (by kernel_rfl) ?hqa7 (Or.inl ⟨?hwa7, ?hya7⟩) (by assumption) ?_
        case hia7 => (simp only [List.getElem?_toArray, List.getElem?_cons_succ, List.getElem?_cons_zero]; all_goals rfl)
        case hqa7 => exact fun _ _ _ h => h
        case hwa7 => rfl
        case hya7 => ((intro w hSw; (try dsimp only at hSw); go_simp); all_goals (first | with_reducible rfl))
        try simp only [Act.put, List.setIfInBounds_toArray, List.set_cons_zero, List.set_cons_succ]
        refine wpAnyH_take (i := 8) (oi := ?oa8) (v := undef) ?hia8 (by kernel_rfl) (by kernel_rfl) (by kernel_rfl) ?hqa8 (Or.inr ⟨?hwa8, ?hva8⟩) (by assumption) ?_
        case hia8 => (simp only [List.getElem?_toArray, List.getElem?_cons_succ, List.getElem?_cons_zero]; all_goals rfl)
        case hqa8 => exact fun _ _ _ h => h
        case hwa8 => rfl
        case hva8 => rfl
        try simp only [Act.put, List.setIfInBounds_toArray, List.set_cons_zero, List.set_cons_succ]
        refine wpAnyH_take (i := 9) (oi := ?oa9) (v := undef) ?hia9 (by kernel_rfl) (by kernel_rfl) (by kernel_rfl) ?hqa9 (Or.inr ⟨?hwa9, ?hva9⟩) (by assumption) ?_
        case hia9 => (simp only [List.getElem?_toArray, List.getElem?_cons_succ, List.getElem?_cons_zero]; all_goals rfl)
        case hqa9 => exact fun _ _ _ h => h
        case hwa9 => rfl
        case hva9 => rfl
        try simp only [Act.put, List.setIfInBounds_toArray, List.set_cons_zero, List.set_cons_succ]
        refine wpAnyH_take (i := 10) (oi := ?oa10) (v := undef) ?hia10 (by kernel_rfl) (by kernel_rfl) (by kernel_rfl) ?hqa10 (Or.inr ⟨?hwa10, ?hva10⟩) (by assumption) ?_
        case hia10 => (simp only [List.getElem?_toArray, List.getElem?_cons_succ, List.getElem?_cons_zero]; all_goals rfl)
        case hqa10 => exact fun _ _ _ h => h
        case hwa10 => rfl
        case hva10 => rfl
        try simp only [Act.put, List.setIfInBounds_toArray, List.set_cons_zero, List.set_cons_succ]
        refine wpAnyH_take (i := 11) (oi := ?oa11) (v := undef) ?hia11 (by kernel_rfl) (by kernel_rfl) (by kernel_rfl) ?hqa11 (Or.inr ⟨?hwa11, ?hva11⟩) (by assumption) ?_
        case hia11 => (simp only [List.getElem?_toArray, List.getElem?_cons_succ, List.getElem?_cons_zero]; all_goals rfl)
        case hqa11 => exact fun _ _ _ h => h
        case hwa11 => rfl
        case hva11 => rfl
        try simp only [Act.put, List.setIfInBounds_toArray, List.set_cons_zero, List.set_cons_succ]
        refine wpAnyH_take (i := 12) (oi := ?oa12) (v := undef) ?hia12 (by kernel_rfl) (by kernel_rfl) (by kernel_rfl) ?hqa12 (Or.inr ⟨?hwa12, ?hva12⟩) (by assumption) ?_
        case hia12 => (simp only [List.getElem?_toArray, List.getElem?_cons_succ, List.getElem?_cons_zero]; all_goals rfl)
        case hqa12 => exact fun _ _ _ h => h
        case hwa12 => rfl
        case hva12 => rfl
        try simp only [Act.put, List.setIfInBounds_toArray, List.set_cons_zero, List.set_cons_succ]
        refine wpAnyH_take (i := 13) (oi := ?oa13) (v := undef) ?hia13 (by kernel_rfl) (by kernel_rfl) (by kernel_rfl) ?hqa13 (Or.inr ⟨?hwa13, ?hva13⟩) (by assumption) ?_
        case hia13 => (simp only [List.getElem?_toArray, List.getElem?_cons_succ, List.getElem?_cons_zero]; all_goals rfl)
        case hqa13 => exact fun _ _ _ h => h
        case hwa13 => rfl
        case hva13 => rfl
        try simp only [Act.put, List.setIfInBounds_toArray, List.set_cons_zero, List.set_cons_succ]
        refine wpAnyH_take (i := 14) (oi := ?oa14) (v := undef) ?hia14 (by kernel_rfl) (by kernel_rfl) (by kernel_rfl) ?hqa14 (Or.inr ⟨?hwa14, ?hva14⟩) (by assumption) ?_
        case hia14 => (simp only [List.getElem?_toArray, List.getElem?_cons_succ, List.getElem?_cons_zero]; all_goals rfl)
        case hqa14 => exact fun _ _ _ h => h
        case hwa14 => rfl
        case hva14 => rfl
        try simp only [Act.put, List.setIfInBounds_toArray, List.set_cons_zero, List.set_cons_succ]
        refine wpAnyH_take (i := 15) (oi := ?oa15) (v := ?va15) ?hia15 (by kernel_rfl) (by kernel_rfl) (by kernel_rfl) ?hqa15 (Or.inl ⟨?hwa15, ?hya15⟩) (by assumption) ?_
        case hia15 => (simp only [List.getElem?_toArray, List.getElem?_cons_succ, List.getElem?_cons_zero]; all_goals rfl)
        case hqa15 => exact fun _ _ _ h => h
        case hwa15 => rfl
        case hya15 => ((intro w hSw; (try dsimp only at hSw); go_simp); all_goals (first | with_reducible rfl))
        try simp only [Act.put, List.setIfInBounds_toArray, List.set_cons_zero, List.set_cons_succ]
        refine wpAnyH_done (by kernel_rfl) ?_ _
        go_wp2_with fail
        refine bodyPost_ret (v := .tuple #[shV 0 0, .int .i64 5]) (by simp [results, Try.results18, go_sem, j0, j1]) rfl (ShPost.mk rfl HV.out BF5.out)
      have Q0 : 0 < Q := by omega
      have hdq : decide (g1 ≤ g2) = false := decide_eq_false tQ
      by_cases tP : g0 < g1
      · have HV : Hid (gvV M a b ph c = (0, 0, 5)) := HV0.out.trans (if_pos (.inr (Int.mul_neg_of_neg_of_pos (cP.1 tP) gq)))
        have hdp : decide (g0 < g1) = true := decide_eq_true tP
        clear cQ cP tQ tP
        go_wp2_with fail
        refine wp_region_held_drew (S := fun w' => w'.cell? ⟨gn, 0, none⟩ = some (.int .i64 g0) ∧ w'.cell? ⟨gn, 1, none⟩ = some (.int .i64 g1) ∧ w'.cell? ⟨gn, 2, none⟩ = some (.int .i64 g2)) (by kernel_rfl) ?_ (fun hHeld => ?_)
        · exact HQ.out
        refine wpAnyH_take (i := 0) (oi := ?ob0) (v := ?vb0) ?hib0 (by kernel_rfl) (by kernel_rfl) (by kernel_rfl) ?hqb0 (Or.inl ⟨?hwb0, ?hyb0⟩) (by assumption) ?_
        case hib0 => (simp only [List.getElem?_toArray, List.getElem?_cons_zero]; all_goals rfl)
        case hqb0 => exact fun _ _ _ h => h
        case hwb0 => rfl
        case hyb0 => ((intro w hSw; (try dsimp only at hSw); go_simp); all_goals (first | with_reducible rfl))
        try simp only [Act.put, List.setIfInBounds_toArray, List.set_cons_zero, List.set_cons_succ]
        refine wpAnyH_take (i := 1) (oi := ?ob1) (v := ?vb1) ?hib1 (by kernel_rfl) (by kernel_rfl) (by kernel_rfl) ?hqb1 (Or.inl ⟨?hwb1, ?hyb1⟩) (by assumption) ?_
        case hib1 => (simp only [List.getElem?_toArray, List.getElem?_cons_succ, List.getElem?_cons_zero]; all_goals rfl)
        case hqb1 => exact fun _ _ _ h => h
        case hwb1 => rfl
        case hyb1 => ((intro w hSw; (try dsimp only at hSw); go_simp); all_goals (first | with_reducible rfl))
        try simp only [Act.put, List.setIfInBounds_toArray, List.set_cons_zero, List.set_cons_succ]
        refine wpAnyH_take (i := 2) (oi := ?ob2) (v := ?vb2) ?hib2 (by kernel_rfl) (by kernel_rfl) (by kernel_rfl) ?hqb2 (Or.inl ⟨?hwb2, ?hyb2⟩) (by assumption) ?_
        case hib2 => (simp only [List.getElem?_toArray, List.getElem?_cons_succ, List.getElem?_cons_zero]; all_goals rfl)
        case hqb2 => exact fun _ _ _ h => h
        case hwb2 => rfl
        case hyb2 => ((intro w hSw; (try dsimp only at hSw); go_simp); all_goals (first | with_reducible rfl))
        try simp only [Act.put, List.setIfInBounds_toArray, List.set_cons_zero, List.set_cons_succ]
        refine wpAnyH_take (i := 3) (oi := ?ob3) (v := ?vb3) ?hib3 (by kernel_rfl) (by kernel_rfl) (by kernel_rfl) ?hqb3 (Or.inl ⟨?hwb3, ?hyb3⟩) (by assumption) ?_
        case hib3 => (simp only [List.getElem?_toArray, List.getElem?_cons_succ, List.getElem?_cons_zero]; all_goals rfl)
        case hqb3 => exact fun _ _ _ h => h
        case hwb3 => rfl
        case hyb3 => ((intro w hSw; (try dsimp only at hSw); go_simp); all_goals (first | with_reducible rfl))
        try simp only [Act.put, List.setIfInBounds_toArray, List.set_cons_zero, List.set_cons_succ]
        refine wpAnyH_take (i := 4) (oi := ?ob4) (v := ?vb4) ?hib4 (by kernel_rfl) (by kernel_rfl) (by kernel_rfl) ?hqb4 (Or.inl ⟨?hwb4, ?hyb4⟩) (by assumption) ?_
        case hib4 => (simp only [List.getElem?_toArray, List.getElem?_cons_succ, List.getElem?_cons_zero]; all_goals rfl)
        case hqb4 => exact fun _ _ _ h => h
        case hwb4 => rfl
        case hyb4 => ((intro w hSw; (try dsimp only at hSw); go_simp); all_goals (first | with_reducible rfl))
        try simp only [Act.put, List.setIfInBounds_toArray, List.set_cons_zero, List.set_cons_succ]
        refine wpAnyH_take (i := 5) (oi := ?ob5) (v := ?vb5) ?hib5 (by kernel_rfl) (by kernel_rfl) (by kernel_rfl) ?hqb5 (Or.inl ⟨?hwb5, ?hyb5⟩) (by assumption) ?_
        case hib5 => (simp only [List.getElem?_toArray, List.getElem?_cons_succ, List.getElem?_cons_zero]; all_goals rfl)
        case hqb5 => exact fun _ _ _ h => h
        case hwb5 => rfl
        case hyb5 => ((intro w hSw; (try dsimp only at hSw); go_simp); all_goals (first | with_reducible rfl))
        try simp only [Act.put, List.setIfInBounds_toArray, List.set_cons_zero, List.set_cons_succ]
        refine wpAnyH_take (i := 6) (oi := ?ob6) (v := ?vb6) ?hib6 (by kernel_rfl) (by kernel_rfl) (by kernel_rfl) ?hqb6 (Or.inl ⟨?hwb6, ?hyb6⟩) (by assumption) ?_
        case hib6 => (simp only [List.getElem?_toArray, List.getElem?_cons_succ, List.getElem?_cons_zero]; all_goals rfl)
        case hqb6 => exact fun _ _ _ h => h
        case hwb6 => rfl
        case hyb6 => ((intro w hSw; (try dsimp only at hSw); go_simp); all_goals (first | with_reducible rfl))
        try simp only [Act.put, List.setIfInBounds_toArray, List.set_cons_zero, List.set_cons_succ]
        refine wpAnyH_take (i := 7) (oi := ?ob7) (v := ?vb7) ?hib7 (by kernel_rfl) (by kernel_rfl) (by kernel_rfl) ?hqb7 (Or.inl ⟨?hwb7, ?hyb7⟩) (by assumption) ?_
        case hib7 => (simp only [List.getElem?_toArray, List.getElem?_cons_succ, List.getElem?_cons_zero]; all_goals rfl)
        case hqb7 => exact fun _ _ _ h => h
        case hwb7 => rfl
        case hyb7 => ((intro w hSw; (try dsimp only at hSw); go_simp); all_goals (first | with_reducible rfl))
        try simp only [Act.put, List.setIfInBounds_toArray, List.set_cons_zero, List.set_cons_succ]
        refine wpAnyH_take (i := 8) (oi := ?ob8) (v := ?vb8) ?hib8 (by kernel_rfl) (by kernel_rfl) (by kernel_rfl) ?hqb8 (Or.inl ⟨?hwb8, ?hyb8⟩) (by assumption) ?_
        case hib8 => (simp only [List.getElem?_toArray, List.getElem?_cons_succ, List.getElem?_cons_zero]; all_goals rfl)
        case hqb8 => exact fun _ _ _ h => h
        case hwb8 => rfl
        case hyb8 => ((intro w hSw; (try dsimp only at hSw); go_simp); all_goals (first | with_reducible rfl))
        try simp only [Act.put, List.setIfInBounds_toArray, List.set_cons_zero, List.set_cons_succ]
        refine wpAnyH_take (i := 9) (oi := ?ob9) (v := ?vb9) ?hib9 (by kernel_rfl) (by kernel_rfl) (by kernel_rfl) ?hqb9 (Or.inl ⟨?hwb9, ?hyb9⟩) (by assumption) ?_
        case hib9 => (simp only [List.getElem?_toArray, List.getElem?_cons_succ, List.getElem?_cons_zero]; all_goals rfl)
        case hqb9 => exact fun _ _ _ h => h
        case hwb9 => rfl
        case hyb9 => ((intro w hSw; (try dsimp only at hSw); go_simp); all_goals (first | with_reducible rfl))
        try simp only [Act.put, List.setIfInBounds_toArray, List.set_cons_zero, List.set_cons_succ]
        refine wpAnyH_take (i := 10) (oi := ?ob10) (v := ?vb10) ?hib10 (by kernel_rfl) (by kernel_rfl) (by kernel_rfl) ?hqb10 (Or.inl ⟨?hwb10, ?hyb10⟩) (by assumption) ?_
        case hib10 => (simp only [List.getElem?_toArray, List.getElem?_cons_succ, List.getElem?_cons_zero]; all_goals rfl)
        case hqb10 => exact fun _ _ _ h => h
        case hwb10 => rfl
        case hyb10 => ((intro w hSw; (try dsimp only at hSw); go_simp); all_goals (first | with_reducible rfl))
        try simp only [Act.put, List.setIfInBounds_toArray, List.set_cons_zero, List.set_cons_succ]
        refine wpAnyH_take (i := 11) (oi := ?ob11) (v := ?vb11) ?hib11 (by kernel_rfl) (by kernel_rfl) (by kernel_rfl) ?hqb11 (Or.inl ⟨?hwb11, ?hyb11⟩) (by assumption) ?_
        case hib11 => (simp only [List.getElem?_toArray, List.getElem?_cons_succ, List.getElem?_cons_zero]; all_goals rfl)
        case hqb11 => exact fun _ _ _ h => h
        case hwb11 => rfl
        case hyb11 => ((intro w hSw; (try dsimp only at hSw); go_simp); all_goals (first | with_reducible rfl))
        try simp only [Act.put, List.setIfInBounds_toArray, List.set_cons_zero, List.set_cons_succ]
        refine wpAnyH_take (i := 12) (oi := ?ob12) (v := ?vb12) ?hib12 (by kernel_rfl) (by kernel_rfl) (by kernel_rfl) ?hqb12 (Or.inl ⟨?hwb12, ?hyb12⟩) (by assumption) ?_
        case hib12 => (simp only [List.getElem?_toArray, List.getElem?_cons_succ, List.getElem?_cons_zero]; all_goals rfl)
        case hqb12 => exact fun _ _ _ h => h
        case hwb12 => rfl
        case hyb12 => ((intro w hSw; (try dsimp only at hSw); go_simp); all_goals (first | with_reducible rfl))
        try simp only [Act.put, List.setIfInBounds_toArray, List.set_cons_zero, List.set_cons_succ]
        refine wpAnyH_take (i := 13) (oi := ?ob13) (v := ?vb13) ?hib13 (by kernel_rfl) (by kernel_rfl) (by kernel_rfl) ?hqb13 (Or.inl ⟨?hwb13, ?hyb13⟩) (by assumption) ?_
        case hib13 => (simp only [List.getElem?_toArray, List.getElem?_cons_succ, List.getElem?_cons_zero]; all_goals rfl)
        case hqb13 => exact fun _ _ _ h => h
        case hwb13 => rfl
        case hyb13 => ((intro w hSw; (try dsimp only at hSw); go_simp); all_goals (first | with_reducible rfl))
        try simp only [Act.put, List.setIfInBounds_toArray, List.set_cons_zero, List.set_cons_succ]
        refine wpAnyH_take (i := 14) (oi := ?ob14) (v := ?vb14) ?hib14 (by kernel_rfl) (by kernel_rfl) (by kernel_rfl) ?hqb14 (Or.inl ⟨?hwb14, ?hyb14⟩) (by assumption) ?_
        case hib14 => (simp only [List.getElem?_toArray, List.getElem?_cons_succ, List.getElem?_cons_zero]; all_goals rfl)
        case hqb14 => exact fun _ _ _ h => h
        case hwb14 => rfl
        case hyb14 => ((intro w hSw; (try dsimp only at hSw); go_simp); all_goals (first | with_reducible rfl))
        try simp only [Act.put, List.setIfInBounds_toArray, List.set_cons_zero, List.set_cons_succ]
        refine wpAnyH_take (i := 15) (oi := ?ob15) (v := ?vb15) ?hib15 (by kernel_rfl) (by kernel_rfl) (by kernel_rfl) ?hqb15 (Or.inl ⟨?hwb15, ?hyb15⟩) (by assumption) ?_
        case hib15 => (simp only [List.getElem?_toArray, List.getElem?_cons_succ, List.getElem?_cons_zero]; all_goals rfl)
        case hqb15 => exact fun _ _ _ h => h
        case hwb15 => rfl
        case hyb15 => ((intro w hSw; (try dsimp only at hSw); go_simp); all_goals (first | with_reducible rfl))
        try simp only [Act.put, List.setIfInBounds_toArray, List.set_cons_zero, List.set_cons_succ]
        refine wpAnyH_done (by kernel_rfl) ?_ _
        go_wp2_with fail
        refine bodyPost_ret (v := .tuple #[shV 0 0, .int .i64 5]) (by simp [results, Try.results18, go_sem, j0, j1]) rfl (ShPost.mk rfl HV.out BF5.out)
      have P0 : 0 ≤ P := by omega
      have hdp : decide (g0 < g1) = false := decide_eq_false tP
      have NO : Hid (¬ (Q * T ≤ 0 ∨ P * T < 0)) := by
        refine Lib.hid ?_
        rintro (h | h)
        · have := Int.mul_pos Q0 gq; omega
        · have := Int.mul_nonneg P0 (show 0 ≤ T by omega); omega
      clear cQ cP tQ tP
      go_wp2_with fail
      refine wp_region_held_drew (S := fun w' => w'.cell? ⟨gn, 0, none⟩ = some (.int .i64 g0) ∧ w'.cell? ⟨gn, 1, none⟩ = some (.int .i64 g1) ∧ w'.cell? ⟨gn, 2, none⟩ = some (.int .i64 g2)) (by kernel_rfl) ?_ (fun hHeld => ?_)
      · exact HQ.out
      refine wpAnyH_take (i := 0) (oi := ?oc0) (v := ?vc0) ?hic0 (by kernel_rfl) (by kernel_rfl) (by kernel_rfl) ?hqc0 (Or.inl ⟨?hwc0, ?hyc0⟩) (by assumption) ?_
      case hic0 => (simp only [List.getElem?_toArray, List.getElem?_cons_zero]; all_goals rfl)
      case hqc0 => exact fun _ _ _ h => h
      case hwc0 => rfl
      case hyc0 => ((intro w hSw; (try dsimp only at hSw); go_simp); all_goals (first | with_reducible rfl))
      try simp only [Act.put, List.setIfInBounds_toArray, List.set_cons_zero, List.set_cons_succ]
      refine wpAnyH_take (i := 1) (oi := ?oc1) (v := ?vc1) ?hic1 (by kernel_rfl) (by kernel_rfl) (by kernel_rfl) ?hqc1 (Or.inl ⟨?hwc1, ?hyc1⟩) (by assumption) ?_
      case hic1 => (simp only [List.getElem?_toArray, List.getElem?_cons_succ, List.getElem?_cons_zero]; all_goals rfl)
      case hqc1 => exact fun _ _ _ h => h
      case hwc1 => rfl
      case hyc1 => ((intro w hSw; (try dsimp only at hSw); go_simp); all_goals (first | with_reducible rfl))
      try simp only [Act.put, List.setIfInBounds_toArray, List.set_cons_zero, List.set_cons_succ]
      refine wpAnyH_take (i := 2) (oi := ?oc2) (v := ?vc2) ?hic2 (by kernel_rfl) (by kernel_rfl) (by kernel_rfl) ?hqc2 (Or.inl ⟨?hwc2, ?hyc2⟩) (by assumption) ?_
      case hic2 => (simp only [List.getElem?_toArray, List.getElem?_cons_succ, List.getElem?_cons_zero]; all_goals rfl)
      case hqc2 => exact fun _ _ _ h => h
      case hwc2 => rfl
      case hyc2 => ((intro w hSw; (try dsimp only at hSw); go_simp); all_goals (first | with_reducible rfl))
      try simp only [Act.put, List.setIfInBounds_toArray, List.set_cons_zero, List.set_cons_succ]
      refine wpAnyH_take (i := 3) (oi := ?oc3) (v := ?vc3) ?hic3 (by kernel_rfl) (by kernel_rfl) (by kernel_rfl) ?hqc3 (Or.inl ⟨?hwc3, ?hyc3⟩) (by assumption) ?_
      case hic3 => (simp only [List.getElem?_toArray, List.getElem?_cons_succ, List.getElem?_cons_zero]; all_goals rfl)
      case hqc3 => exact fun _ _ _ h => h
      case hwc3 => rfl
      case hyc3 => ((intro w hSw; (try dsimp only at hSw); go_simp); all_goals (first | with_reducible rfl))
      try simp only [Act.put, List.setIfInBounds_toArray, List.set_cons_zero, List.set_cons_succ]
      refine wpAnyH_take (i := 4) (oi := ?oc4) (v := ?vc4) ?hic4 (by kernel_rfl) (by kernel_rfl) (by kernel_rfl) ?hqc4 (Or.inl ⟨?hwc4, ?hyc4⟩) (by assumption) ?_
      case hic4 => (simp only [List.getElem?_toArray, List.getElem?_cons_succ, List.getElem?_cons_zero]; all_goals rfl)
      case hqc4 => exact fun _ _ _ h => h
      case hwc4 => rfl
      case hyc4 => ((intro w hSw; (try dsimp only at hSw); go_simp); all_goals (first | with_reducible rfl))
      try simp only [Act.put, List.setIfInBounds_toArray, List.set_cons_zero, List.set_cons_succ]
      refine wpAnyH_take (i := 5) (oi := ?oc5) (v := ?vc5) ?hic5 (by kernel_rfl) (by kernel_rfl) (by kernel_rfl) ?hqc5 (Or.inl ⟨?hwc5, ?hyc5⟩) (by assumption) ?_
      case hic5 => (simp only [List.getElem?_toArray, List.getElem?_cons_succ, List.getElem?_cons_zero]; all_goals rfl)
      case hqc5 => exact fun _ _ _ h => h
      case hwc5 => rfl
      case hyc5 => ((intro w hSw; (try dsimp only at hSw); go_simp); all_goals (first | with_reducible rfl))
      try simp only [Act.put, List.setIfInBounds_toArray, List.set_cons_zero, List.set_cons_succ]
      refine wpAnyH_take (i := 6) (oi := ?oc6) (v := ?vc6) ?hic6 (by kernel_rfl) (by kernel_rfl) (by kernel_rfl) ?hqc6 (Or.inl ⟨?hwc6, ?hyc6⟩) (by assumption) ?_
      case hic6 => (simp only [List.getElem?_toArray, List.getElem?_cons_succ, List.getElem?_cons_zero]; all_goals rfl)
      case hqc6 => exact fun _ _ _ h => h
      case hwc6 => rfl
      case hyc6 => ((intro w hSw; (try dsimp only at hSw); go_simp); all_goals (first | with_reducible rfl))
      try simp only [Act.put, List.setIfInBounds_toArray, List.set_cons_zero, List.set_cons_succ]
      refine wpAnyH_take (i := 7) (oi := ?oc7) (v := ?vc7) ?hic7 (by kernel_rfl) (by kernel_rfl) (by kernel_rfl) ?hqc7 (Or.inl ⟨?hwc7, ?hyc7⟩) (by assumption) ?_
      case hic7 => (simp only [List.getElem?_toArray, List.getElem?_cons_succ, List.getElem?_cons_zero]; all_goals rfl)
      case hqc7 => exact fun _ _ _ h => h
      case hwc7 => rfl
      case hyc7 => ((intro w hSw; (try dsimp only at hSw); go_simp); all_goals (first | with_reducible rfl))
      try simp only [Act.put, List.setIfInBounds_toArray, List.set_cons_zero, List.set_cons_succ]
      refine wpAnyH_take (i := 8) (oi := ?oc8) (v := ?vc8) ?hic8 (by kernel_rfl) (by kernel_rfl) (by kernel_rfl) ?hqc8 (Or.inl ⟨?hwc8, ?hyc8⟩) (by assumption) ?_
      case hic8 => (simp only [List.getElem?_toArray, List.getElem?_cons_succ, List.getElem?_cons_zero]; all_goals rfl)
      case hqc8 => exact fun _ _ _ h => h
      case hwc8 => rfl
      case hyc8 => ((intro w hSw; (try dsimp only at hSw); go_simp); all_goals (first | with_reducible rfl))
      try simp only [Act.put, List.setIfInBounds_toArray, List.set_cons_zero, List.set_cons_succ]
      refine wpAnyH_take (i := 9) (oi := ?oc9) (v := ?vc9) ?hic9 (by kernel_rfl) (by kernel_rfl) (by kernel_rfl) ?hqc9 (Or.inl ⟨?hwc9, ?hyc9⟩) (by assumption) ?_
      case hic9 => (simp only [List.getElem?_toArray, List.getElem?_cons_succ, List.getElem?_cons_zero]; all_goals rfl)
      case hqc9 => exact fun _ _ _ h => h
      case hwc9 => rfl
      case hyc9 => ((intro w hSw; (try dsimp only at hSw); go_simp); all_goals (first | with_reducible rfl))
      try simp only [Act.put, List.setIfInBounds_toArray, List.set_cons_zero, List.set_cons_succ]
      refine wpAnyH_take (i := 10) (oi := ?oc10) (v := ?vc10) ?hic10 (by kernel_rfl) (by kernel_rfl) (by kernel_rfl) ?hqc10 (Or.inl ⟨?hwc10, ?hyc10⟩) (by assumption) ?_
      case hic10 => (simp only [List.getElem?_toArray, List.getElem?_cons_succ, List.getElem?_cons_zero]; all_goals rfl)
      case hqc10 => exact fun _ _ _ h => h
      case hwc10 => rfl
      case hyc10 => ((intro w hSw; (try dsimp only at hSw); go_simp); all_goals (first | with_reducible rfl))
      try simp only [Act.put, List.setIfInBounds_toArray, List.set_cons_zero, List.set_cons_succ]
      refine wpAnyH_take (i := 11) (oi := ?oc11) (v := ?vc11) ?hic11 (by kernel_rfl) (by kernel_rfl) (by kernel_rfl) ?hqc11 (Or.inl ⟨?hwc11, ?hyc11⟩) (by assumption) ?_
      case hic11 => (simp only [List.getElem?_toArray, List.getElem?_cons_succ, List.getElem?_cons_zero]; all_goals rfl)
      case hqc11 => exact fun _ _ _ h => h
      case hwc11 => rfl
      case hyc11 => ((intro w hSw; (try dsimp only at hSw); go_simp); all_goals (first | with_reducible rfl))
      try simp only [Act.put, List.setIfInBounds_toArray, List.set_cons_zero, List.set_cons_succ]
      refine wpAnyH_take (i := 12) (oi := ?oc12) (v := ?vc12) ?hic12 (by kernel_rfl) (by kernel_rfl) (by kernel_rfl) ?hqc12 (Or.inl ⟨?hwc12, ?hyc12⟩) (by assumption) ?_
      case hic12 => (simp only [List.getElem?_toArray, List.getElem?_cons_succ, List.getElem?_cons_zero]; all_goals rfl)
      case hqc12 => exact fun _ _ _ h => h
      case hwc12 => rfl
      case hyc12 => ((intro w hSw; (try dsimp only at hSw); go_simp); all_goals (first | with_reducible rfl))
      try simp only [Act.put, List.setIfInBounds_toArray, List.set_cons_zero, List.set_cons_succ]
      refine wpAnyH_take (i := 13) (oi := ?oc13) (v := ?vc13) ?hic13 (by kernel_rfl) (by kernel_rfl) (by kernel_rfl) ?hqc13 (Or.inl ⟨?hwc13, ?hyc13⟩) (by assumption) ?_
      case hic13 => (simp only [List.getElem?_toArray, List.getElem?_cons_succ, List.getElem?_cons_zero]; all_goals rfl)
      case hqc13 => exact fun _ _ _ h => h
      case hwc13 => rfl
      case hyc13 => ((intro w hSw; (try dsimp only at hSw); go_simp); all_goals (first | with_reducible rfl))
      try simp only [Act.put, List.setIfInBounds_toArray, List.set_cons_zero, List.set_cons_succ]
      refine wpAnyH_take (i := 14) (oi := ?oc14) (v := ?vc14) ?hic14 (by kernel_rfl) (by kernel_rfl) (by kernel_rfl) ?hqc14 (Or.inl ⟨?hwc14, ?hyc14⟩) (by assumption) ?_
      case hic14 => (simp only [List.getElem?_toArray, List.getElem?_cons_succ, List.getElem?_cons_zero]; all_goals rfl)
      case hqc14 => exact fun _ _ _ h => h
      case hwc14 => rfl
      case hyc14 => ((intro w hSw; (try dsimp only at hSw); go_simp); all_goals (first | with_reducible rfl))
      try simp only [Act.put, List.setIfInBounds_toArray, List.set_cons_zero, List.set_cons_succ]
      refine wpAnyH_take (i := 15) (oi := ?oc15) (v := ?vc15) ?hic15 (by kernel_rfl) (by kernel_rfl) (by kernel_rfl) ?hqc15 (Or.inl ⟨?hwc15, ?hyc15⟩) (by assumption) ?_
      case hic15 => (simp only [List.getElem?_toArray, List.getElem?_cons_succ, List.getElem?_cons_zero]; all_goals rfl)
      case hqc15 => exact fun _ _ _ h => h
      case hwc15 => rfl
      case hyc15 => ((intro w hSw; (try dsimp only at hSw); go_simp); all_goals (first | with_reducible rfl))
      try simp only [Act.put, List.setIfInBounds_toArray, List.set_cons_zero, List.set_cons_succ]
      refine wpAnyH_done (by kernel_rfl) ?_ _
      go_wp2_with fail
      refine (SD.out _ HBD.out.drew).mono ?_
      rintro e w4 ⟨rfl, hb4⟩
      have B5 := Lib.hid (B4.out.drew.trans (hb4.mono B4.out.size))
      have E5 := Lib.hid (rowIs_below (w := w3.drew) E4.out.drew hb4 E4.out.lt)
      have z4 : w3.heap.size ≤ w4.heap.size := hb4.size
      replace HQ := Lib.hid (L3.below (w := w3.drew) HQ.out hb4 RN.out.lt)
      have gnl := RN.out.lt
      clear h0 h1 h2 h3 j0 j1 hb4 q0 q1 q2 hdq hdp
      obtain ⟨h0, h1, h2, h3⟩ := two_cells E5.out
      cases ft
      · have HV : Hid (gvV M a b ph c = (0, 0, 3)) := HV0.out.trans (by unfold gvQ; rw [if_neg NO.out, if_pos rfl])
        have BF := Lib.hid ((B5.out.setCell (p := ⟨w.heap.size + 1, 0, none⟩) (by simp) (.int .i64 0)).setCell (p := ⟨w.heap.size + 1, 1, none⟩) (by simp) (.int .i64 0))
        obtain ⟨j0, j1, _, _⟩ := two_cells (two_set E5.out 0 0)
        go_wp2_with fail
        refine bodyPost_ret (v := .tuple #[shV 0 0, .int .i64 3]) (by simp [results, Try.results18, go_sem, j0, j1]) rfl (ShPost.mk rfl HV.out BF.out)
      · have HV1 : Hid (gvV M a b ph c = gvP P Q) := HV0.out.trans (by unfold gvQ; rw [if_neg NO.out, if_neg (by decide)]; exact gvP_scale gq Q0)
        obtain ⟨x, hx⟩ : ∃ x, loN P Q = x := ⟨_, rfl⟩
        obtain ⟨y, hy⟩ : ∃ y, loD P Q = y := ⟨_, rfl⟩
        obtain ⟨k, hk⟩ : ∃ k, loB P Q = k := ⟨_, rfl⟩
        have MK : ∃ x' y' k', (k' = true → gvP P Q = (x', y', 0)) ∧ (k' = false → gvP P Q = (0, 0, 3)) ∧ ∀ W, Calls Try.prog 53 #[.int .i64 P, .int .i64 Q] W fun e w' => e = .returned (.tuple #[shV x' y', .bool k']) ∧ Below W.heap.size W w' := by
          by_cases hpq : P ≤ Q
          · refine ⟨loN P Q, loD P Q, loB P Q, fun h => ?_, fun h => ?_, fun W => makeShare_in P Q W P0 Q0 hpq (by omega)⟩
            · unfold gvP; rw [if_pos ⟨h, hpq⟩]
            · unfold gvP; rw [if_neg (by rw [h]; exact fun q => absurd q.1 (by decide))]
          · refine ⟨0, 0, false, fun h => absurd h (by decide), fun _ => ?_, fun W => makeShare_out P Q W (.inr (by omega))⟩
            unfold gvP; rw [if_neg (fun q => hpq q.2)]
        clear hx hy hk
        obtain ⟨x, y, k, MY, MN, mk⟩ := MK
        have MY' := Lib.hid MY
        have MN' := Lib.hid MN
        have MK := Lib.hid mk
        clear MY MN mk
        have hne : ¬ w.heap.size + 1 = gn := by have := E4.out.lt; omega
        have hnw : ¬ w4.heap.size = gn := by omega
        go_wp2_with fail
        go_region_held3 (fun w' => w'.cell? ⟨gn, 0, none⟩ = some (.int .i64 g0) ∧ w'.cell? ⟨gn, 1, none⟩ = some (.int .i64 g1) ∧ w'.cell? ⟨gn, 2, none⟩ = some (.int .i64 g2))
          (first | exact HQ.out | exact HQ.out.alloc _ | exact (HQ.out.set hnw _).set hnw _ | go_keep)
          (first
            | (go_at_call 53; (with_reducible refine (MK.out w4.drew).mono ?_); rintro e w5 ⟨rfl, hb5⟩; replace HQ := Lib.hid (L3.below (w := w4.drew) HQ.out hb5 (by show gn < w4.heap.size; omega)))
            | (go_at_call 53; (with_reducible refine (MK.out ((w4.alloc (.cells #[.int .i64 0, .int .i64 0] 30)).drew)).mono ?_); rintro e w5 ⟨rfl, hb5⟩; replace HQ := Lib.hid (L3.below (w := (w4.alloc (.cells #[.int .i64 0, .int .i64 0] 30)).drew) (HQ.out.alloc _) hb5 (by show gn < (w4.alloc _).heap.size; simp; omega)); obtain ⟨n0, n1, n2, n3⟩ := two_cells (rowIs_below (w := (w4.alloc (.cells #[.int .i64 0, .int .i64 0] 30)).drew) (two_new w4 0 0 30) hb5 (by show w4.heap.size < (w4.alloc _).heap.size; simp)))
            | fail)
        · have z5 : w4.heap.size ≤ w5.heap.size := hb5.size
          have B6 := Lib.hid ((B5.out.drew.trans (hb5.mono B5.out.size)).alloc (Nat.le_trans B5.out.size z5) (.cells #[.int .i64 x, .int .i64 y] 30))
          have E6 := Lib.hid ((rowIs_below (w := w4.drew) E5.out.drew hb5 E5.out.lt).alloc (.cells #[.int .i64 x, .int .i64 y] 30))
          have X6 := Lib.hid (two_new w5 x y 30)
          clear h0 h1 h2 h3 hb5
          obtain ⟨h0, h1, h2, h3⟩ := two_cells E6.out
          obtain ⟨x0, x1, _, _⟩ := two_cells X6.out
          cases k
          · have HV : Hid (gvV M a b ph c = (0, 0, 3)) := HV1.out.trans (MN'.out rfl)
            have BF := Lib.hid ((B6.out.setCell (p := ⟨w.heap.size + 1, 0, none⟩) (by simp) (.int .i64 0)).setCell (p := ⟨w.heap.size + 1, 1, none⟩) (by simp) (.int .i64 0))
            obtain ⟨j0, j1, _, _⟩ := two_cells (two_set E6.out 0 0)
            go_wp2_with fail
            refine bodyPost_ret (v := .tuple #[shV 0 0, .int .i64 3]) (by simp [results, Try.results18, go_sem, j0, j1]) rfl (ShPost.mk rfl HV.out BF.out)
          · have HV : Hid (gvV M a b ph c = (x, y, 0)) := HV1.out.trans (MY'.out rfl)
            have BF := Lib.hid ((B6.out.setCell (p := ⟨w.heap.size + 1, 0, none⟩) (by simp) (.int .i64 x)).setCell (p := ⟨w.heap.size + 1, 1, none⟩) (by simp) (.int .i64 y))
            obtain ⟨j0, j1, _, _⟩ := two_cells (two_set E6.out x y)
            go_wp2_with fail
            refine bodyPost_ret (v := .tuple #[shV x y, .int .i64 0]) (by simp [results, Try.results18, go_sem, j0, j1]) rfl (ShPost.mk rfl HV.out BF.out)
        · have z5 : w4.heap.size + 1 ≤ w5.heap.size := by
            have h := hb5.size
            have e : ((w4.alloc (.cells #[.int .i64 0, .int .i64 0] 30)).drew).heap.size = w4.heap.size + 1 := by show (w4.alloc _).heap.size = _; simp
            omega
          have hnr : ¬ w4.heap.size = w.heap.size + 1 := by have := E5.out.lt; omega
          have B6 := Lib.hid (((((B5.out.alloc B5.out.size (.cells #[.int .i64 0, .int .i64 0] 30)).drew).trans (hb5.mono (by show _ ≤ (w4.alloc _).heap.size; have := B5.out.size; simp; omega))).setCell (p := ⟨w4.heap.size, 0, none⟩) B5.out.size (.int .i64 x)).setCell (p := ⟨w4.heap.size, 1, none⟩) B5.out.size (.int .i64 y))
          have E6 := Lib.hid (rowIs_other (rowIs_other (rowIs_below (w := (w4.alloc (.cells #[.int .i64 0, .int .i64 0] 30)).drew) (E5.out.alloc (.cells #[.int .i64 0, .int .i64 0] 30)).drew hb5 (by show _ < (w4.alloc _).heap.size; have := E5.out.lt; simp; omega)) hnr 0 (.int .i64 x)) hnr 1 (.int .i64 y))
          have X6 := Lib.hid (two_set (rowIs_below (w := (w4.alloc (.cells #[.int .i64 0, .int .i64 0] 30)).drew) (two_new w4 0 0 30) hb5 (by show w4.heap.size < (w4.alloc _).heap.size; simp)) x y)
          clear h0 h1 h2 h3 n0 n1 n2 n3 hb5
          obtain ⟨h0, h1, h2, h3⟩ := two_cells E6.out
          obtain ⟨x0, x1, _, _⟩ := two_cells X6.out
          cases k
          · have HV : Hid (gvV M a b ph c = (0, 0, 3)) := HV1.out.trans (MN'.out rfl)
            have BF := Lib.hid ((B6.out.setCell (p := ⟨w.heap.size + 1, 0, none⟩) (by simp) (.int .i64 0)).setCell (p := ⟨w.heap.size + 1, 1, none⟩) (by simp) (.int .i64 0))
            obtain ⟨j0, j1, _, _⟩ := two_cells (two_set E6.out 0 0)
            go_wp2_with fail
            refine bodyPost_ret (v := .tuple #[shV 0 0, .int .i64 3]) (by simp [results, Try.results18, go_sem, j0, j1]) rfl (ShPost.mk rfl HV.out BF.out)
          · have HV : Hid (gvV M a b ph c = (x, y, 0)) := HV1.out.trans (MY'.out rfl)
            have BF := Lib.hid ((B6.out.setCell (p := ⟨w.heap.size + 1, 0, none⟩) (by simp) (.int .i64 x)).setCell (p := ⟨w.heap.size + 1, 1, none⟩) (by simp) (.int .i64 y))
            obtain ⟨j0, j1, _, _⟩ := two_cells (two_set E6.out x y)
            go_wp2_with fail
            refine bodyPost_ret (v := .tuple #[shV x y, .int .i64 0]) (by simp [results, Try.results18, go_sem, j0, j1]) rfl (ShPost.mk rfl HV.out BF.out)
    · subst hcode
      have HV : Hid (gvV M a b ph c = (0, 0, 3)) := by
        refine Lib.hid ?_
        rw [HMV.out, hno]; rfl
      obtain ⟨e0, e1, _, _⟩ := two_cells (two_set E3.out 0 0)
      clear hno
      go_wp2_with fail
      refine bodyPost_ret (v := .tuple #[shV 0 0, .int .i64 3]) (by simp [results, Try.results18, go_sem, e0, e1]) rfl (ShPost.mk rfl HV.out BF0.out)
  · have ek : (K != 0) = true := by simpa using hk
    have hcode : code = K := (HC1.out (by rw [HK.out]; exact hk)).trans HK.out
    subst hcode
    have HV : Hid (gvV M a b ph c = (0, 0, code)) := by
      refine Lib.hid ?_
      unfold gvV; rw [HK.out, if_neg hk]
    obtain ⟨e0, e1, _, _⟩ := two_cells (two_set E3.out 0 0)
    clear hk
    go_wp2_with fail
    refine bodyPost_ret (v := .tuple #[shV 0 0, .int .i64 code]) (by simp [results, Try.results18, go_sem, e0, e1]) rfl (ShPost.mk rfl HV.out BF0.out)
end Go.Proofs.Ytkioliioakmepaa
