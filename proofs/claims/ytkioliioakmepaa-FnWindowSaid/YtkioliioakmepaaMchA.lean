/-
  The walks of AfterPoints (both packages).
-/
import Derived.Test.YtkioliioakmepaaMchR
namespace Go.Proofs.Ytkioliioakmepaa
open Go.ChangeShapes Go.WideShapes Go.ChangeAt Go.RowKit
set_option linter.unusedVariables false

/-- the chance after a game for points -/
def Mm.af (M : Mm) (a b : Nat) (ph p : Int) : Option Int := if 0 < p then M.ch (a - p.toNat) b (nx (gp a b ph)) else M.ch a (b - (-p).toNat) (nx (gp a b ph))
theorem Sm.af {K M : Mm} (h : Sm K M) (a b : Nat) (ph p : Int) : K.af a b ph p = M.af a b ph p := by unfold Mm.af; rw [h.ch, h.ch]
theorem gp_bd {a b : Nat} {ph : Int} (h0 : 0 ≤ ph) (h2 : ph ≤ 2) : (0 ≤ gp a b ph ∧ gp a b ph ≤ 2) ∧ 0 ≤ nx (gp a b ph) ∧ nx (gp a b ph) ≤ 2 := by
  unfold gp nx
  constructor
  · split <;> omega
  · split <;> omega
/-- a game for points in a match at hand -/
theorem after_any (M : Mm) (hM : M.ok) (lo hi g t f : Nat) (hL : Lie lo hi g t f) (hlo : lo ≤ hi) (a b : Nat) (ph p : Int) (N : Nat) (w : World) (ha9 : a ≤ 9) (hb9 : b ≤ 9) (h0 : 0 ≤ ph) (h2 : ph ≤ 2) (hp : p ≠ 0) (hp1 : -1000 ≤ p) (hp2 : p ≤ 1000)
    (hMw : M.at w lo) (hT : Tm M g t f N w) (hz : hi ≤ w.heap.size) (hN : N + gB 18 < 1000000000000000000) :
    Calls Try.prog 77 #[.pointer (some ⟨g, 0, none⟩), .int .i64 a, .int .i64 b, .int .i64 ph, .int .i64 p] w fun e w' => ∃ (x y : Int) (ok : Bool), e = .returned (.tuple #[shV x y, .bool ok]) ∧ Tm M g t f (N + gB 18) w' ∧ Out lo hi w w' ∧ (ok = true → ∃ c, M.af a b ph p = some c ∧ x = sN c ∧ y = sD c) ∧ (ok = false → M.af a b ph p = none) := by
  have hI := chance_any M hM lo hi g t f hL hlo 18
  unfold Mm.af
  by_cases h : 0 < p
  · rw [if_pos h]
    exact after_pos M lo hi g t f 18 hL hI a b ph _ _ p N w ha9 hb9 rfl rfl h hp2 (by omega) hMw hT hz hN
  · rw [if_neg h]
    exact after_neg M lo hi g t f 18 hL hI a b ph _ _ p N w ha9 hb9 rfl rfl (by omega) hp1 (by omega) hMw hT hz hN
/-- what both packages' AfterPoints returns -/
def apV (M : Mm) (a b ph p : Int) : Int × Int × Int := if M.good = true then (if stB a b ph = true then (if p = 0 ∨ wB p (-1000) 1000 = false then (0, 0, 2) else if a = 0 ∨ b = 0 then (0, 0, 5) else chR (M.af a.toNat b.toNat ph p)) else (0, 0, 2)) else (0, 0, 1)
theorem Sm.ap {K M : Mm} (h : Sm K M) (a b ph p : Int) : apV K a b ph p = apV M a b ph p := by unfold apV; rw [h.good, h.af]
theorem within_k (x lo hi : Int) (k : Bool) (hk : wB x lo hi = k) (w : World) : Calls Try.prog 76 #[.int .i64 x, .int .i64 lo, .int .i64 hi] w fun e w' => e = .returned (.bool k) ∧ w = w' := hk ▸ within_any x lo hi w
set_option maxHeartbeats 3200000 in
theorem impl_AfterPoints_any (M : Mm) (a b ph p : Int) (w : World) (hA : M.at w w.heap.size) (hs : M.sz) :
    Calls Try.prog 31 #[M.V, .int .i64 a, .int .i64 b, .int .i64 ph, .int .i64 p] w fun e w' => ShPost (apV M a b ph p) w e w' := by
  have hb0 := ((Below.refl w.heap.size w).alloc (Nat.le_refl _) (.cells #[.slice M.a M.n M.c, .slice M.b M.m M.d, .slice M.e M.p M.f] 26)).alloc (by simp) (.cells #[.int .i64 0, .int .i64 0] 30)
  have HB := Lib.hid hb0
  have HA := Lib.hid (hA.keep hb0)
  have rm := (three_new w (.slice M.a M.n M.c) (.slice M.b M.m M.d) (.slice M.e M.p M.f) 26).alloc (.cells #[.int .i64 0, .int .i64 0] 30)
  have r8 := two_new (w.alloc (.cells #[.slice M.a M.n M.c, .slice M.b M.m M.d, .slice M.e M.p M.f] 26)) 0 0 30
  rw [World.size_alloc] at r8
  have RM := Lib.hid rm
  have R8 := Lib.hid r8
  have GA := Lib.hid hA
  obtain ⟨C, hC⟩ : ∃ C, ckV M a b ph = C := ⟨_, rfl⟩
  have HC := Lib.hid hC
  clear hb0 rm r8 hA hC
  go_enter Try.func31, Try.ntmps31
  go_wp2_with fail
  refine (checkMatch_any M a b ph _ (HA.out.more HB.out.size) hs C HC.out).mono ?_
  rintro e w1 ⟨rfl, hb1⟩
  have z1 := hb1.size
  simp only [World.size_alloc] at z1
  have B1 := Lib.hid (HB.out.trans (hb1.mono HB.out.size))
  have A1 := Lib.hid (HA.out.keep (hb1.mono HB.out.size))
  have M1 := Lib.hid (rowIs_below RM.out hb1 RM.out.lt)
  have E1 := Lib.hid (rowIs_below R8.out hb1 R8.out.lt)
  obtain ⟨h0, h1, h2, h3⟩ := two_cells E1.out
  obtain ⟨m0, m1, m2⟩ := three_cells M1.out
  have BF := Lib.hid ((B1.out.setCell (p := ⟨w.heap.size + 1, 0, none⟩) (by simp) (.int .i64 0)).setCell (p := ⟨w.heap.size + 1, 1, none⟩) (by simp) (.int .i64 0))
  obtain ⟨e0, e1, _, _⟩ := two_cells (two_set E1.out 0 0)
  clear hb1
  by_cases hc : C = 0
  · subst hc
    have HG : Hid (M.good = true ∧ stB a b ph = true) := by
      have := HC.out
      unfold ckV at this
      split at this
      · split at this
        · exact ⟨‹_›, ‹_›⟩
        · exact absurd this (by decide)
      · exact absurd this (by decide)
    have AV : Hid (apV M a b ph p = if p = 0 ∨ wB p (-1000) 1000 = false then (0, 0, 2) else if a = 0 ∨ b = 0 then (0, 0, 5) else chR (M.af a.toNat b.toNat ph p)) := by
      refine Lib.hid ?_
      unfold apV; rw [if_pos HG.out.1, if_pos HG.out.2]
    by_cases hp : p = 0
    · have HV := Lib.hid (AV.out.trans (if_pos (.inl hp)))
      subst hp
      go_wp2_with fail
      refine bodyPost_ret (v := .tuple #[shV 0 0, .int .i64 2]) (by simp [results, Try.results31, go_sem, e0, e1]) rfl (ShPost.mk rfl HV.out BF.out)
    have ep : (p == 0) = false := by simpa using hp
    cases hw : wB p (-1000) 1000
    · have HV := Lib.hid (AV.out.trans (if_pos (.inr hw)))
      have HWB := Lib.hid hw
      clear hw hp
      go_wp2_with fail
      refine (within_k p (-1000) 1000 false HWB.out _).mono ?_
      rintro e w2 ⟨rfl, rfl⟩
      go_wp2_with fail
      refine bodyPost_ret (v := .tuple #[shV 0 0, .int .i64 2]) (by simp [results, Try.results31, go_sem, e0, e1]) rfl (ShPost.mk rfl HV.out BF.out)
    · have AV2 := Lib.hid (AV.out.trans (if_neg (by rintro (h | h); exact hp h; rw [hw] at h; cases h)))
      obtain ⟨pl, pu⟩ := wB_true.1 hw
      have HWB := Lib.hid hw
      clear hw
      obtain ⟨⟨a0, a9⟩, ⟨b0, b9⟩, ab, p0, p2⟩ := stB_out HG.out.2
      by_cases ha : a = 0
      · have HV := Lib.hid (AV2.out.trans (if_pos (.inl ha)))
        subst ha
        go_wp2_with fail
        refine (within_k p (-1000) 1000 true HWB.out _).mono ?_
        rintro e w2 ⟨rfl, rfl⟩
        go_wp2_with fail
        refine bodyPost_ret (v := .tuple #[shV 0 0, .int .i64 5]) (by simp [results, Try.results31, go_sem, e0, e1]) rfl (ShPost.mk rfl HV.out BF.out)
      have ea : (a == 0) = false := by simpa using ha
      by_cases hb : b = 0
      · have HV := Lib.hid (AV2.out.trans (if_pos (.inr hb)))
        subst hb
        go_wp2_with fail
        refine (within_k p (-1000) 1000 true HWB.out _).mono ?_
        rintro e w2 ⟨rfl, rfl⟩
        go_wp2_with fail
        refine bodyPost_ret (v := .tuple #[shV 0 0, .int .i64 5]) (by simp [results, Try.results31, go_sem, e0, e1]) rfl (ShPost.mk rfl HV.out BF.out)
      have eb : (b == 0) = false := by simpa using hb
      have HV := Lib.hid (AV2.out.trans (if_neg (by rintro (h | h); exact ha h; exact hb h)))
      have hM := Mm.good_ok HG.out.1 GA.out
      have HP := Lib.hid hp
      obtain ⟨X, rfl⟩ := Int.eq_ofNat_of_zero_le a0
      obtain ⟨Y, rfl⟩ := Int.eq_ofNat_of_zero_le b0
      clear h0 h1 h2 h3 e0 e1 BF hp ha hb
      go_wp2_with fail
      refine (within_k p (-1000) 1000 true HWB.out _).mono ?_
      rintro e w2 ⟨rfl, rfl⟩
      go_wp2_with fail
      refine (newMatch_any M _).mono ?_
      rintro e w2 ⟨g, t, f, rfl, hL, hT, hb2⟩
      have z2 := hb2.size
      have B2 := Lib.hid (B1.out.trans (hb2.mono B1.out.size))
      have A2 := Lib.hid ((A1.out.keep (hb2.mono B1.out.size)).more (B1.out.size))
      have E2 := Lib.hid (rowIs_below E1.out hb2 E1.out.lt)
      have HT := Lib.hid hT
      have HL := Lib.hid hL
      have hg18 := gB_18
      have hgN : 0 + gB 18 < 1000000000000000000 := by omega
      clear hT hb2 hL m0 m1 m2 hg18
      go_wp2_with fail
      refine (after_any M hM w1.heap.size w2.heap.size g t f HL.out z2 X Y ph p 0 w2 (by omega) (by omega) p0 p2 HP.out pl pu A2.out HT.out (Nat.le_refl _) hgN).mono ?_
      rintro e w3 ⟨x, y, ok, rfl, t3, o3, s3, n3⟩
      have z3 := o3.size
      have B3 := Lib.hid ((Out.below B2.out o3 B1.out.size).alloc (Nat.le_trans B2.out.size z3) (.cells #[.int .i64 x, .int .i64 y] 30))
      have E3 := Lib.hid ((row_out E2.out o3 (.inl (by omega))).alloc (.cells #[.int .i64 x, .int .i64 y] 30))
      have X3 := Lib.hid (two_new w3 x y 30)
      have S3 := Lib.hid s3
      have N3 := Lib.hid n3
      clear t3 o3 s3 n3
      obtain ⟨h0, h1, h2, h3⟩ := two_cells E3.out
      obtain ⟨x0, x1, _, _⟩ := two_cells X3.out
      cases ok
      · have BF := Lib.hid ((B3.out.setCell (p := ⟨w.heap.size + 1, 0, none⟩) (by simp) (.int .i64 0)).setCell (p := ⟨w.heap.size + 1, 1, none⟩) (by simp) (.int .i64 0))
        obtain ⟨e0, e1, _, _⟩ := two_cells (two_set E3.out 0 0)
        have HW : Hid (apV M X Y ph p = (0, 0, 3)) := by
          have hc' : M.af (X : Int).toNat (Y : Int).toNat ph p = none := N3.out rfl
          exact HV.out.trans (by rw [hc']; rfl)
        go_wp2_with fail
        refine bodyPost_ret (v := .tuple #[shV 0 0, .int .i64 3]) (by simp [results, Try.results31, go_sem, e0, e1]) rfl (ShPost.mk rfl HW.out BF.out)
      · have BF := Lib.hid ((B3.out.setCell (p := ⟨w.heap.size + 1, 0, none⟩) (by simp) (.int .i64 x)).setCell (p := ⟨w.heap.size + 1, 1, none⟩) (by simp) (.int .i64 y))
        obtain ⟨e0, e1, _, _⟩ := two_cells (two_set E3.out x y)
        have HW : Hid (apV M X Y ph p = (x, y, 0)) := by
          obtain ⟨c, hc, hx, hy⟩ := S3.out rfl
          have hc' : M.af (X : Int).toNat (Y : Int).toNat ph p = some c := hc
          exact HV.out.trans (by rw [hc', hx, hy]; rfl)
        go_wp2_with fail
        refine bodyPost_ret (v := .tuple #[shV x y, .int .i64 0]) (by simp [results, Try.results31, go_sem, e0, e1]) rfl (ShPost.mk rfl HW.out BF.out)
  · have ec : (C != 0) = true := by simpa using hc
    have HV : Hid (apV M a b ph p = (0, 0, C)) := by
      have hC := HC.out
      refine Lib.hid ?_
      unfold ckV at hC
      unfold apV
      split at hC
      · split at hC
        · exact absurd hC.symm hc
        · rename_i h k; rw [if_pos h, if_neg k, hC]
      · rename_i h; rw [if_neg h, hC]
    clear hc
    go_wp2_with fail
    refine bodyPost_ret (v := .tuple #[shV 0 0, .int .i64 C]) (by simp [results, Try.results31, go_sem, e0, e1]) rfl (ShPost.mk rfl HV.out BF.out)
theorem l18Phase_k (a b : Nat) (ph q : Int) (h : gp a b ph = q) (w : World) : Calls Try.prog 75 #[.int .i64 a, .int .i64 b, .int .i64 ph] w fun e w' => e = .returned (.int .i64 q) ∧ w = w' := h ▸ l18Phase_any a b ph w
theorem l18Next_k (q r : Int) (h : nx q = r) (w : World) : Calls Try.prog 78 #[.int .i64 q] w fun e w' => e = .returned (.int .i64 r) ∧ w = w' := h ▸ l18Next_any q w
theorem l01In_k (x lo hi : Int) (k : Bool) (hk : wB x lo hi = k) (w : World) : Calls Try.prog 62 #[.int .i64 x, .int .i64 lo, .int .i64 hi] w fun e w' => e = .returned (.bool k) ∧ w = w' := hk ▸ l01In_any x lo hi w
theorem stB_mk {a b ph : Int} (a0 : 0 ≤ a) (a9 : a ≤ 9) (b0 : 0 ≤ b) (b9 : b ≤ 9) (ab : 0 < a + b) (p0 : 0 ≤ ph) (p2 : ph ≤ 2) : stB a b ph = true := by
  unfold stB
  rw [wB_true.2 ⟨a0, a9⟩, wB_true.2 ⟨b0, b9⟩, wB_true.2 ⟨p0, p2⟩, decide_eq_true ab]; rfl
set_option maxHeartbeats 3200000 in
theorem spec_AfterPoints_any (M : Mm) (a b ph p : Int) (w : World) (hA : M.at w w.heap.size) (hs : M.sz) :
    Calls Try.prog 33 #[M.V, .int .i64 a, .int .i64 b, .int .i64 ph, .int .i64 p] w fun e w' => ShPost (apV M a b ph p) w e w' := by
  have hb0 := ((Below.refl w.heap.size w).alloc (Nat.le_refl _) (.cells #[.slice M.a M.n M.c, .slice M.b M.m M.d, .slice M.e M.p M.f] 26)).alloc (by simp) (.cells #[.int .i64 0, .int .i64 0] 30)
  have HB := Lib.hid hb0
  have HA := Lib.hid (hA.keep hb0)
  have rm := (three_new w (.slice M.a M.n M.c) (.slice M.b M.m M.d) (.slice M.e M.p M.f) 26).alloc (.cells #[.int .i64 0, .int .i64 0] 30)
  have r8 := two_new (w.alloc (.cells #[.slice M.a M.n M.c, .slice M.b M.m M.d, .slice M.e M.p M.f] 26)) 0 0 30
  rw [World.size_alloc] at r8
  have RM := Lib.hid rm
  have R8 := Lib.hid r8
  have GA := Lib.hid hA
  have HSZ := Lib.hid hs
  obtain ⟨K, hK⟩ : ∃ K, M.good = K := ⟨_, rfl⟩
  have HK := Lib.hid hK
  clear hb0 rm r8 hA hK
  go_enter Try.func33, Try.ntmps33
  go_wp2_with fail
  refine (spec_mm M _ (HA.out.more HB.out.size) hs K HK.out).mono ?_
  rintro e w1 ⟨rfl, hb1⟩
  have z1 := hb1.size
  simp only [World.size_alloc] at z1
  have B1 := Lib.hid (HB.out.trans (hb1.mono HB.out.size))
  have A1 := Lib.hid (HA.out.keep (hb1.mono HB.out.size))
  have M1 := Lib.hid (rowIs_below RM.out hb1 RM.out.lt)
  have E1 := Lib.hid (rowIs_below R8.out hb1 R8.out.lt)
  obtain ⟨h0, h1, h2, h3⟩ := two_cells E1.out
  obtain ⟨m0, m1, m2⟩ := three_cells M1.out
  have BF := Lib.hid ((B1.out.setCell (p := ⟨w.heap.size + 1, 0, none⟩) (by simp) (.int .i64 0)).setCell (p := ⟨w.heap.size + 1, 1, none⟩) (by simp) (.int .i64 0))
  obtain ⟨e0, e1, _, _⟩ := two_cells (two_set E1.out 0 0)
  clear hb1
  cases K
  · have HV : Hid (apV M a b ph p = (0, 0, 1)) := by
      refine Lib.hid ?_
      unfold apV; rw [HK.out]; rfl
    go_wp2_with fail
    refine bodyPost_ret (v := .tuple #[shV 0 0, .int .i64 1]) (by simp [results, Try.results33, go_sem, e0, e1]) rfl (ShPost.mk rfl HV.out BF.out)
  · obtain ⟨S, hS⟩ : ∃ S, stB a b ph = S := ⟨_, rfl⟩
    have HS := Lib.hid hS
    clear hS
    cases S
    · have HV : Hid (apV M a b ph p = (0, 0, 2)) := by
        refine Lib.hid ?_
        unfold apV; rw [if_pos HK.out, HS.out]; rfl
      go_wp2_with fail
      refine (l18State_k a b ph false HS.out _).mono ?_
      rintro e w2 ⟨rfl, rfl⟩
      go_wp2_with fail
      refine bodyPost_ret (v := .tuple #[shV 0 0, .int .i64 2]) (by simp [results, Try.results33, go_sem, e0, e1]) rfl (ShPost.mk rfl HV.out BF.out)
    have AV : Hid (apV M a b ph p = if p = 0 ∨ wB p (-1000) 1000 = false then (0, 0, 2) else if a = 0 ∨ b = 0 then (0, 0, 5) else chR (M.af a.toNat b.toNat ph p)) := by
      refine Lib.hid ?_
      unfold apV; rw [if_pos HK.out, if_pos HS.out]
    by_cases hp : p = 0
    · have HV := Lib.hid (AV.out.trans (if_pos (.inl hp)))
      subst hp
      go_wp2_with fail
      refine (l18State_k a b ph true HS.out _).mono ?_
      rintro e w2 ⟨rfl, rfl⟩
      go_wp2_with fail
      refine bodyPost_ret (v := .tuple #[shV 0 0, .int .i64 2]) (by simp [results, Try.results33, go_sem, e0, e1]) rfl (ShPost.mk rfl HV.out BF.out)
    have ep : (p == 0) = false := by simpa using hp
    cases hw : wB p (-1000) 1000
    · have HV := Lib.hid (AV.out.trans (if_pos (.inr hw)))
      have HWB := Lib.hid hw
      clear hw hp
      go_wp2_with fail
      refine (l18State_k a b ph true HS.out _).mono ?_
      rintro e w2 ⟨rfl, rfl⟩
      go_wp2_with fail
      refine (l01In_k p (-1000) 1000 false HWB.out _).mono ?_
      rintro e w2 ⟨rfl, rfl⟩
      go_wp2_with fail
      refine bodyPost_ret (v := .tuple #[shV 0 0, .int .i64 2]) (by simp [results, Try.results33, go_sem, e0, e1]) rfl (ShPost.mk rfl HV.out BF.out)
    · have AV2 := Lib.hid (AV.out.trans (if_neg (by rintro (h | h); exact hp h; rw [hw] at h; cases h)))
      obtain ⟨pl, pu⟩ := wB_true.1 hw
      have HWB := Lib.hid hw
      clear hw
      obtain ⟨⟨a0, a9⟩, ⟨b0, b9⟩, ab, p0, p2⟩ := stB_out HS.out
      by_cases ha : a = 0
      · have HV := Lib.hid (AV2.out.trans (if_pos (.inl ha)))
        subst ha
        go_wp2_with fail
        refine (l18State_k _ b ph true HS.out _).mono ?_
        rintro e w2 ⟨rfl, rfl⟩
        go_wp2_with fail
        refine (l01In_k p (-1000) 1000 true HWB.out _).mono ?_
        rintro e w2 ⟨rfl, rfl⟩
        go_wp2_with fail
        refine bodyPost_ret (v := .tuple #[shV 0 0, .int .i64 5]) (by simp [results, Try.results33, go_sem, e0, e1]) rfl (ShPost.mk rfl HV.out BF.out)
      have ea : (a == 0) = false := by simpa using ha
      by_cases hb : b = 0
      · have HV := Lib.hid (AV2.out.trans (if_pos (.inr hb)))
        subst hb
        go_wp2_with fail
        refine (l18State_k a _ ph true HS.out _).mono ?_
        rintro e w2 ⟨rfl, rfl⟩
        go_wp2_with fail
        refine (l01In_k p (-1000) 1000 true HWB.out _).mono ?_
        rintro e w2 ⟨rfl, rfl⟩
        go_wp2_with fail
        refine bodyPost_ret (v := .tuple #[shV 0 0, .int .i64 5]) (by simp [results, Try.results33, go_sem, e0, e1]) rfl (ShPost.mk rfl HV.out BF.out)
      have eb : (b == 0) = false := by simpa using hb
      have HV := Lib.hid (AV2.out.trans (if_neg (by rintro (h | h); exact ha h; exact hb h)))
      obtain ⟨X, rfl⟩ := Int.eq_ofNat_of_zero_le a0
      obtain ⟨Y, rfl⟩ := Int.eq_ofNat_of_zero_le b0
      have hX0 : 0 < X := by omega
      have hY0 : 0 < Y := by omega
      obtain ⟨q, hq⟩ : ∃ q, gp X Y ph = q := ⟨_, rfl⟩
      obtain ⟨r, hr⟩ : ∃ r, nx q = r := ⟨_, rfl⟩
      have qr := gp_bd (a := X) (b := Y) p0 p2
      rw [hq, hr] at qr
      obtain ⟨⟨q0, q2⟩, r0, r2⟩ := qr
      have HQ := Lib.hid hq
      have HR := Lib.hid hr
      have HP := Lib.hid hp
      clear h0 h1 h2 h3 e0 e1 BF hp ha hb hq hr
      by_cases hpos : 0 < p
      · obtain ⟨U, hU⟩ : ∃ U, max 0 ((X : Int) - p) = U := ⟨_, rfl⟩
        obtain ⟨U0, U9, UN⟩ : 0 ≤ U ∧ U ≤ 9 ∧ U.toNat = X - p.toNat := by omega
        have HW : Hid (apV M X Y ph p = mcV M U Y r) := by
          refine Lib.hid ?_
          rw [HV.out, mcV_yes HK.out (stB_mk U0 U9 b0 b9 (by omega) r0 r2)]
          show chR (M.af X Y ph p) = chR (M.ch U.toNat Y r)
          unfold Mm.af
          rw [if_pos hpos, HQ.out, HR.out, UN]
        obtain ⟨x, hx⟩ : ∃ x, (mcV M U Y r).1 = x := ⟨_, rfl⟩
        obtain ⟨y, hy⟩ : ∃ y, (mcV M U Y r).2.1 = y := ⟨_, rfl⟩
        obtain ⟨c, hc⟩ : ∃ c, (mcV M U Y r).2.2 = c := ⟨_, rfl⟩
        have HWW : Hid (apV M X Y ph p = (x, y, c)) := by rw [HW.out, ← hx, ← hy, ← hc]; exact rfl
        have MC := Lib.hid (spec_MatchChance_any M U Y r w1 (A1.out.more B1.out.size) HSZ.out)
        unfold ShPost at MC
        rw [hx, hy, hc] at MC
        clear UN hx hy hc
        go_wp2_with fail
        refine (l18State_k X Y ph true HS.out _).mono ?_
        rintro e w2 ⟨rfl, rfl⟩
        go_wp2_with fail
        refine (l01In_k p (-1000) 1000 true HWB.out _).mono ?_
        rintro e w2 ⟨rfl, rfl⟩
        go_wp2_with fail
        refine (l18Phase_k X Y ph q HQ.out _).mono ?_
        rintro e w2 ⟨rfl, rfl⟩
        go_wp2_with fail
        refine (l18Next_k q r HR.out _).mono ?_
        rintro e w2 ⟨rfl, rfl⟩
        go_wp2_with fail
        refine MC.out.mono ?_
        rintro e w3 ⟨rfl, hb3⟩
        have z3 := hb3.size
        have E3 := Lib.hid (rowIs_below E1.out hb3 E1.out.lt)
        obtain ⟨h0, h1, h2, h3⟩ := two_cells E3.out
        obtain ⟨e0, e1, _, _⟩ := two_cells (two_set E3.out x y)
        have BF := Lib.hid (((B1.out.trans (hb3.mono B1.out.size)).setCell (p := ⟨w.heap.size + 1, 0, none⟩) (by simp) (.int .i64 x)).setCell (p := ⟨w.heap.size + 1, 1, none⟩) (by simp) (.int .i64 y))
        clear hb3
        go_wp2_with fail
        refine bodyPost_ret (v := .tuple #[shV x y, .int .i64 c]) (by simp [results, Try.results33, go_sem, e0, e1]) rfl (ShPost.mk rfl HWW.out BF.out)
      · obtain ⟨U, hU⟩ : ∃ U, max 0 ((Y : Int) + p) = U := ⟨_, rfl⟩
        obtain ⟨U0, U9, UN⟩ : 0 ≤ U ∧ U ≤ 9 ∧ U.toNat = Y - (-p).toNat := by have := HP.out; omega
        have HW : Hid (apV M X Y ph p = mcV M X U r) := by
          refine Lib.hid ?_
          rw [HV.out, mcV_yes HK.out (stB_mk a0 a9 U0 U9 (by omega) r0 r2)]
          show chR (M.af X Y ph p) = chR (M.ch X U.toNat r)
          unfold Mm.af
          rw [if_neg hpos, HQ.out, HR.out, UN]
        obtain ⟨x, hx⟩ : ∃ x, (mcV M X U r).1 = x := ⟨_, rfl⟩
        obtain ⟨y, hy⟩ : ∃ y, (mcV M X U r).2.1 = y := ⟨_, rfl⟩
        obtain ⟨c, hc⟩ : ∃ c, (mcV M X U r).2.2 = c := ⟨_, rfl⟩
        have HWW : Hid (apV M X Y ph p = (x, y, c)) := by rw [HW.out, ← hx, ← hy, ← hc]; exact rfl
        have MC := Lib.hid (spec_MatchChance_any M X U r w1 (A1.out.more B1.out.size) HSZ.out)
        unfold ShPost at MC
        rw [hx, hy, hc] at MC
        clear UN hx hy hc
        go_wp2_with fail
        refine (l18State_k X Y ph true HS.out _).mono ?_
        rintro e w2 ⟨rfl, rfl⟩
        go_wp2_with fail
        refine (l01In_k p (-1000) 1000 true HWB.out _).mono ?_
        rintro e w2 ⟨rfl, rfl⟩
        go_wp2_with fail
        refine (l18Phase_k X Y ph q HQ.out _).mono ?_
        rintro e w2 ⟨rfl, rfl⟩
        go_wp2_with fail
        refine (l18Next_k q r HR.out _).mono ?_
        rintro e w2 ⟨rfl, rfl⟩
        go_wp2_with fail
        refine MC.out.mono ?_
        rintro e w3 ⟨rfl, hb3⟩
        have z3 := hb3.size
        have E3 := Lib.hid (rowIs_below E1.out hb3 E1.out.lt)
        obtain ⟨h0, h1, h2, h3⟩ := two_cells E3.out
        obtain ⟨e0, e1, _, _⟩ := two_cells (two_set E3.out x y)
        have BF := Lib.hid (((B1.out.trans (hb3.mono B1.out.size)).setCell (p := ⟨w.heap.size + 1, 0, none⟩) (by simp) (.int .i64 x)).setCell (p := ⟨w.heap.size + 1, 1, none⟩) (by simp) (.int .i64 y))
        clear hb3
        go_wp2_with fail
        refine bodyPost_ret (v := .tuple #[shV x y, .int .i64 c]) (by simp [results, Try.results33, go_sem, e0, e1]) rfl (ShPost.mk rfl HWW.out BF.out)
end Go.Proofs.Ytkioliioakmepaa
