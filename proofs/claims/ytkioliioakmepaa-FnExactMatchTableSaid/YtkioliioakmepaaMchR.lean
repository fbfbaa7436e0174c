/-
  The walks of MatchChance (both packages).
-/
import Derived.Test.YtkioliioakmepaaMchN
namespace Go.Proofs.Ytkioliioakmepaa
open Go.ChangeShapes Go.WideShapes Go.ChangeAt Go.RowKit
set_option linter.unusedVariables false

/-- what both packages make of a state that is valid -/
def chR (o : Option Int) : Int × Int × Int := match o with | some c => (sN c, sD c, 0) | none => (0, 0, 3)
def Mm.good (M : Mm) : Bool := mmB M.n M.xs M.m M.ys M.p M.zs
/-- what both packages' MatchChance returns -/
def mcV (M : Mm) (a b ph : Int) : Int × Int × Int := if M.good = true then (if stB a b ph = true then chR (M.ch a.toNat b.toNat ph) else (0, 0, 2)) else (0, 0, 1)
/-- a share and a code -/
def ShPost (v : Int × Int × Int) (w : World) (e : Ending) (w' : World) : Prop := e = .returned (.tuple #[shV v.1 v.2.1, .int .i64 v.2.2]) ∧ Below w.heap.size w w'
theorem ShPost.mk {v : Int × Int × Int} {x y c : Int} {w w' : World} {e : Ending} (he : e = .returned (.tuple #[shV x y, .int .i64 c])) (hv : v = (x, y, c)) (hb : Below w.heap.size w w') : ShPost v w e w' := by subst hv; exact ⟨he, hb⟩
theorem mcV_no {M : Mm} {a b ph : Int} (h : M.good = false) : mcV M a b ph = (0, 0, 1) := by unfold mcV; rw [h]; rfl
theorem mcV_st {M : Mm} {a b ph : Int} (h : M.good = true) (k : stB a b ph = false) : mcV M a b ph = (0, 0, 2) := by unfold mcV; rw [if_pos h, k]; rfl
theorem mcV_yes {M : Mm} {a b ph : Int} (h : M.good = true) (k : stB a b ph = true) : mcV M a b ph = chR (M.ch a.toNat b.toNat ph) := by unfold mcV; rw [if_pos h, if_pos k]
theorem Mm.good_ok {M : Mm} {w : World} {B : Nat} (h : M.good = true) (hA : M.at w B) : M.ok := by
  unfold Mm.good mmB at h
  simp only [Bool.and_eq_true] at h
  obtain ⟨k1, k2, k3⟩ := h
  obtain ⟨n1, o1⟩ := wkB_out k1 hA.1.len
  obtain ⟨n2, o2⟩ := wkB_out k2 hA.2.1.len
  obtain ⟨n3, o3⟩ := wkB_out k3 hA.2.2.len
  exact ⟨o1, o2, o3, n1, n2, n3⟩
theorem stB_out {a b ph : Int} (h : stB a b ph = true) : (0 ≤ a ∧ a ≤ 9) ∧ (0 ≤ b ∧ b ≤ 9) ∧ 0 < a + b ∧ 0 ≤ ph ∧ ph ≤ 2 := by
  unfold stB at h
  simp only [Bool.and_eq_true] at h
  exact ⟨wB_true.1 h.1, wB_true.1 h.2.1, of_decide_eq_true h.2.2.1, wB_true.1 h.2.2.2⟩
theorem spec_mm (M : Mm) (w : World) (h : M.at w w.heap.size) (hs : M.sz) (k : Bool) (hk : M.good = k) : Calls Try.prog 64 #[.agg #[.slice M.a M.n M.c, .slice M.b M.m M.d, .slice M.e M.p M.f]] w fun e w' => e = .returned (.bool k) ∧ Below w.heap.size w w' := by
  unfold Mm.sz at hs
  exact hk ▸ spec_IsMatchModel_any M.a M.n M.c M.xs M.b M.m M.d M.ys M.e M.p M.f M.zs w h.1 h.2.1 h.2.2 (by omega) (by omega) (by omega)
theorem impl_mm (M : Mm) (w : World) (h : M.at w w.heap.size) (hs : M.sz) (k : Bool) (hk : M.good = k) : Calls Try.prog 81 #[.agg #[.slice M.a M.n M.c, .slice M.b M.m M.d, .slice M.e M.p M.f]] w fun e w' => e = .returned (.bool k) ∧ Below w.heap.size w w' := by
  unfold Mm.sz at hs
  exact hk ▸ impl_IsMatchModel_any M.a M.n M.c M.xs M.b M.m M.d M.ys M.e M.p M.f M.zs w h.1 h.2.1 h.2.2 (by omega) (by omega) (by omega)
theorem l18State_k (a b ph : Int) (k : Bool) (hk : stB a b ph = k) (w : World) : Calls Try.prog 65 #[.int .i64 a, .int .i64 b, .int .i64 ph] w fun e w' => e = .returned (.bool k) ∧ w = w' := hk ▸ l18State_any a b ph w
theorem isMatchState_k (a b ph : Int) (k : Bool) (hk : stB a b ph = k) (w : World) : Calls Try.prog 79 #[.int .i64 a, .int .i64 b, .int .i64 ph] w fun e w' => e = .returned (.bool k) ∧ w = w' := hk ▸ isMatchState_any a b ph w
theorem Mm.at.more {M : Mm} {w : World} {B B' : Nat} (h : M.at w B) (hB : B ≤ B') : M.at w B' := ⟨h.1.more hB, h.2.1.more hB, h.2.2.more hB⟩

set_option maxHeartbeats 1600000 in
theorem spec_MatchChance_any (M : Mm) (a b ph : Int) (w : World) (hA : M.at w w.heap.size) (hs : M.sz) :
    Calls Try.prog 24 #[M.V, .int .i64 a, .int .i64 b, .int .i64 ph] w fun e w' => ShPost (mcV M a b ph) w e w' := by
  have hb0 := ((Below.refl w.heap.size w).alloc (Nat.le_refl _) (.cells #[.slice M.a M.n M.c, .slice M.b M.m M.d, .slice M.e M.p M.f] 26)).alloc (by simp) (.cells #[.int .i64 0, .int .i64 0] 30)
  have HB := Lib.hid hb0
  have HA := Lib.hid (hA.keep hb0)
  have rm := (three_new w (.slice M.a M.n M.c) (.slice M.b M.m M.d) (.slice M.e M.p M.f) 26).alloc (.cells #[.int .i64 0, .int .i64 0] 30)
  have r8 := two_new (w.alloc (.cells #[.slice M.a M.n M.c, .slice M.b M.m M.d, .slice M.e M.p M.f] 26)) 0 0 30
  rw [World.size_alloc] at r8
  have RM := Lib.hid rm
  have R8 := Lib.hid r8
  obtain ⟨K, hK⟩ : ∃ K, M.good = K := ⟨_, rfl⟩
  have HK := Lib.hid hK
  have GA := Lib.hid hA
  clear hb0 rm r8 hK hA
  go_enter Try.func24, Try.ntmps24
  go_wp2_with fail
  refine (spec_mm M _ (HA.out.more HB.out.size) hs K HK.out).mono ?_
  rintro e w1 ⟨rfl, hb1⟩
  have z1 := hb1.size
  simp only [World.size_alloc] at z1
  have B1 := Lib.hid (HB.out.trans (hb1.mono HB.out.size))
  have A1 := Lib.hid (HA.out.keep (hb1.mono HB.out.size))
  have M1 := Lib.hid (rowIs_below RM.out hb1 RM.out.lt)
  have E1 := Lib.hid (rowIs_below R8.out hb1 R8.out.lt)
  obtain ⟨h0, h1, h2, h3⟩ := two_cells E1.out
  obtain ⟨m0, m1, m2⟩ := three_cells M1.out
  clear hb1
  cases K
  · have HV := Lib.hid (mcV_no (a := a) (b := b) (ph := ph) HK.out)
    have BF := Lib.hid ((B1.out.setCell (p := ⟨w.heap.size + 1, 0, none⟩) (by simp) (.int .i64 0)).setCell (p := ⟨w.heap.size + 1, 1, none⟩) (by simp) (.int .i64 0))
    obtain ⟨e0, e1, _, _⟩ := two_cells (two_set E1.out 0 0)
    go_wp2_with fail
    refine bodyPost_ret (v := .tuple #[shV 0 0, .int .i64 1]) (by simp [results, Try.results24, go_sem, e0, e1]) rfl (ShPost.mk rfl HV.out BF.out)
  · obtain ⟨S, hS⟩ : ∃ S, stB a b ph = S := ⟨_, rfl⟩
    have HS := Lib.hid hS
    clear hS
    go_wp2_with fail
    refine (l18State_k a b ph S HS.out _).mono ?_
    rintro e w2 ⟨rfl, rfl⟩
    cases S
    · have HV := Lib.hid (mcV_st HK.out HS.out)
      have BF := Lib.hid ((B1.out.setCell (p := ⟨w.heap.size + 1, 0, none⟩) (by simp) (.int .i64 0)).setCell (p := ⟨w.heap.size + 1, 1, none⟩) (by simp) (.int .i64 0))
      obtain ⟨e0, e1, _, _⟩ := two_cells (two_set E1.out 0 0)
      go_wp2_with fail
      refine bodyPost_ret (v := .tuple #[shV 0 0, .int .i64 2]) (by simp [results, Try.results24, go_sem, e0, e1]) rfl (ShPost.mk rfl HV.out BF.out)
    · obtain ⟨⟨a0, a9⟩, ⟨b0, b9⟩, ab, p0, p2⟩ := stB_out HS.out
      have HV := Lib.hid (mcV_yes HK.out HS.out)
      have hM := Mm.good_ok HK.out GA.out
      obtain ⟨X, rfl⟩ := Int.eq_ofNat_of_zero_le a0
      obtain ⟨Y, rfl⟩ := Int.eq_ofNat_of_zero_le b0
      clear h0 h1 h2 h3
      go_wp2_with fail
      refine (l18New_any M _).mono ?_
      rintro e w2 ⟨g, k, v, rfl, hL, hT, hb2⟩
      have z2 := hb2.size
      have B2 := Lib.hid (B1.out.trans (hb2.mono B1.out.size))
      have A2 := Lib.hid ((A1.out.keep (hb2.mono B1.out.size)).more (B1.out.size))
      have E2 := Lib.hid (rowIs_below E1.out hb2 E1.out.lt)
      have HT := Lib.hid hT
      have HL := Lib.hid hL
      clear hT hb2 hL m0 m1 m2
      go_wp2_with fail
      refine (l18Chance_any M hM w1.heap.size w2.heap.size g k v HL.out (X + Y) X Y ph false w2 (Nat.le_refl _) (by omega) (by omega) p0 p2 A2.out HT.out (Nat.le_refl _)).mono ?_
      rintro e w3 ⟨x, y, fb, rfl, t3, o3, _, s3, n3⟩
      have z3 := o3.size
      have B3 := Lib.hid ((Out.below B2.out o3 B1.out.size).alloc (Nat.le_trans B2.out.size z3) (.cells #[.int .i64 x, .int .i64 y] 30))
      have E3 := Lib.hid ((row_out E2.out o3 (.inl (by omega))).alloc (.cells #[.int .i64 x, .int .i64 y] 30))
      have X3 := Lib.hid (two_new w3 x y 30)
      have T3 := Lib.hid (t3.alloc (.cells #[.int .i64 x, .int .i64 y] 30))
      have S3 := Lib.hid s3
      have N3 := Lib.hid n3
      clear t3 o3 s3 n3
      obtain ⟨kf, vf, g1, _, _, _⟩ := T3.out
      have u5 := g1.cell (i := 5) (by omega)
      simp only [tbC] at u5
      obtain ⟨h0, h1, h2, h3⟩ := two_cells E3.out
      obtain ⟨x0, x1, _, _⟩ := two_cells X3.out
      clear g1
      cases fb
      · have BF := Lib.hid ((B3.out.setCell (p := ⟨w.heap.size + 1, 0, none⟩) (by simp) (.int .i64 x)).setCell (p := ⟨w.heap.size + 1, 1, none⟩) (by simp) (.int .i64 y))
        obtain ⟨e0, e1, _, _⟩ := two_cells (two_set E3.out x y)
        have HW : Hid (mcV M X Y ph = (x, y, 0)) := by
          obtain ⟨c, hc, hx, hy⟩ := S3.out rfl
          have hc' : M.ch (X : Int).toNat (Y : Int).toNat ph = some c := hc
          exact HV.out.trans (by rw [hc', hx, hy]; rfl)
        go_wp2_with fail
        refine bodyPost_ret (v := .tuple #[shV x y, .int .i64 0]) (by simp [results, Try.results24, go_sem, e0, e1]) rfl (ShPost.mk rfl HW.out BF.out)
      · have BF := Lib.hid ((B3.out.setCell (p := ⟨w.heap.size + 1, 0, none⟩) (by simp) (.int .i64 0)).setCell (p := ⟨w.heap.size + 1, 1, none⟩) (by simp) (.int .i64 0))
        obtain ⟨e0, e1, _, _⟩ := two_cells (two_set E3.out 0 0)
        have HW : Hid (mcV M X Y ph = (0, 0, 3)) := by
          have hc' : M.ch (X : Int).toNat (Y : Int).toNat ph = none := N3.out rfl rfl
          exact HV.out.trans (by rw [hc']; rfl)
        go_wp2_with fail
        refine bodyPost_ret (v := .tuple #[shV 0 0, .int .i64 3]) (by simp [results, Try.results24, go_sem, e0, e1]) rfl (ShPost.mk rfl HW.out BF.out)
/-- the code of a model and a state -/
def ckV (M : Mm) (a b ph : Int) : Int := if M.good = true then (if stB a b ph = true then 0 else 2) else 1
theorem ckV_of {M : Mm} {a b ph : Int} : ∀ {K S : Bool}, M.good = K → stB a b ph = S → ckV M a b ph = (if K = true then (if S = true then 0 else 2) else 1) := by
  rintro K S rfl rfl; rfl
theorem checkMatch_any (M : Mm) (a b ph : Int) (w : World) (hA : M.at w w.heap.size) (hs : M.sz) (C : Int) (hC : ckV M a b ph = C) :
    Calls Try.prog 69 #[.agg #[.slice M.a M.n M.c, .slice M.b M.m M.d, .slice M.e M.p M.f], .int .i64 a, .int .i64 b, .int .i64 ph] w fun e w' => e = .returned (.int .i64 C) ∧ Below w.heap.size w w' := by
  have hb0 := (Below.refl w.heap.size w).alloc (Nat.le_refl _) (.cells #[.slice M.a M.n M.c, .slice M.b M.m M.d, .slice M.e M.p M.f] 26)
  have HB := Lib.hid hb0
  have HA := Lib.hid (hA.keep hb0)
  obtain ⟨K, hK⟩ : ∃ K, M.good = K := ⟨_, rfl⟩
  obtain ⟨S, hS⟩ : ∃ S, stB a b ph = S := ⟨_, rfl⟩
  have HCV := Lib.hid (hC.symm.trans (ckV_of hK hS))
  have HK := Lib.hid hK
  have HS := Lib.hid hS
  clear hb0 hA hK hS hC
  go_enter Try.func69, Try.ntmps69
  go_wp2_with fail
  refine (impl_mm M _ (HA.out.more HB.out.size) hs K HK.out).mono ?_
  rintro e w1 ⟨rfl, hb1⟩
  have B1 := Lib.hid (HB.out.trans (hb1.mono HB.out.size))
  clear hb1
  cases K
  · go_wp2_with fail
    go_ret
    exact ⟨ret_int HCV.out, B1.out⟩
  · go_wp2_with fail
    refine (isMatchState_k a b ph S HS.out _).mono ?_
    rintro e w2 ⟨rfl, rfl⟩
    cases S
    all_goals
      go_wp2_with fail
      go_ret
      exact ⟨ret_int HCV.out, B1.out⟩
set_option maxHeartbeats 1600000 in
theorem impl_MatchChance_any (M : Mm) (a b ph : Int) (w : World) (hA : M.at w w.heap.size) (hs : M.sz) :
    Calls Try.prog 26 #[M.V, .int .i64 a, .int .i64 b, .int .i64 ph] w fun e w' => ShPost (mcV M a b ph) w e w' := by
  have hb0 := ((Below.refl w.heap.size w).alloc (Nat.le_refl _) (.cells #[.slice M.a M.n M.c, .slice M.b M.m M.d, .slice M.e M.p M.f] 26)).alloc (by simp) (.cells #[.int .i64 0, .int .i64 0] 30)
  have HB := Lib.hid hb0
  have HA := Lib.hid (hA.keep hb0)
  have rm := (three_new w (.slice M.a M.n M.c) (.slice M.b M.m M.d) (.slice M.e M.p M.f) 26).alloc (.cells #[.int .i64 0, .int .i64 0] 30)
  have r8 := two_new (w.alloc (.cells #[.slice M.a M.n M.c, .slice M.b M.m M.d, .slice M.e M.p M.f] 26)) 0 0 30
  rw [World.size_alloc] at r8
  have RM := Lib.hid rm
  have R8 := Lib.hid r8
  have GA := Lib.hid hA
  obtain ⟨C, hC⟩ : ∃ C, ckV M a b ph = C := ⟨_, rfl⟩
  have HC := Lib.hid hC
  clear hb0 rm r8 hA hC
  go_enter Try.func26, Try.ntmps26
  go_wp2_with fail
  refine (checkMatch_any M a b ph _ (HA.out.more HB.out.size) hs C HC.out).mono ?_
  rintro e w1 ⟨rfl, hb1⟩
  have z1 := hb1.size
  simp only [World.size_alloc] at z1
  have B1 := Lib.hid (HB.out.trans (hb1.mono HB.out.size))
  have A1 := Lib.hid (HA.out.keep (hb1.mono HB.out.size))
  have M1 := Lib.hid (rowIs_below RM.out hb1 RM.out.lt)
  have E1 := Lib.hid (rowIs_below R8.out hb1 R8.out.lt)
  obtain ⟨h0, h1, h2, h3⟩ := two_cells E1.out
  obtain ⟨m0, m1, m2⟩ := three_cells M1.out
  clear hb1
  by_cases hc : C = 0
  · subst hc
    have HG : Hid (M.good = true ∧ stB a b ph = true) := by
      have := HC.out
      unfold ckV at this
      split at this
      · split at this
        · exact ⟨‹_›, ‹_›⟩
        · exact absurd this (by decide)
      · exact absurd this (by decide)
    obtain ⟨⟨a0, a9⟩, ⟨b0, b9⟩, ab, p0, p2⟩ := stB_out HG.out.2
    have HV := Lib.hid (mcV_yes HG.out.1 HG.out.2)
    have hM := Mm.good_ok HG.out.1 GA.out
    obtain ⟨X, rfl⟩ := Int.eq_ofNat_of_zero_le a0
    obtain ⟨Y, rfl⟩ := Int.eq_ofNat_of_zero_le b0
    clear h0 h1 h2 h3
    go_wp2_with fail
    refine (newMatch_any M _).mono ?_
    rintro e w2 ⟨g, t, f, rfl, hL, hT, hb2⟩
    have z2 := hb2.size
    have B2 := Lib.hid (B1.out.trans (hb2.mono B1.out.size))
    have A2 := Lib.hid ((A1.out.keep (hb2.mono B1.out.size)).more (B1.out.size))
    have E2 := Lib.hid (rowIs_below E1.out hb2 E1.out.lt)
    have HT := Lib.hid hT
    have HL := Lib.hid hL
    have hg18 := gB_mono (show X + Y ≤ 18 by omega)
    rw [gB_18] at hg18
    clear hT hb2 hL m0 m1 m2
    go_wp2_with fail
    refine (chance_any M hM w1.heap.size w2.heap.size g t f HL.out z2 (X + Y) X Y ph 0 w2 (Nat.le_refl _) (by omega) (by omega) p0 p2 A2.out HT.out (Nat.le_refl _) (by omega)).mono ?_
    rintro e w3 ⟨x, y, ok, rfl, t3, o3, s3, n3⟩
    have z3 := o3.size
    have B3 := Lib.hid ((Out.below B2.out o3 B1.out.size).alloc (Nat.le_trans B2.out.size z3) (.cells #[.int .i64 x, .int .i64 y] 30))
    have E3 := Lib.hid ((row_out E2.out o3 (.inl (by omega))).alloc (.cells #[.int .i64 x, .int .i64 y] 30))
    have X3 := Lib.hid (two_new w3 x y 30)
    have S3 := Lib.hid s3
    have N3 := Lib.hid n3
    clear t3 o3 s3 n3
    obtain ⟨h0, h1, h2, h3⟩ := two_cells E3.out
    obtain ⟨x0, x1, _, _⟩ := two_cells X3.out
    cases ok
    · have BF := Lib.hid ((B3.out.setCell (p := ⟨w.heap.size + 1, 0, none⟩) (by simp) (.int .i64 0)).setCell (p := ⟨w.heap.size + 1, 1, none⟩) (by simp) (.int .i64 0))
      obtain ⟨e0, e1, _, _⟩ := two_cells (two_set E3.out 0 0)
      have HW : Hid (mcV M X Y ph = (0, 0, 3)) := by
        have hc' : M.ch (X : Int).toNat (Y : Int).toNat ph = none := N3.out rfl
        exact HV.out.trans (by rw [hc']; rfl)
      go_wp2_with fail
      refine bodyPost_ret (v := .tuple #[shV 0 0, .int .i64 3]) (by simp [results, Try.results26, go_sem, e0, e1]) rfl (ShPost.mk rfl HW.out BF.out)
    · have BF := Lib.hid ((B3.out.setCell (p := ⟨w.heap.size + 1, 0, none⟩) (by simp) (.int .i64 x)).setCell (p := ⟨w.heap.size + 1, 1, none⟩) (by simp) (.int .i64 y))
      obtain ⟨e0, e1, _, _⟩ := two_cells (two_set E3.out x y)
      have HW : Hid (mcV M X Y ph = (x, y, 0)) := by
        obtain ⟨c, hc, hx, hy⟩ := S3.out rfl
        have hc' : M.ch (X : Int).toNat (Y : Int).toNat ph = some c := hc
        exact HV.out.trans (by rw [hc', hx, hy]; rfl)
      go_wp2_with fail
      refine bodyPost_ret (v := .tuple #[shV x y, .int .i64 0]) (by simp [results, Try.results26, go_sem, e0, e1]) rfl (ShPost.mk rfl HW.out BF.out)
  · have ec : (C != 0) = true := by simpa using hc
    have HV : Hid (mcV M a b ph = (0, 0, C)) := by
      have hC := HC.out
      refine Lib.hid ?_
      unfold ckV at hC
      unfold mcV
      split at hC
      · split at hC
        · exact absurd hC.symm hc
        · rename_i h k; rw [if_pos h, if_neg k, hC]
      · rename_i h; rw [if_neg h, hC]
    have BF := Lib.hid ((B1.out.setCell (p := ⟨w.heap.size + 1, 0, none⟩) (by simp) (.int .i64 0)).setCell (p := ⟨w.heap.size + 1, 1, none⟩) (by simp) (.int .i64 0))
    obtain ⟨e0, e1, _, _⟩ := two_cells (two_set E1.out 0 0)
    clear hc
    go_wp2_with fail
    refine bodyPost_ret (v := .tuple #[shV 0 0, .int .i64 C]) (by simp [results, Try.results26, go_sem, e0, e1]) rfl (ShPost.mk rfl HV.out BF.out)
/-- two models with the same lists -/
def Sm (K M : Mm) : Prop := K.n = M.n ∧ K.m = M.m ∧ K.p = M.p ∧ K.xs = M.xs ∧ K.ys = M.ys ∧ K.zs = M.zs
theorem Sm.good {K M : Mm} (h : Sm K M) : K.good = M.good := by
  obtain ⟨h1, h2, h3, h4, h5, h6⟩ := h
  unfold Mm.good; rw [h1, h2, h3, h4, h5, h6]
theorem Sm.ch {K M : Mm} (h : Sm K M) (a b : Nat) (ph : Int) : K.ch a b ph = M.ch a b ph := by
  obtain ⟨h1, h2, h3, h4, h5, h6⟩ := h
  unfold Mm.ch; rw [h4, h5, h6]
theorem Sm.mc {K M : Mm} (h : Sm K M) (a b ph : Int) : mcV K a b ph = mcV M a b ph := by unfold mcV; rw [h.good, h.ch]
theorem Sm.sz {K M : Mm} (h : Sm K M) (hs : M.sz) : K.sz := by
  obtain ⟨h1, h2, h3, _⟩ := h
  unfold Mm.sz at hs ⊢; omega
theorem toMm_cp (M : Mm) (w : World) (h : M.at w w.heap.size) (hs : M.sz) : Calls Try.prog 25 #[.agg #[.slice M.a M.n M.c, .slice M.b M.m M.d, .slice M.e M.p M.f]] w fun e w' => ∃ K : Mm, e = .returned (.agg #[.slice K.a K.n K.c, .slice K.b K.m K.d, .slice K.e K.p K.f]) ∧ Sm K M ∧ K.at w' w'.heap.size ∧ Below w.heap.size w w' := by
  refine (toMatchModel_any M w h hs).mono ?_
  rintro e w' ⟨g1, g2, g3, k1, k2, he, r1, r2, r3, q1, q2, q3, hb⟩
  exact ⟨⟨some ⟨g1, 0, none⟩, M.n, M.n, some ⟨g2, 0, none⟩, M.m, M.m, some ⟨g3, 0, none⟩, M.p, M.p, M.xs, M.ys, M.zs⟩, he, ⟨rfl, rfl, rfl, rfl, rfl, rfl⟩, ⟨r1.ints h.1.len, r2.ints h.2.1.len, r3.ints h.2.2.len⟩, hb⟩
theorem eqMm_cp (M K : Mm) (w : World) (h : M.at w w.heap.size) (k : K.at w w.heap.size) (e : Sm K M) (hs : M.sz) : Calls Try.prog 28 #[.agg #[.slice M.a M.n M.c, .slice M.b M.m M.d, .slice M.e M.p M.f], .agg #[.slice K.a K.n K.c, .slice K.b K.m K.d, .slice K.e K.p K.f]] w fun e w' => e = .returned (.bool true) ∧ Below w.heap.size w w' :=
  eqMatchModel_same M K w h k e.1 e.2.1 e.2.2.1 e.2.2.2.1 e.2.2.2.2.1 e.2.2.2.2.2 hs
theorem Sm.two {K L M : Mm} (h : Sm K M) (k : Sm L M) : Sm L K := ⟨k.1.trans h.1.symm, k.2.1.trans h.2.1.symm, k.2.2.1.trans h.2.2.1.symm, k.2.2.2.1.trans h.2.2.2.1.symm, k.2.2.2.2.1.trans h.2.2.2.2.1.symm, k.2.2.2.2.2.trans h.2.2.2.2.2.symm⟩
theorem Mm.at.drew {M : Mm} {w : World} {B : Nat} (h : M.at w B) : M.at w.drew B := h
theorem IntsArg.at3 {w : World} {a b e : Option Addr} {n m p c d f : Nat} {xs ys zs : List Int} (h1 : IntsArg w .i64 a n xs) (h2 : IntsArg w .i64 b m ys) (h3 : IntsArg w .i64 e p zs) : Mm.at ⟨a, n, c, b, m, d, e, p, f, xs, ys, zs⟩ w w.heap.size := ⟨h1.1, h2.1, h3.1⟩
end Go.Proofs.Ytkioliioakmepaa
