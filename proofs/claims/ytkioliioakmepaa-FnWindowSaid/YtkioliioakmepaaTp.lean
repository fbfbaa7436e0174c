/-
  The walks of takePoint, TakePoint, l19Less and l19Ratio (both packages).
-/
import Derived.Test.YtkioliioakmepaaTpP
import Derived.Deep.Cut
import Derived.Deep.CutRange
import Derived.Deep.DeepCutAuto
namespace Go.Proofs.Ytkioliioakmepaa
open Go.ChangeShapes Go.WideShapes Go.ChangeAt Go.RowKit
set_option linter.unusedVariables false

set_option maxHeartbeats 3200000 in
theorem takePoint_any (a b c d e f : Int) (w : World) (h1 : shOk a b) (h2 : shOk c d) (h3 : shOk e f) : Calls Try.prog 61 #[shV a b, shV c d, shV e f] w fun e1 w1 => e1 = .returned (.tuple #[shV (tpV a b c d e f).1 (tpV a b c d e f).2.1, .int .i64 (tpV a b c d e f).2.2]) ∧ Below w.heap.size w w1 := by
  obtain ⟨a0, a1, b0, b1⟩ := h1
  obtain ⟨c0, c1, d0, d1⟩ := h2
  obtain ⟨e0, e1, f0, f1⟩ := h3
  have K1 := Lib.hid (fun W => compareShares_any c d a b W c0 (by omega) d0 d1 a0 (by omega) b0 b1)
  have K2 := Lib.hid (fun W => compareShares_any a b e f W a0 (by omega) b0 b1 e0 (by omega) f0 f1)
  have K3 := Lib.hid (fun W => compareShares_any c d e f W c0 (by omega) d0 d1 e0 (by omega) f0 f1)
  obtain ⟨k1, hk1⟩ : ∃ k, cmpS c d a b = k := ⟨_, rfl⟩
  obtain ⟨k2, hk2⟩ : ∃ k, cmpS a b e f = k := ⟨_, rfl⟩
  obtain ⟨k3, hk3⟩ : ∃ k, cmpS c d e f = k := ⟨_, rfl⟩
  have HO : Hid (tpOrd a b c d e f ↔ 0 < k1 ∨ 0 < k2 ∨ 0 ≤ k3) := by show _ ↔ _; rw [tpOrd, hk1, hk2, hk3]
  rw [hk1] at K1
  rw [hk2] at K2
  rw [hk3] at K3
  clear hk1 hk2 hk3
  have HB0 := (((((Below.refl w.heap.size w).alloc (Nat.le_refl _) (.cells #[.int .i64 a, .int .i64 b] 30)).alloc (by first | omega | (simp; done) | (simp; omega)) (.cells #[.int .i64 c, .int .i64 d] 30)).alloc (by first | omega | (simp; done) | (simp; omega)) (.cells #[.int .i64 e, .int .i64 f] 30)).alloc (by first | omega | (simp; done) | (simp; omega)) (.cells #[.int .i64 0, .int .i64 0] 30))
  have r0 := (((two_new w a b 30).alloc (.cells #[.int .i64 c, .int .i64 d] 30)).alloc (.cells #[.int .i64 e, .int .i64 f] 30)).alloc (.cells #[.int .i64 0, .int .i64 0] 30)
  have r1 := ((two_new (w.alloc (.cells #[.int .i64 a, .int .i64 b] 30)) c d 30).alloc (.cells #[.int .i64 e, .int .i64 f] 30)).alloc (.cells #[.int .i64 0, .int .i64 0] 30)
  have r2 := (two_new ((w.alloc (.cells #[.int .i64 a, .int .i64 b] 30)).alloc (.cells #[.int .i64 c, .int .i64 d] 30)) e f 30).alloc (.cells #[.int .i64 0, .int .i64 0] 30)
  have r3 := two_new (((w.alloc (.cells #[.int .i64 a, .int .i64 b] 30)).alloc (.cells #[.int .i64 c, .int .i64 d] 30)).alloc (.cells #[.int .i64 e, .int .i64 f] 30)) 0 0 30
  simp only [World.size_alloc] at r1 r2 r3
  have R0 := Lib.hid r0
  have R1 := Lib.hid r1
  have R2 := Lib.hid r2
  have R3 := Lib.hid r3
  clear r0 r1 r2 r3
  by_cases s1 : 0 < k1
  · have HV := Lib.hid (tpV_5 (HO.out.2 (.inl s1)))
    go_enter Try.func61, Try.ntmps61
    go_wp2_with fail
    refine (K1.out _).mono ?_
    rintro e v1 ⟨rfl, hb⟩
    replace R0 := Lib.hid (rowIs_below R0.out hb R0.out.lt)
    replace R1 := Lib.hid (rowIs_below R1.out hb R1.out.lt)
    replace R2 := Lib.hid (rowIs_below R2.out hb R2.out.lt)
    replace R3 := Lib.hid (rowIs_below R3.out hb R3.out.lt)
    replace HB0 := HB0.trans (hb.mono HB0.size)
    have zv1 := hb.size
    simp only [World.size_alloc] at zv1
    clear hb
    obtain ⟨c00, c01, _, _⟩ := two_cells R0.out
    obtain ⟨c10, c11, _, _⟩ := two_cells R1.out
    obtain ⟨c20, c21, _, _⟩ := two_cells R2.out
    obtain ⟨q0, q1, g0, g1⟩ := two_cells R3.out
    go_wp2_with fail
    obtain ⟨p0, p1, _, _⟩ := two_cells (two_set R3.out 0 0)
    refine bodyPost_ret (v := .tuple #[shV 0 0, .int .i64 5]) (by simp [results, Try.results61, go_sem, p0, p1]) rfl ⟨ret_sh3 HV.out, (HB0.setCell (by first | omega | (simp; done) | (simp; omega)) _).setCell (by first | omega | (simp; done) | (simp; omega)) _⟩
  · by_cases s2 : 0 < k2
    · have HV := Lib.hid (tpV_5 (HO.out.2 (.inr (.inl s2))))
      go_enter Try.func61, Try.ntmps61
      go_wp2_with fail
      refine (K1.out _).mono ?_
      rintro e v1 ⟨rfl, hb⟩
      replace R0 := Lib.hid (rowIs_below R0.out hb R0.out.lt)
      replace R1 := Lib.hid (rowIs_below R1.out hb R1.out.lt)
      replace R2 := Lib.hid (rowIs_below R2.out hb R2.out.lt)
      replace R3 := Lib.hid (rowIs_below R3.out hb R3.out.lt)
      replace HB0 := HB0.trans (hb.mono HB0.size)
      have zv1 := hb.size
      simp only [World.size_alloc] at zv1
      clear hb
      obtain ⟨c00, c01, _, _⟩ := two_cells R0.out
      obtain ⟨c10, c11, _, _⟩ := two_cells R1.out
      obtain ⟨c20, c21, _, _⟩ := two_cells R2.out
      obtain ⟨q0, q1, g0, g1⟩ := two_cells R3.out
      go_wp2_with fail
      clear c00 c01 c10 c11 c20 c21 q0 q1 g0 g1
      refine (K2.out _).mono ?_
      rintro e v2 ⟨rfl, hb⟩
      replace R0 := Lib.hid (rowIs_below R0.out hb R0.out.lt)
      replace R1 := Lib.hid (rowIs_below R1.out hb R1.out.lt)
      replace R2 := Lib.hid (rowIs_below R2.out hb R2.out.lt)
      replace R3 := Lib.hid (rowIs_below R3.out hb R3.out.lt)
      replace HB0 := HB0.trans (hb.mono HB0.size)
      have zv2 := hb.size
      clear hb
      obtain ⟨c00, c01, _, _⟩ := two_cells R0.out
      obtain ⟨c10, c11, _, _⟩ := two_cells R1.out
      obtain ⟨c20, c21, _, _⟩ := two_cells R2.out
      obtain ⟨q0, q1, g0, g1⟩ := two_cells R3.out
      go_wp2_with fail
      obtain ⟨p0, p1, _, _⟩ := two_cells (two_set R3.out 0 0)
      refine bodyPost_ret (v := .tuple #[shV 0 0, .int .i64 5]) (by simp [results, Try.results61, go_sem, p0, p1]) rfl ⟨ret_sh3 HV.out, (HB0.setCell (by first | omega | (simp; done) | (simp; omega)) _).setCell (by first | omega | (simp; done) | (simp; omega)) _⟩
    · by_cases s3 : 0 ≤ k3
      · have HV := Lib.hid (tpV_5 (HO.out.2 (.inr (.inr s3))))
        go_enter Try.func61, Try.ntmps61
        go_wp2_with fail
        refine (K1.out _).mono ?_
        rintro e v1 ⟨rfl, hb⟩
        replace R0 := Lib.hid (rowIs_below R0.out hb R0.out.lt)
        replace R1 := Lib.hid (rowIs_below R1.out hb R1.out.lt)
        replace R2 := Lib.hid (rowIs_below R2.out hb R2.out.lt)
        replace R3 := Lib.hid (rowIs_below R3.out hb R3.out.lt)
        replace HB0 := HB0.trans (hb.mono HB0.size)
        have zv1 := hb.size
        simp only [World.size_alloc] at zv1
        clear hb
        obtain ⟨c00, c01, _, _⟩ := two_cells R0.out
        obtain ⟨c10, c11, _, _⟩ := two_cells R1.out
        obtain ⟨c20, c21, _, _⟩ := two_cells R2.out
        obtain ⟨q0, q1, g0, g1⟩ := two_cells R3.out
        go_wp2_with fail
        clear c00 c01 c10 c11 c20 c21 q0 q1 g0 g1
        refine (K2.out _).mono ?_
        rintro e v2 ⟨rfl, hb⟩
        replace R0 := Lib.hid (rowIs_below R0.out hb R0.out.lt)
        replace R1 := Lib.hid (rowIs_below R1.out hb R1.out.lt)
        replace R2 := Lib.hid (rowIs_below R2.out hb R2.out.lt)
        replace R3 := Lib.hid (rowIs_below R3.out hb R3.out.lt)
        replace HB0 := HB0.trans (hb.mono HB0.size)
        have zv2 := hb.size
        clear hb
        obtain ⟨c00, c01, _, _⟩ := two_cells R0.out
        obtain ⟨c10, c11, _, _⟩ := two_cells R1.out
        obtain ⟨c20, c21, _, _⟩ := two_cells R2.out
        obtain ⟨q0, q1, g0, g1⟩ := two_cells R3.out
        go_wp2_with fail
        clear c00 c01 c10 c11 c20 c21 q0 q1 g0 g1
        refine (K3.out _).mono ?_
        rintro e v3 ⟨rfl, hb⟩
        replace R0 := Lib.hid (rowIs_below R0.out hb R0.out.lt)
        replace R1 := Lib.hid (rowIs_below R1.out hb R1.out.lt)
        replace R2 := Lib.hid (rowIs_below R2.out hb R2.out.lt)
        replace R3 := Lib.hid (rowIs_below R3.out hb R3.out.lt)
        replace HB0 := HB0.trans (hb.mono HB0.size)
        have zv3 := hb.size
        clear hb
        obtain ⟨c00, c01, _, _⟩ := two_cells R0.out
        obtain ⟨c10, c11, _, _⟩ := two_cells R1.out
        obtain ⟨c20, c21, _, _⟩ := two_cells R2.out
        obtain ⟨q0, q1, g0, g1⟩ := two_cells R3.out
        go_wp2_with fail
        obtain ⟨p0, p1, _, _⟩ := two_cells (two_set R3.out 0 0)
        refine bodyPost_ret (v := .tuple #[shV 0 0, .int .i64 5]) (by simp [results, Try.results61, go_sem, p0, p1]) rfl ⟨ret_sh3 HV.out, (HB0.setCell (by first | omega | (simp; done) | (simp; omega)) _).setCell (by first | omega | (simp; done) | (simp; omega)) _⟩
      · have HN : Hid (¬ tpOrd a b c d e f) := fun q => by rcases HO.out.1 q with q | q | q <;> omega
        cases hf : fitsB [a, b, c, d, e, f] 3
        · have HV := Lib.hid (tpV_3 HN.out hf)
          go_enter Try.func61, Try.ntmps61
          go_wp2_with fail
          refine (K1.out _).mono ?_
          rintro e v1 ⟨rfl, hb⟩
          replace R0 := Lib.hid (rowIs_below R0.out hb R0.out.lt)
          replace R1 := Lib.hid (rowIs_below R1.out hb R1.out.lt)
          replace R2 := Lib.hid (rowIs_below R2.out hb R2.out.lt)
          replace R3 := Lib.hid (rowIs_below R3.out hb R3.out.lt)
          replace HB0 := HB0.trans (hb.mono HB0.size)
          have zv1 := hb.size
          simp only [World.size_alloc] at zv1
          clear hb
          obtain ⟨c00, c01, _, _⟩ := two_cells R0.out
          obtain ⟨c10, c11, _, _⟩ := two_cells R1.out
          obtain ⟨c20, c21, _, _⟩ := two_cells R2.out
          obtain ⟨q0, q1, g0, g1⟩ := two_cells R3.out
          go_wp2_with fail
          clear c00 c01 c10 c11 c20 c21 q0 q1 g0 g1
          refine (K2.out _).mono ?_
          rintro e v2 ⟨rfl, hb⟩
          replace R0 := Lib.hid (rowIs_below R0.out hb R0.out.lt)
          replace R1 := Lib.hid (rowIs_below R1.out hb R1.out.lt)
          replace R2 := Lib.hid (rowIs_below R2.out hb R2.out.lt)
          replace R3 := Lib.hid (rowIs_below R3.out hb R3.out.lt)
          replace HB0 := HB0.trans (hb.mono HB0.size)
          have zv2 := hb.size
          clear hb
          obtain ⟨c00, c01, _, _⟩ := two_cells R0.out
          obtain ⟨c10, c11, _, _⟩ := two_cells R1.out
          obtain ⟨c20, c21, _, _⟩ := two_cells R2.out
          obtain ⟨q0, q1, g0, g1⟩ := two_cells R3.out
          go_wp2_with fail
          clear c00 c01 c10 c11 c20 c21 q0 q1 g0 g1
          refine (K3.out _).mono ?_
          rintro e v3 ⟨rfl, hb⟩
          replace R0 := Lib.hid (rowIs_below R0.out hb R0.out.lt)
          replace R1 := Lib.hid (rowIs_below R1.out hb R1.out.lt)
          replace R2 := Lib.hid (rowIs_below R2.out hb R2.out.lt)
          replace R3 := Lib.hid (rowIs_below R3.out hb R3.out.lt)
          replace HB0 := HB0.trans (hb.mono HB0.size)
          have zv3 := hb.size
          clear hb
          obtain ⟨c00, c01, _, _⟩ := two_cells R0.out
          obtain ⟨c10, c11, _, _⟩ := two_cells R1.out
          obtain ⟨c20, c21, _, _⟩ := two_cells R2.out
          obtain ⟨q0, q1, g0, g1⟩ := two_cells R3.out
          go_wp2_with fail
          have hb := (Below.refl v3.heap.size v3).alloc (Nat.le_refl _) (.cells #[.int .i64 a, .int .i64 b, .int .i64 c, .int .i64 d, .int .i64 e, .int .i64 f] 30)
          replace R0 := Lib.hid (rowIs_below R0.out hb R0.out.lt)
          replace R1 := Lib.hid (rowIs_below R1.out hb R1.out.lt)
          replace R2 := Lib.hid (rowIs_below R2.out hb R2.out.lt)
          replace R3 := Lib.hid (rowIs_below R3.out hb R3.out.lt)
          replace HB0 := HB0.trans (hb.mono HB0.size)
          clear hb
          clear c00 c01 c10 c11 c20 c21 q0 q1 g0 g1
          refine (smallDens_any _ 3 _ _ _ _ (six_ints v3 a b c d e f _) (by first | omega | (simp; done) | (simp; omega)) (by omega) (by omega)).mono ?_
          rintro e v9 ⟨rfl, hb⟩
          rw [hf]
          replace R0 := Lib.hid (rowIs_below R0.out hb R0.out.lt)
          replace R1 := Lib.hid (rowIs_below R1.out hb R1.out.lt)
          replace R2 := Lib.hid (rowIs_below R2.out hb R2.out.lt)
          replace R3 := Lib.hid (rowIs_below R3.out hb R3.out.lt)
          replace HB0 := HB0.trans (hb.mono HB0.size)
          have zv9 := hb.size
          simp only [World.size_alloc] at zv9
          clear hb
          obtain ⟨c00, c01, _, _⟩ := two_cells R0.out
          obtain ⟨c10, c11, _, _⟩ := two_cells R1.out
          obtain ⟨c20, c21, _, _⟩ := two_cells R2.out
          obtain ⟨q0, q1, g0, g1⟩ := two_cells R3.out
          go_wp2_with fail
          obtain ⟨p0, p1, _, _⟩ := two_cells (two_set R3.out 0 0)
          refine bodyPost_ret (v := .tuple #[shV 0 0, .int .i64 3]) (by simp [results, Try.results61, go_sem, p0, p1]) rfl ⟨ret_sh3 HV.out, (HB0.setCell (by first | omega | (simp; done) | (simp; omega)) _).setCell (by first | omega | (simp; done) | (simp; omega)) _⟩
        · have HF := Lib.hid hf
          obtain ⟨⟨m1, m2⟩, ⟨m3, m4⟩, ⟨m5, m6⟩, ⟨m7, m8⟩, m9, m10, m11, m12, m13, m14⟩ := tp_facts ⟨a0, a1, b0, b1⟩ ⟨c0, c1, d0, d1⟩ ⟨e0, e1, f0, f1⟩ HN.out hf
          have MK := Lib.hid (fun W => makeShare_in (tpN a b c d f) (tpD b c d e f) W m11 m13 m12 (by omega))
          cases hl : loB (tpN a b c d f) (tpD b c d e f)
          · have HV := Lib.hid (tpV_4 HN.out HF.out hl)
            obtain ⟨NN, hNN⟩ : ∃ x, loN (tpN a b c d f) (tpD b c d e f) = x := ⟨_, rfl⟩
            obtain ⟨DD, hDD⟩ : ∃ x, loD (tpN a b c d f) (tpD b c d e f) = x := ⟨_, rfl⟩
            rw [hl, hNN, hDD] at MK
            clear hNN hDD
            simp only [tpN, tpD] at m11 m12 m13 m14 MK
            go_enter Try.func61, Try.ntmps61
            go_wp2_with fail
            refine (K1.out _).mono ?_
            rintro e v1 ⟨rfl, hb⟩
            replace R0 := Lib.hid (rowIs_below R0.out hb R0.out.lt)
            replace R1 := Lib.hid (rowIs_below R1.out hb R1.out.lt)
            replace R2 := Lib.hid (rowIs_below R2.out hb R2.out.lt)
            replace R3 := Lib.hid (rowIs_below R3.out hb R3.out.lt)
            replace HB0 := HB0.trans (hb.mono HB0.size)
            have zv1 := hb.size
            simp only [World.size_alloc] at zv1
            clear hb
            obtain ⟨c00, c01, _, _⟩ := two_cells R0.out
            obtain ⟨c10, c11, _, _⟩ := two_cells R1.out
            obtain ⟨c20, c21, _, _⟩ := two_cells R2.out
            obtain ⟨q0, q1, g0, g1⟩ := two_cells R3.out
            go_wp2_with fail
            clear c00 c01 c10 c11 c20 c21 q0 q1 g0 g1
            refine (K2.out _).mono ?_
            rintro e v2 ⟨rfl, hb⟩
            replace R0 := Lib.hid (rowIs_below R0.out hb R0.out.lt)
            replace R1 := Lib.hid (rowIs_below R1.out hb R1.out.lt)
            replace R2 := Lib.hid (rowIs_below R2.out hb R2.out.lt)
            replace R3 := Lib.hid (rowIs_below R3.out hb R3.out.lt)
            replace HB0 := HB0.trans (hb.mono HB0.size)
            have zv2 := hb.size
            clear hb
            obtain ⟨c00, c01, _, _⟩ := two_cells R0.out
            obtain ⟨c10, c11, _, _⟩ := two_cells R1.out
            obtain ⟨c20, c21, _, _⟩ := two_cells R2.out
            obtain ⟨q0, q1, g0, g1⟩ := two_cells R3.out
            go_wp2_with fail
            clear c00 c01 c10 c11 c20 c21 q0 q1 g0 g1
            refine (K3.out _).mono ?_
            rintro e v3 ⟨rfl, hb⟩
            replace R0 := Lib.hid (rowIs_below R0.out hb R0.out.lt)
            replace R1 := Lib.hid (rowIs_below R1.out hb R1.out.lt)
            replace R2 := Lib.hid (rowIs_below R2.out hb R2.out.lt)
            replace R3 := Lib.hid (rowIs_below R3.out hb R3.out.lt)
            replace HB0 := HB0.trans (hb.mono HB0.size)
            have zv3 := hb.size
            clear hb
            obtain ⟨c00, c01, _, _⟩ := two_cells R0.out
            obtain ⟨c10, c11, _, _⟩ := two_cells R1.out
            obtain ⟨c20, c21, _, _⟩ := two_cells R2.out
            obtain ⟨q0, q1, g0, g1⟩ := two_cells R3.out
            go_wp2_with fail
            have hb := (Below.refl v3.heap.size v3).alloc (Nat.le_refl _) (.cells #[.int .i64 a, .int .i64 b, .int .i64 c, .int .i64 d, .int .i64 e, .int .i64 f] 30)
            replace R0 := Lib.hid (rowIs_below R0.out hb R0.out.lt)
            replace R1 := Lib.hid (rowIs_below R1.out hb R1.out.lt)
            replace R2 := Lib.hid (rowIs_below R2.out hb R2.out.lt)
            replace R3 := Lib.hid (rowIs_below R3.out hb R3.out.lt)
            replace HB0 := HB0.trans (hb.mono HB0.size)
            clear hb
            clear c00 c01 c10 c11 c20 c21 q0 q1 g0 g1
            refine (smallDens_any _ 3 _ _ _ _ (six_ints v3 a b c d e f _) (by first | omega | (simp; done) | (simp; omega)) (by omega) (by omega)).mono ?_
            rintro e v9 ⟨rfl, hb⟩
            rw [hf]
            replace R0 := Lib.hid (rowIs_below R0.out hb R0.out.lt)
            replace R1 := Lib.hid (rowIs_below R1.out hb R1.out.lt)
            replace R2 := Lib.hid (rowIs_below R2.out hb R2.out.lt)
            replace R3 := Lib.hid (rowIs_below R3.out hb R3.out.lt)
            replace HB0 := HB0.trans (hb.mono HB0.size)
            have zv9 := hb.size
            simp only [World.size_alloc] at zv9
            clear hb
            obtain ⟨c00, c01, _, _⟩ := two_cells R0.out
            obtain ⟨c10, c11, _, _⟩ := two_cells R1.out
            obtain ⟨c20, c21, _, _⟩ := two_cells R2.out
            obtain ⟨q0, q1, g0, g1⟩ := two_cells R3.out
            go_wp2_with fail
            clear c00 c01 c10 c11 c20 c21 q0 q1 g0 g1
            refine (MK.out _).mono ?_
            rintro e v10 ⟨rfl, hb⟩
            replace R0 := Lib.hid (rowIs_below R0.out hb R0.out.lt)
            replace R1 := Lib.hid (rowIs_below R1.out hb R1.out.lt)
            replace R2 := Lib.hid (rowIs_below R2.out hb R2.out.lt)
            replace R3 := Lib.hid (rowIs_below R3.out hb R3.out.lt)
            replace HB0 := HB0.trans (hb.mono HB0.size)
            have zv10 := hb.size
            clear hb
            obtain ⟨c00, c01, _, _⟩ := two_cells R0.out
            obtain ⟨c10, c11, _, _⟩ := two_cells R1.out
            obtain ⟨c20, c21, _, _⟩ := two_cells R2.out
            obtain ⟨q0, q1, g0, g1⟩ := two_cells R3.out
            have zz : w.heap.size + 1 + 1 + 1 < v10.heap.size := R3.out.lt
            go_wp2_with fail
            obtain ⟨p0, p1, _, _⟩ := two_cells ((two_set R3.out 0 0).alloc (.cells #[.int .i64 NN, .int .i64 DD] 30))
            refine bodyPost_ret (v := .tuple #[shV 0 0, .int .i64 3]) (by simp [results, Try.results61, go_sem, p0, p1]) rfl ⟨ret_sh3 HV.out, ?_⟩
            exact ((HB0.setCell (by first | omega | (simp; done) | (simp; omega)) _).setCell (by first | omega | (simp; done) | (simp; omega)) _).alloc (by have := HB0.size; simp [World.setCell]; omega) _
          · have HV := Lib.hid (tpV_0 HN.out HF.out hl)
            obtain ⟨NN, hNN⟩ : ∃ x, loN (tpN a b c d f) (tpD b c d e f) = x := ⟨_, rfl⟩
            obtain ⟨DD, hDD⟩ : ∃ x, loD (tpN a b c d f) (tpD b c d e f) = x := ⟨_, rfl⟩
            rw [hl, hNN, hDD] at MK
            rw [hNN, hDD] at HV
            clear hNN hDD
            simp only [tpN, tpD] at m11 m12 m13 m14 MK
            go_enter Try.func61, Try.ntmps61
            go_wp2_with fail
            refine (K1.out _).mono ?_
            rintro e v1 ⟨rfl, hb⟩
            replace R0 := Lib.hid (rowIs_below R0.out hb R0.out.lt)
            replace R1 := Lib.hid (rowIs_below R1.out hb R1.out.lt)
            replace R2 := Lib.hid (rowIs_below R2.out hb R2.out.lt)
            replace R3 := Lib.hid (rowIs_below R3.out hb R3.out.lt)
            replace HB0 := HB0.trans (hb.mono HB0.size)
            have zv1 := hb.size
            simp only [World.size_alloc] at zv1
            clear hb
            obtain ⟨c00, c01, _, _⟩ := two_cells R0.out
            obtain ⟨c10, c11, _, _⟩ := two_cells R1.out
            obtain ⟨c20, c21, _, _⟩ := two_cells R2.out
            obtain ⟨q0, q1, g0, g1⟩ := two_cells R3.out
            go_wp2_with fail
            clear c00 c01 c10 c11 c20 c21 q0 q1 g0 g1
            refine (K2.out _).mono ?_
            rintro e v2 ⟨rfl, hb⟩
            replace R0 := Lib.hid (rowIs_below R0.out hb R0.out.lt)
            replace R1 := Lib.hid (rowIs_below R1.out hb R1.out.lt)
            replace R2 := Lib.hid (rowIs_below R2.out hb R2.out.lt)
            replace R3 := Lib.hid (rowIs_below R3.out hb R3.out.lt)
            replace HB0 := HB0.trans (hb.mono HB0.size)
            have zv2 := hb.size
            clear hb
            obtain ⟨c00, c01, _, _⟩ := two_cells R0.out
            obtain ⟨c10, c11, _, _⟩ := two_cells R1.out
            obtain ⟨c20, c21, _, _⟩ := two_cells R2.out
            obtain ⟨q0, q1, g0, g1⟩ := two_cells R3.out
            go_wp2_with fail
            clear c00 c01 c10 c11 c20 c21 q0 q1 g0 g1
            refine (K3.out _).mono ?_
            rintro e v3 ⟨rfl, hb⟩
            replace R0 := Lib.hid (rowIs_below R0.out hb R0.out.lt)
            replace R1 := Lib.hid (rowIs_below R1.out hb R1.out.lt)
            replace R2 := Lib.hid (rowIs_below R2.out hb R2.out.lt)
            replace R3 := Lib.hid (rowIs_below R3.out hb R3.out.lt)
            replace HB0 := HB0.trans (hb.mono HB0.size)
            have zv3 := hb.size
            clear hb
            obtain ⟨c00, c01, _, _⟩ := two_cells R0.out
            obtain ⟨c10, c11, _, _⟩ := two_cells R1.out
            obtain ⟨c20, c21, _, _⟩ := two_cells R2.out
            obtain ⟨q0, q1, g0, g1⟩ := two_cells R3.out
            go_wp2_with fail
            have hb := (Below.refl v3.heap.size v3).alloc (Nat.le_refl _) (.cells #[.int .i64 a, .int .i64 b, .int .i64 c, .int .i64 d, .int .i64 e, .int .i64 f] 30)
            replace R0 := Lib.hid (rowIs_below R0.out hb R0.out.lt)
            replace R1 := Lib.hid (rowIs_below R1.out hb R1.out.lt)
            replace R2 := Lib.hid (rowIs_below R2.out hb R2.out.lt)
            replace R3 := Lib.hid (rowIs_below R3.out hb R3.out.lt)
            replace HB0 := HB0.trans (hb.mono HB0.size)
            clear hb
            clear c00 c01 c10 c11 c20 c21 q0 q1 g0 g1
            refine (smallDens_any _ 3 _ _ _ _ (six_ints v3 a b c d e f _) (by first | omega | (simp; done) | (simp; omega)) (by omega) (by omega)).mono ?_
            rintro e v9 ⟨rfl, hb⟩
            rw [hf]
            replace R0 := Lib.hid (rowIs_below R0.out hb R0.out.lt)
            replace R1 := Lib.hid (rowIs_below R1.out hb R1.out.lt)
            replace R2 := Lib.hid (rowIs_below R2.out hb R2.out.lt)
            replace R3 := Lib.hid (rowIs_below R3.out hb R3.out.lt)
            replace HB0 := HB0.trans (hb.mono HB0.size)
            have zv9 := hb.size
            simp only [World.size_alloc] at zv9
            clear hb
            obtain ⟨c00, c01, _, _⟩ := two_cells R0.out
            obtain ⟨c10, c11, _, _⟩ := two_cells R1.out
            obtain ⟨c20, c21, _, _⟩ := two_cells R2.out
            obtain ⟨q0, q1, g0, g1⟩ := two_cells R3.out
            go_wp2_with fail
            clear c00 c01 c10 c11 c20 c21 q0 q1 g0 g1
            refine (MK.out _).mono ?_
            rintro e v10 ⟨rfl, hb⟩
            replace R0 := Lib.hid (rowIs_below R0.out hb R0.out.lt)
            replace R1 := Lib.hid (rowIs_below R1.out hb R1.out.lt)
            replace R2 := Lib.hid (rowIs_below R2.out hb R2.out.lt)
            replace R3 := Lib.hid (rowIs_below R3.out hb R3.out.lt)
            replace HB0 := HB0.trans (hb.mono HB0.size)
            have zv10 := hb.size
            clear hb
            obtain ⟨c00, c01, _, _⟩ := two_cells R0.out
            obtain ⟨c10, c11, _, _⟩ := two_cells R1.out
            obtain ⟨c20, c21, _, _⟩ := two_cells R2.out
            obtain ⟨q0, q1, g0, g1⟩ := two_cells R3.out
            have zz : w.heap.size + 1 + 1 + 1 < v10.heap.size := R3.out.lt
            go_wp2_with fail
            obtain ⟨p0, p1, _, _⟩ := two_cells ((two_set R3.out NN DD).alloc (.cells #[.int .i64 NN, .int .i64 DD] 30))
            refine bodyPost_ret (v := .tuple #[shV NN DD, .int .i64 0]) (by simp [results, Try.results61, go_sem, p0, p1]) rfl ⟨ret_sh3 HV.out, ?_⟩
            exact ((HB0.setCell (by first | omega | (simp; done) | (simp; omega)) _).setCell (by first | omega | (simp; done) | (simp; omega)) _).alloc (by have := HB0.size; simp [World.setCell]; omega) _


theorem l19Less_any (a b c d : Int) (w : World) (m1 : 0 ≤ a * d) (m2 : a * d ≤ 1000000000000) (m3 : 0 ≤ c * b) (m4 : c * b ≤ 1000000000000) : Calls Try.prog 93 #[shV a b, shV c d] w fun e w' => e = .returned (.int .i64 (a * d - c * b)) ∧ Below w.heap.size w w' := by
  have HB0 := ((Below.refl w.heap.size w).alloc (Nat.le_refl _) (.cells #[.int .i64 a, .int .i64 b] 30)).alloc (by simp) (.cells #[.int .i64 c, .int .i64 d] 30)
  go_enter Try.func93, Try.ntmps93
  go_wp2
  go_ret
  exact ⟨rfl, HB0⟩

set_option maxHeartbeats 3200000 in
theorem l19Ratio_any (a b c d e f : Int) (w : World) (h1 : shOk a b) (h2 : shOk c d) (h3 : shOk e f) (hN : ¬ tpOrd a b c d e f) (hf : fitsB [a, b, c, d, e, f] 3 = true) : Calls Try.prog 100 #[shV a b, shV c d, shV e f] w fun e1 w1 => e1 = .returned (.tuple #[shV (tpV a b c d e f).1 (tpV a b c d e f).2.1, .int .i64 (tpV a b c d e f).2.2]) ∧ Below w.heap.size w w1 := by
  obtain ⟨⟨m1, m2⟩, ⟨m3, m4⟩, ⟨m5, m6⟩, ⟨m7, m8⟩, m9, m10, m11, m12, m13, m14⟩ := tp_facts h1 h2 h3 hN hf
  obtain ⟨a0, a1, b0, b1⟩ := h1
  obtain ⟨c0, c1, d0, d1⟩ := h2
  obtain ⟨e0, e1, f0, f1⟩ := h3
  obtain ⟨fb, fd, ff⟩ := fits3 hf
  have LP := Lib.hid (fun W => l19Less_any a b c d W m1 m2 m3 m4)
  have LQ := Lib.hid (fun W => l19Less_any e f c d W m5 m6 m7 m8)
  have HL1 := Lib.hid (fun hl => tpV_4 (a := a) (b := b) (c := c) (d := d) (e := e) (f := f) hN hf hl)
  have HL2 := Lib.hid (fun hl => tpV_0 (a := a) (b := b) (c := c) (d := d) (e := e) (f := f) hN hf hl)
  simp only [tpN, tpD] at HL1 HL2
  obtain ⟨X, hX⟩ : ∃ X, a * d - c * b = X := ⟨_, rfl⟩
  obtain ⟨Y, hY⟩ : ∃ Y, e * d - c * f = Y := ⟨_, rfl⟩
  have x0 : 0 ≤ X := by omega
  have x1 : X ≤ 1000000000000 := by omega
  have y0 : 0 < Y := by omega
  have y1 : Y ≤ 1000000000000 := by omega
  rw [hX] at LP HL1 HL2
  rw [hY] at LQ HL1 HL2
  clear hX hY m1 m2 m3 m4 m5 m6 m7 m8 m9 m10 m11 m12 m13 m14 hN hf
  obtain ⟨g, n1, e9, h, u, v, k, n2, v2, k2, u2, d2, hg, gp, t1, t2, n10, n11, d10, d11, hh, hp, t3, t4, u0, u1, v0, v1, hk, kp, t5, t6, n20, n21, v20, v21, hk2, k2p, t7, t8, u20, u21, d20, d21, hlN, hlD⟩ := ratio_facts x0 y0 f0 b0
  have n2u : 0 ≤ n2 * u2 ∧ n2 * u2 ≤ 1000000000000 * 1000000 := mul_bd n20 (by omega) (by omega) (by omega)
  have d2v : 0 ≤ d2 * v2 ∧ d2 * v2 ≤ 1000000000000 * 1000000 := mul_bd (by omega) (by omega) (by omega) (by omega)
  obtain ⟨n2u1, n2u2⟩ := n2u
  obtain ⟨d2v1, d2v2⟩ := d2v
  have HQ := Lib.hid (show (1000000000000000 / v2 < d2 ↔ 1000000000000000 < d2 * v2) by have := Int.le_ediv_iff_mul_le (a := d2) (b := 1000000000000000) v20; omega)
  have HLB := Lib.hid (show loB (X * f) (Y * b) = decide (d2 * v2 ≤ 1000000000000000) by rw [loB, hlD])
  rw [hlN, hlD] at HL2
  have mq0 : 0 ≤ 1000000000000000 / v2 := Int.ediv_nonneg (by omega) (by omega)
  have mq1 : 1000000000000000 / v2 ≤ 1000000000000000 := Int.ediv_le_self _ (by omega)
  have wt1 : IntKind.i64.wrap (X.tdiv g) = n1 := by rw [Int.tdiv_eq_ediv_of_nonneg (by omega), t1]; exact IntWalk.i64_in _ (by omega)
  have wt2 : IntKind.i64.wrap (Y.tdiv g) = e9 := by rw [Int.tdiv_eq_ediv_of_nonneg (by omega), t2]; exact IntWalk.i64_in _ (by omega)
  have wt3 : IntKind.i64.wrap (f.tdiv h) = u := by rw [Int.tdiv_eq_ediv_of_nonneg (by omega), t3]; exact IntWalk.i64_in _ (by omega)
  have wt4 : IntKind.i64.wrap (b.tdiv h) = v := by rw [Int.tdiv_eq_ediv_of_nonneg (by omega), t4]; exact IntWalk.i64_in _ (by omega)
  have wt5 : IntKind.i64.wrap (n1.tdiv k) = n2 := by rw [Int.tdiv_eq_ediv_of_nonneg (by omega), t5]; exact IntWalk.i64_in _ (by omega)
  have wt6 : IntKind.i64.wrap (v.tdiv k) = v2 := by rw [Int.tdiv_eq_ediv_of_nonneg (by omega), t6]; exact IntWalk.i64_in _ (by omega)
  have wt7 : IntKind.i64.wrap (u.tdiv k2) = u2 := by rw [Int.tdiv_eq_ediv_of_nonneg (by omega), t7]; exact IntWalk.i64_in _ (by omega)
  have wt8 : IntKind.i64.wrap (e9.tdiv k2) = d2 := by rw [Int.tdiv_eq_ediv_of_nonneg (by omega), t8]; exact IntWalk.i64_in _ (by omega)
  obtain ⟨Q, hQ⟩ : ∃ Q, 1000000000000000 / v2 = Q := ⟨_, rfl⟩
  have wt9 : IntKind.i64.wrap ((1000000000000000 : Int).tdiv v2) = Q := by rw [Int.tdiv_eq_ediv_of_nonneg (by omega), hQ]; exact IntWalk.i64_in _ (by omega)
  rw [hQ] at HQ mq0 mq1
  have wv1 : IntKind.i64.wrap n1 = n1 := IntWalk.i64_in _ (by omega)
  have wv2 : IntKind.i64.wrap e9 = e9 := IntWalk.i64_in _ (by omega)
  have wv3 : IntKind.i64.wrap u = u := IntWalk.i64_in _ (by omega)
  have wv4 : IntKind.i64.wrap v = v := IntWalk.i64_in _ (by omega)
  have wv5 : IntKind.i64.wrap n2 = n2 := IntWalk.i64_in _ (by omega)
  have wv6 : IntKind.i64.wrap v2 = v2 := IntWalk.i64_in _ (by omega)
  have wv7 : IntKind.i64.wrap u2 = u2 := IntWalk.i64_in _ (by omega)
  have wv8 : IntKind.i64.wrap d2 = d2 := IntWalk.i64_in _ (by omega)
  have z1 : ¬ g = 0 := by omega
  have z2 : ¬ h = 0 := by omega
  have z3 : ¬ k = 0 := by omega
  have z4 : ¬ k2 = 0 := by omega
  have z5 : ¬ v2 = 0 := by omega
  have y2 : (g == 0) = false := by simp; omega
  have y3 : (h == 0) = false := by simp; omega
  have y4 : (k == 0) = false := by simp; omega
  have y5 : (k2 == 0) = false := by simp; omega
  have y6 : (v2 == 0) = false := by simp; omega
  have G1 := Lib.hid (fun W => l18Gcd_any Y X W (by omega) (by omega))
  have G2 := Lib.hid (fun W => l18Gcd_any f b W (by omega) (by omega))
  have G3 := Lib.hid (fun W => l18Gcd_any n1 v W (by omega) (by omega))
  have G4 := Lib.hid (fun W => l18Gcd_any u e9 W (by omega) (by omega))
  rw [hg] at G1
  rw [hh] at G2
  rw [hk] at G3
  rw [hk2] at G4
  clear hg hh hk hk2 hlN hlD t1 t2 t3 t4 t5 t6 t7 t8 hQ
  have HB0 := (((((Below.refl w.heap.size w).alloc (Nat.le_refl _) (.cells #[.int .i64 a, .int .i64 b] 30)).alloc (by first | omega | (simp; done) | (simp; omega)) (.cells #[.int .i64 c, .int .i64 d] 30)).alloc (by first | omega | (simp; done) | (simp; omega)) (.cells #[.int .i64 e, .int .i64 f] 30)).alloc (by first | omega | (simp; done) | (simp; omega)) (.cells #[.int .i64 0, .int .i64 0] 30))
  have r0 := (((two_new w a b 30).alloc (.cells #[.int .i64 c, .int .i64 d] 30)).alloc (.cells #[.int .i64 e, .int .i64 f] 30)).alloc (.cells #[.int .i64 0, .int .i64 0] 30)
  have r1 := ((two_new (w.alloc (.cells #[.int .i64 a, .int .i64 b] 30)) c d 30).alloc (.cells #[.int .i64 e, .int .i64 f] 30)).alloc (.cells #[.int .i64 0, .int .i64 0] 30)
  have r2 := (two_new ((w.alloc (.cells #[.int .i64 a, .int .i64 b] 30)).alloc (.cells #[.int .i64 c, .int .i64 d] 30)) e f 30).alloc (.cells #[.int .i64 0, .int .i64 0] 30)
  have r3 := two_new (((w.alloc (.cells #[.int .i64 a, .int .i64 b] 30)).alloc (.cells #[.int .i64 c, .int .i64 d] 30)).alloc (.cells #[.int .i64 e, .int .i64 f] 30)) 0 0 30
  simp only [World.size_alloc] at r1 r2 r3
  have R0 := Lib.hid r0
  have R1 := Lib.hid r1
  have R2 := Lib.hid r2
  have R3 := Lib.hid r3
  clear r0 r1 r2 r3
  go_enter Try.func100, Try.ntmps100
  go_upto_region 1 with fail
  go_cut [8, 9] (fun p q wx => p = .int .i64 X ∧ q = .int .i64 Y ∧ wx.rowIs (w.heap.size) 30 2 (two a b) ∧ wx.rowIs (w.heap.size + 1) 30 2 (two c d) ∧ wx.rowIs (w.heap.size + 1 + 1) 30 2 (two e f) ∧ wx.rowIs (w.heap.size + 1 + 1 + 1) 30 2 (two 0 0) ∧ Below w.heap.size w wx)
  case first =>
    obtain ⟨c00, c01, _, _⟩ := two_cells R0.out
    obtain ⟨c10, c11, _, _⟩ := two_cells R1.out
    obtain ⟨c20, c21, _, _⟩ := two_cells R2.out
    replace R0 := Lib.hid (rowIs_drewN R0.out 1)
    replace R1 := Lib.hid (rowIs_drewN R1.out 1)
    replace R2 := Lib.hid (rowIs_drewN R2.out 1)
    replace R3 := Lib.hid (rowIs_drewN R3.out 1)
    replace HB0 : Below w.heap.size w ((((w.alloc (.cells #[.int .i64 a, .int .i64 b] 30)).alloc (.cells #[.int .i64 c, .int .i64 d] 30)).alloc (.cells #[.int .i64 e, .int .i64 f] 30)).alloc (.cells #[.int .i64 0, .int .i64 0] 30)).drew := below_drewN HB0 1
    go_region_held3 (fun w' => w'.cell? ⟨w.heap.size, 0, none⟩ = some (.int .i64 a) ∧ w'.cell? ⟨w.heap.size, 1, none⟩ = some (.int .i64 b) ∧ w'.cell? ⟨w.heap.size + 1, 0, none⟩ = some (.int .i64 c) ∧ w'.cell? ⟨w.heap.size + 1, 1, none⟩ = some (.int .i64 d) ∧ w'.cell? ⟨w.heap.size + 1 + 1, 0, none⟩ = some (.int .i64 e) ∧ w'.cell? ⟨w.heap.size + 1 + 1, 1, none⟩ = some (.int .i64 f))
      (first | exact ⟨(two_cells R0.out).1, (two_cells R0.out).2.1, (two_cells R1.out).1, (two_cells R1.out).2.1, (two_cells R2.out).1, (two_cells R2.out).2.1⟩ | go_keep)
      (first
        | (go_at_call 93; (with_reducible refine (LP.out (((((w.alloc (.cells #[.int .i64 a, .int .i64 b] 30)).alloc (.cells #[.int .i64 c, .int .i64 d] 30)).alloc (.cells #[.int .i64 e, .int .i64 f] 30)).alloc (.cells #[.int .i64 0, .int .i64 0] 30)).drew)).mono ?_); rintro e s1 ⟨rfl, hb⟩; replace R0 := Lib.hid (rowIs_below R0.out hb R0.out.lt); replace R1 := Lib.hid (rowIs_below R1.out hb R1.out.lt); replace R2 := Lib.hid (rowIs_below R2.out hb R2.out.lt); replace R3 := Lib.hid (rowIs_below R3.out hb R3.out.lt); replace HB0 := HB0.trans (hb.mono HB0.size); clear hb)
        | (go_at_call 93; (with_reducible refine (LQ.out (((((w.alloc (.cells #[.int .i64 a, .int .i64 b] 30)).alloc (.cells #[.int .i64 c, .int .i64 d] 30)).alloc (.cells #[.int .i64 e, .int .i64 f] 30)).alloc (.cells #[.int .i64 0, .int .i64 0] 30)).drew)).mono ?_); rintro e s1 ⟨rfl, hb⟩; replace R0 := Lib.hid (rowIs_below R0.out hb R0.out.lt); replace R1 := Lib.hid (rowIs_below R1.out hb R1.out.lt); replace R2 := Lib.hid (rowIs_below R2.out hb R2.out.lt); replace R3 := Lib.hid (rowIs_below R3.out hb R3.out.lt); replace HB0 := HB0.trans (hb.mono HB0.size); clear hb)
        | (go_at_call 93; (with_reducible refine (LQ.out (s1)).mono ?_); rintro e s2 ⟨rfl, hb⟩; replace R0 := Lib.hid (rowIs_below R0.out hb R0.out.lt); replace R1 := Lib.hid (rowIs_below R1.out hb R1.out.lt); replace R2 := Lib.hid (rowIs_below R2.out hb R2.out.lt); replace R3 := Lib.hid (rowIs_below R3.out hb R3.out.lt); replace HB0 := HB0.trans (hb.mono HB0.size); clear hb)
        | (go_at_call 93; (with_reducible refine (LP.out (s1)).mono ?_); rintro e s2 ⟨rfl, hb⟩; replace R0 := Lib.hid (rowIs_below R0.out hb R0.out.lt); replace R1 := Lib.hid (rowIs_below R1.out hb R1.out.lt); replace R2 := Lib.hid (rowIs_below R2.out hb R2.out.lt); replace R3 := Lib.hid (rowIs_below R3.out hb R3.out.lt); replace HB0 := HB0.trans (hb.mono HB0.size); clear hb)
        | fail)
    all_goals
      go_wp2
      go_meet
      exact ⟨rfl, rfl, R0.out, R1.out, R2.out, R3.out, HB0⟩
  case rest =>
    obtain ⟨rfl, rfl, r0, r1, r2, r3, HB1⟩ := hcut
    obtain ⟨w1, hw1⟩ : ∃ x, x = wc := ⟨_, rfl⟩
    subst hw1
    obtain ⟨c00, c01, _, _⟩ := two_cells r0
    obtain ⟨c10, c11, _, _⟩ := two_cells r1
    obtain ⟨c20, c21, _, _⟩ := two_cells r2
    obtain ⟨q0, q1, g0, g1⟩ := two_cells r3
    have R3 := Lib.hid r3
    have HB2 := Lib.hid HB1
    have zz : w.heap.size + 1 + 1 + 1 < w1.heap.size := r3.lt
    clear r0 r1 r2 r3 HB1 HB0
    go_wp2_with fail
    refine (G1.out _).mono ?_
    rintro e s1 ⟨rfl, rfl⟩
    go_wp2_with fail
    go_quiet (fail)
    go_wp2_with fail
    refine (G2.out _).mono ?_
    rintro e s2 ⟨rfl, rfl⟩
    go_wp2_with fail
    go_quiet (fail)
    go_wp2_with fail
    refine (G3.out _).mono ?_
    rintro e s3 ⟨rfl, rfl⟩
    go_wp2_with fail
    go_quiet (fail)
    go_wp2_with fail
    refine (G4.out _).mono ?_
    rintro e s4 ⟨rfl, rfl⟩
    go_wp2_with fail
    go_quiet (fail)
    by_cases hq : Q < d2
    · have HV := Lib.hid (HL1.out (HLB.out.trans (decide_eq_false (by have := HQ.out.1 hq; omega))))
      go_wp2_with fail
      have p0 := fun m => (two_cells (two_set (rowIs_drewN R3.out m) 0 0)).1
      have p1 := fun m => (two_cells (two_set (rowIs_drewN R3.out m) 0 0)).2.1
      refine bodyPost_ret (v := .tuple #[shV 0 0, .int .i64 3]) (by simp [results, Try.results100, go_sem, p0, p1]) rfl ⟨ret_sh3 HV.out, ?_⟩
      exact ((below_drewN HB2.out _).setCell (by first | omega | (simp; done) | (simp; omega)) _).setCell (by first | omega | (simp; done) | (simp; omega)) _
    · have HV := Lib.hid (HL2.out (HLB.out.trans (decide_eq_true (Decidable.byContradiction fun q => hq (HQ.out.2 (by omega))))))
      go_wp2_with fail
      have p0 := fun m => (two_cells (two_set (rowIs_drewN R3.out m) (n2 * u2) (d2 * v2))).1
      have p1 := fun m => (two_cells (two_set (rowIs_drewN R3.out m) (n2 * u2) (d2 * v2))).2.1
      refine bodyPost_ret (v := .tuple #[shV (n2 * u2) (d2 * v2), .int .i64 0]) (by simp [results, Try.results100, go_sem, p0, p1]) rfl ⟨ret_sh3 HV.out, ?_⟩
      exact ((below_drewN HB2.out _).setCell (by first | omega | (simp; done) | (simp; omega)) _).setCell (by first | omega | (simp; done) | (simp; omega)) _

set_option maxHeartbeats 3200000 in
theorem spec_TakePoint_any (a b c d e f : Int) (w : World)  : Calls Try.prog 87 #[shV a b, shV c d, shV e f] w fun e1 w1 => e1 = .returned (.tuple #[shV (tpA a b c d e f).1 (tpA a b c d e f).2.1, .int .i64 (tpA a b c d e f).2.2]) ∧ Below w.heap.size w w1 := by
  have HB0 := (((((Below.refl w.heap.size w).alloc (Nat.le_refl _) (.cells #[.int .i64 a, .int .i64 b] 30)).alloc (by first | omega | (simp; done) | (simp; omega)) (.cells #[.int .i64 c, .int .i64 d] 30)).alloc (by first | omega | (simp; done) | (simp; omega)) (.cells #[.int .i64 e, .int .i64 f] 30)).alloc (by first | omega | (simp; done) | (simp; omega)) (.cells #[.int .i64 0, .int .i64 0] 30))
  have r0 := (((two_new w a b 30).alloc (.cells #[.int .i64 c, .int .i64 d] 30)).alloc (.cells #[.int .i64 e, .int .i64 f] 30)).alloc (.cells #[.int .i64 0, .int .i64 0] 30)
  have r1 := ((two_new (w.alloc (.cells #[.int .i64 a, .int .i64 b] 30)) c d 30).alloc (.cells #[.int .i64 e, .int .i64 f] 30)).alloc (.cells #[.int .i64 0, .int .i64 0] 30)
  have r2 := (two_new ((w.alloc (.cells #[.int .i64 a, .int .i64 b] 30)).alloc (.cells #[.int .i64 c, .int .i64 d] 30)) e f 30).alloc (.cells #[.int .i64 0, .int .i64 0] 30)
  have r3 := two_new (((w.alloc (.cells #[.int .i64 a, .int .i64 b] 30)).alloc (.cells #[.int .i64 c, .int .i64 d] 30)).alloc (.cells #[.int .i64 e, .int .i64 f] 30)) 0 0 30
  simp only [World.size_alloc] at r1 r2 r3
  have R0 := Lib.hid r0
  have R1 := Lib.hid r1
  have R2 := Lib.hid r2
  have R3 := Lib.hid r3
  clear r0 r1 r2 r3
  cases hs1 : shB a b
  · have HV := Lib.hid (tpA_1 (show (shB a b && shB c d && shB e f) = false by rw [hs1]; rfl))
    go_enter Try.func87, Try.ntmps87
    go_wp2_with fail
    refine (spec_IsShare_any _ _ _).mono ?_
    rintro e u1 ⟨rfl, hb⟩
    rw [hs1]
    replace R0 := Lib.hid (rowIs_below R0.out hb R0.out.lt)
    replace R1 := Lib.hid (rowIs_below R1.out hb R1.out.lt)
    replace R2 := Lib.hid (rowIs_below R2.out hb R2.out.lt)
    replace R3 := Lib.hid (rowIs_below R3.out hb R3.out.lt)
    replace HB0 := HB0.trans (hb.mono HB0.size)
    have zu1 := hb.size
    simp only [World.size_alloc] at zu1
    clear hb
    obtain ⟨c00, c01, _, _⟩ := two_cells R0.out
    obtain ⟨c10, c11, _, _⟩ := two_cells R1.out
    obtain ⟨c20, c21, _, _⟩ := two_cells R2.out
    obtain ⟨q0, q1, g0, g1⟩ := two_cells R3.out
    go_wp2_with fail
    obtain ⟨p0, p1, _, _⟩ := two_cells (two_set R3.out 0 0)
    refine bodyPost_ret (v := .tuple #[shV 0 0, .int .i64 1]) (by simp [results, Try.results87, go_sem, p0, p1]) rfl ⟨ret_sh3 HV.out, (HB0.setCell (by first | omega | (simp; done) | (simp; omega)) _).setCell (by first | omega | (simp; done) | (simp; omega)) _⟩
  · cases hs2 : shB c d
    · have HV := Lib.hid (tpA_1 (show (shB a b && shB c d && shB e f) = false by rw [hs1, hs2]; rfl))
      go_enter Try.func87, Try.ntmps87
      go_wp2_with fail
      refine (spec_IsShare_any _ _ _).mono ?_
      rintro e u1 ⟨rfl, hb⟩
      rw [hs1]
      replace R0 := Lib.hid (rowIs_below R0.out hb R0.out.lt)
      replace R1 := Lib.hid (rowIs_below R1.out hb R1.out.lt)
      replace R2 := Lib.hid (rowIs_below R2.out hb R2.out.lt)
      replace R3 := Lib.hid (rowIs_below R3.out hb R3.out.lt)
      replace HB0 := HB0.trans (hb.mono HB0.size)
      have zu1 := hb.size
      simp only [World.size_alloc] at zu1
      clear hb
      obtain ⟨c00, c01, _, _⟩ := two_cells R0.out
      obtain ⟨c10, c11, _, _⟩ := two_cells R1.out
      obtain ⟨c20, c21, _, _⟩ := two_cells R2.out
      obtain ⟨q0, q1, g0, g1⟩ := two_cells R3.out
      go_wp2_with fail
      clear c00 c01 c10 c11 c20 c21 q0 q1 g0 g1
      refine (spec_IsShare_any _ _ _).mono ?_
      rintro e u2 ⟨rfl, hb⟩
      rw [hs2]
      replace R0 := Lib.hid (rowIs_below R0.out hb R0.out.lt)
      replace R1 := Lib.hid (rowIs_below R1.out hb R1.out.lt)
      replace R2 := Lib.hid (rowIs_below R2.out hb R2.out.lt)
      replace R3 := Lib.hid (rowIs_below R3.out hb R3.out.lt)
      replace HB0 := HB0.trans (hb.mono HB0.size)
      have zu2 := hb.size
      clear hb
      obtain ⟨c00, c01, _, _⟩ := two_cells R0.out
      obtain ⟨c10, c11, _, _⟩ := two_cells R1.out
      obtain ⟨c20, c21, _, _⟩ := two_cells R2.out
      obtain ⟨q0, q1, g0, g1⟩ := two_cells R3.out
      go_wp2_with fail
      obtain ⟨p0, p1, _, _⟩ := two_cells (two_set R3.out 0 0)
      refine bodyPost_ret (v := .tuple #[shV 0 0, .int .i64 1]) (by simp [results, Try.results87, go_sem, p0, p1]) rfl ⟨ret_sh3 HV.out, (HB0.setCell (by first | omega | (simp; done) | (simp; omega)) _).setCell (by first | omega | (simp; done) | (simp; omega)) _⟩
    · cases hs3 : shB e f
      · have HV := Lib.hid (tpA_1 (show (shB a b && shB c d && shB e f) = false by rw [hs1, hs2, hs3]; rfl))
        go_enter Try.func87, Try.ntmps87
        go_wp2_with fail
        refine (spec_IsShare_any _ _ _).mono ?_
        rintro e u1 ⟨rfl, hb⟩
        rw [hs1]
        replace R0 := Lib.hid (rowIs_below R0.out hb R0.out.lt)
        replace R1 := Lib.hid (rowIs_below R1.out hb R1.out.lt)
        replace R2 := Lib.hid (rowIs_below R2.out hb R2.out.lt)
        replace R3 := Lib.hid (rowIs_below R3.out hb R3.out.lt)
        replace HB0 := HB0.trans (hb.mono HB0.size)
        have zu1 := hb.size
        simp only [World.size_alloc] at zu1
        clear hb
        obtain ⟨c00, c01, _, _⟩ := two_cells R0.out
        obtain ⟨c10, c11, _, _⟩ := two_cells R1.out
        obtain ⟨c20, c21, _, _⟩ := two_cells R2.out
        obtain ⟨q0, q1, g0, g1⟩ := two_cells R3.out
        go_wp2_with fail
        clear c00 c01 c10 c11 c20 c21 q0 q1 g0 g1
        refine (spec_IsShare_any _ _ _).mono ?_
        rintro e u2 ⟨rfl, hb⟩
        rw [hs2]
        replace R0 := Lib.hid (rowIs_below R0.out hb R0.out.lt)
        replace R1 := Lib.hid (rowIs_below R1.out hb R1.out.lt)
        replace R2 := Lib.hid (rowIs_below R2.out hb R2.out.lt)
        replace R3 := Lib.hid (rowIs_below R3.out hb R3.out.lt)
        replace HB0 := HB0.trans (hb.mono HB0.size)
        have zu2 := hb.size
        clear hb
        obtain ⟨c00, c01, _, _⟩ := two_cells R0.out
        obtain ⟨c10, c11, _, _⟩ := two_cells R1.out
        obtain ⟨c20, c21, _, _⟩ := two_cells R2.out
        obtain ⟨q0, q1, g0, g1⟩ := two_cells R3.out
        go_wp2_with fail
        clear c00 c01 c10 c11 c20 c21 q0 q1 g0 g1
        refine (spec_IsShare_any _ _ _).mono ?_
        rintro e u3 ⟨rfl, hb⟩
        rw [hs3]
        replace R0 := Lib.hid (rowIs_below R0.out hb R0.out.lt)
        replace R1 := Lib.hid (rowIs_below R1.out hb R1.out.lt)
        replace R2 := Lib.hid (rowIs_below R2.out hb R2.out.lt)
        replace R3 := Lib.hid (rowIs_below R3.out hb R3.out.lt)
        replace HB0 := HB0.trans (hb.mono HB0.size)
        have zu3 := hb.size
        clear hb
        obtain ⟨c00, c01, _, _⟩ := two_cells R0.out
        obtain ⟨c10, c11, _, _⟩ := two_cells R1.out
        obtain ⟨c20, c21, _, _⟩ := two_cells R2.out
        obtain ⟨q0, q1, g0, g1⟩ := two_cells R3.out
        go_wp2_with fail
        obtain ⟨p0, p1, _, _⟩ := two_cells (two_set R3.out 0 0)
        refine bodyPost_ret (v := .tuple #[shV 0 0, .int .i64 1]) (by simp [results, Try.results87, go_sem, p0, p1]) rfl ⟨ret_sh3 HV.out, (HB0.setCell (by first | omega | (simp; done) | (simp; omega)) _).setCell (by first | omega | (simp; done) | (simp; omega)) _⟩
      · have HA := Lib.hid (tpA_2 (show (shB a b && shB c d && shB e f) = true by rw [hs1, hs2, hs3]; rfl))
        have h1 := shOk_of hs1
        have h2 := shOk_of hs2
        have h3 := shOk_of hs3
        obtain ⟨a0, a1, b0, b1⟩ := h1
        obtain ⟨c0, c1, d0, d1⟩ := h2
        obtain ⟨e0, e1, f0, f1⟩ := h3
        have K1 := Lib.hid (fun W => l18Compare_any c d a b W c0 (by omega) d0 d1 a0 (by omega) b0 b1)
        have K2 := Lib.hid (fun W => l18Compare_any a b e f W a0 (by omega) b0 b1 e0 (by omega) f0 f1)
        have K3 := Lib.hid (fun W => l18Compare_any c d e f W c0 (by omega) d0 d1 e0 (by omega) f0 f1)
        obtain ⟨k1, hk1⟩ : ∃ k, cmpS c d a b = k := ⟨_, rfl⟩
        obtain ⟨k2, hk2⟩ : ∃ k, cmpS a b e f = k := ⟨_, rfl⟩
        obtain ⟨k3, hk3⟩ : ∃ k, cmpS c d e f = k := ⟨_, rfl⟩
        have HO : Hid (tpOrd a b c d e f ↔ 0 < k1 ∨ 0 < k2 ∨ 0 ≤ k3) := by show _ ↔ _; rw [tpOrd, hk1, hk2, hk3]
        rw [hk1] at K1
        rw [hk2] at K2
        rw [hk3] at K3
        clear hk1 hk2 hk3
        by_cases s1 : 0 < k1
        · have HV := Lib.hid (HA.out.trans (tpV_5 (HO.out.2 (.inl s1))))
          go_enter Try.func87, Try.ntmps87
          go_wp2_with fail
          refine (spec_IsShare_any _ _ _).mono ?_
          rintro e u1 ⟨rfl, hb⟩
          rw [hs1]
          replace R0 := Lib.hid (rowIs_below R0.out hb R0.out.lt)
          replace R1 := Lib.hid (rowIs_below R1.out hb R1.out.lt)
          replace R2 := Lib.hid (rowIs_below R2.out hb R2.out.lt)
          replace R3 := Lib.hid (rowIs_below R3.out hb R3.out.lt)
          replace HB0 := HB0.trans (hb.mono HB0.size)
          have zu1 := hb.size
          simp only [World.size_alloc] at zu1
          clear hb
          obtain ⟨c00, c01, _, _⟩ := two_cells R0.out
          obtain ⟨c10, c11, _, _⟩ := two_cells R1.out
          obtain ⟨c20, c21, _, _⟩ := two_cells R2.out
          obtain ⟨q0, q1, g0, g1⟩ := two_cells R3.out
          go_wp2_with fail
          clear c00 c01 c10 c11 c20 c21 q0 q1 g0 g1
          refine (spec_IsShare_any _ _ _).mono ?_
          rintro e u2 ⟨rfl, hb⟩
          rw [hs2]
          replace R0 := Lib.hid (rowIs_below R0.out hb R0.out.lt)
          replace R1 := Lib.hid (rowIs_below R1.out hb R1.out.lt)
          replace R2 := Lib.hid (rowIs_below R2.out hb R2.out.lt)
          replace R3 := Lib.hid (rowIs_below R3.out hb R3.out.lt)
          replace HB0 := HB0.trans (hb.mono HB0.size)
          have zu2 := hb.size
          clear hb
          obtain ⟨c00, c01, _, _⟩ := two_cells R0.out
          obtain ⟨c10, c11, _, _⟩ := two_cells R1.out
          obtain ⟨c20, c21, _, _⟩ := two_cells R2.out
          obtain ⟨q0, q1, g0, g1⟩ := two_cells R3.out
          go_wp2_with fail
          clear c00 c01 c10 c11 c20 c21 q0 q1 g0 g1
          refine (spec_IsShare_any _ _ _).mono ?_
          rintro e u3 ⟨rfl, hb⟩
          rw [hs3]
          replace R0 := Lib.hid (rowIs_below R0.out hb R0.out.lt)
          replace R1 := Lib.hid (rowIs_below R1.out hb R1.out.lt)
          replace R2 := Lib.hid (rowIs_below R2.out hb R2.out.lt)
          replace R3 := Lib.hid (rowIs_below R3.out hb R3.out.lt)
          replace HB0 := HB0.trans (hb.mono HB0.size)
          have zu3 := hb.size
          clear hb
          obtain ⟨c00, c01, _, _⟩ := two_cells R0.out
          obtain ⟨c10, c11, _, _⟩ := two_cells R1.out
          obtain ⟨c20, c21, _, _⟩ := two_cells R2.out
          obtain ⟨q0, q1, g0, g1⟩ := two_cells R3.out
          go_wp2_with fail
          clear c00 c01 c10 c11 c20 c21 q0 q1 g0 g1
          refine (K1.out _).mono ?_
          rintro e v1 ⟨rfl, hb⟩
          replace R0 := Lib.hid (rowIs_below R0.out hb R0.out.lt)
          replace R1 := Lib.hid (rowIs_below R1.out hb R1.out.lt)
          replace R2 := Lib.hid (rowIs_below R2.out hb R2.out.lt)
          replace R3 := Lib.hid (rowIs_below R3.out hb R3.out.lt)
          replace HB0 := HB0.trans (hb.mono HB0.size)
          have zv1 := hb.size
          clear hb
          obtain ⟨c00, c01, _, _⟩ := two_cells R0.out
          obtain ⟨c10, c11, _, _⟩ := two_cells R1.out
          obtain ⟨c20, c21, _, _⟩ := two_cells R2.out
          obtain ⟨q0, q1, g0, g1⟩ := two_cells R3.out
          go_wp2_with fail
          obtain ⟨p0, p1, _, _⟩ := two_cells (two_set R3.out 0 0)
          refine bodyPost_ret (v := .tuple #[shV 0 0, .int .i64 5]) (by simp [results, Try.results87, go_sem, p0, p1]) rfl ⟨ret_sh3 HV.out, (HB0.setCell (by first | omega | (simp; done) | (simp; omega)) _).setCell (by first | omega | (simp; done) | (simp; omega)) _⟩
        · by_cases s2 : 0 < k2
          · have HV := Lib.hid (HA.out.trans (tpV_5 (HO.out.2 (.inr (.inl s2)))))
            go_enter Try.func87, Try.ntmps87
            go_wp2_with fail
            refine (spec_IsShare_any _ _ _).mono ?_
            rintro e u1 ⟨rfl, hb⟩
            rw [hs1]
            replace R0 := Lib.hid (rowIs_below R0.out hb R0.out.lt)
            replace R1 := Lib.hid (rowIs_below R1.out hb R1.out.lt)
            replace R2 := Lib.hid (rowIs_below R2.out hb R2.out.lt)
            replace R3 := Lib.hid (rowIs_below R3.out hb R3.out.lt)
            replace HB0 := HB0.trans (hb.mono HB0.size)
            have zu1 := hb.size
            simp only [World.size_alloc] at zu1
            clear hb
            obtain ⟨c00, c01, _, _⟩ := two_cells R0.out
            obtain ⟨c10, c11, _, _⟩ := two_cells R1.out
            obtain ⟨c20, c21, _, _⟩ := two_cells R2.out
            obtain ⟨q0, q1, g0, g1⟩ := two_cells R3.out
            go_wp2_with fail
            clear c00 c01 c10 c11 c20 c21 q0 q1 g0 g1
            refine (spec_IsShare_any _ _ _).mono ?_
            rintro e u2 ⟨rfl, hb⟩
            rw [hs2]
            replace R0 := Lib.hid (rowIs_below R0.out hb R0.out.lt)
            replace R1 := Lib.hid (rowIs_below R1.out hb R1.out.lt)
            replace R2 := Lib.hid (rowIs_below R2.out hb R2.out.lt)
            replace R3 := Lib.hid (rowIs_below R3.out hb R3.out.lt)
            replace HB0 := HB0.trans (hb.mono HB0.size)
            have zu2 := hb.size
            clear hb
            obtain ⟨c00, c01, _, _⟩ := two_cells R0.out
            obtain ⟨c10, c11, _, _⟩ := two_cells R1.out
            obtain ⟨c20, c21, _, _⟩ := two_cells R2.out
            obtain ⟨q0, q1, g0, g1⟩ := two_cells R3.out
            go_wp2_with fail
            clear c00 c01 c10 c11 c20 c21 q0 q1 g0 g1
            refine (spec_IsShare_any _ _ _).mono ?_
            rintro e u3 ⟨rfl, hb⟩
            rw [hs3]
            replace R0 := Lib.hid (rowIs_below R0.out hb R0.out.lt)
            replace R1 := Lib.hid (rowIs_below R1.out hb R1.out.lt)
            replace R2 := Lib.hid (rowIs_below R2.out hb R2.out.lt)
            replace R3 := Lib.hid (rowIs_below R3.out hb R3.out.lt)
            replace HB0 := HB0.trans (hb.mono HB0.size)
            have zu3 := hb.size
            clear hb
            obtain ⟨c00, c01, _, _⟩ := two_cells R0.out
            obtain ⟨c10, c11, _, _⟩ := two_cells R1.out
            obtain ⟨c20, c21, _, _⟩ := two_cells R2.out
            obtain ⟨q0, q1, g0, g1⟩ := two_cells R3.out
            go_wp2_with fail
            clear c00 c01 c10 c11 c20 c21 q0 q1 g0 g1
            refine (K1.out _).mono ?_
            rintro e v1 ⟨rfl, hb⟩
            replace R0 := Lib.hid (rowIs_below R0.out hb R0.out.lt)
            replace R1 := Lib.hid (rowIs_below R1.out hb R1.out.lt)
            replace R2 := Lib.hid (rowIs_below R2.out hb R2.out.lt)
            replace R3 := Lib.hid (rowIs_below R3.out hb R3.out.lt)
            replace HB0 := HB0.trans (hb.mono HB0.size)
            have zv1 := hb.size
            clear hb
            obtain ⟨c00, c01, _, _⟩ := two_cells R0.out
            obtain ⟨c10, c11, _, _⟩ := two_cells R1.out
            obtain ⟨c20, c21, _, _⟩ := two_cells R2.out
            obtain ⟨q0, q1, g0, g1⟩ := two_cells R3.out
            go_wp2_with fail
            clear c00 c01 c10 c11 c20 c21 q0 q1 g0 g1
            refine (K2.out _).mono ?_
            rintro e v2 ⟨rfl, hb⟩
            replace R0 := Lib.hid (rowIs_below R0.out hb R0.out.lt)
            replace R1 := Lib.hid (rowIs_below R1.out hb R1.out.lt)
            replace R2 := Lib.hid (rowIs_below R2.out hb R2.out.lt)
            replace R3 := Lib.hid (rowIs_below R3.out hb R3.out.lt)
            replace HB0 := HB0.trans (hb.mono HB0.size)
            have zv2 := hb.size
            clear hb
            obtain ⟨c00, c01, _, _⟩ := two_cells R0.out
            obtain ⟨c10, c11, _, _⟩ := two_cells R1.out
            obtain ⟨c20, c21, _, _⟩ := two_cells R2.out
            obtain ⟨q0, q1, g0, g1⟩ := two_cells R3.out
            go_wp2_with fail
            obtain ⟨p0, p1, _, _⟩ := two_cells (two_set R3.out 0 0)
            refine bodyPost_ret (v := .tuple #[shV 0 0, .int .i64 5]) (by simp [results, Try.results87, go_sem, p0, p1]) rfl ⟨ret_sh3 HV.out, (HB0.setCell (by first | omega | (simp; done) | (simp; omega)) _).setCell (by first | omega | (simp; done) | (simp; omega)) _⟩
          · by_cases s3 : 0 ≤ k3
            · have HV := Lib.hid (HA.out.trans (tpV_5 (HO.out.2 (.inr (.inr s3)))))
              go_enter Try.func87, Try.ntmps87
              go_wp2_with fail
              refine (spec_IsShare_any _ _ _).mono ?_
              rintro e u1 ⟨rfl, hb⟩
              rw [hs1]
              replace R0 := Lib.hid (rowIs_below R0.out hb R0.out.lt)
              replace R1 := Lib.hid (rowIs_below R1.out hb R1.out.lt)
              replace R2 := Lib.hid (rowIs_below R2.out hb R2.out.lt)
              replace R3 := Lib.hid (rowIs_below R3.out hb R3.out.lt)
              replace HB0 := HB0.trans (hb.mono HB0.size)
              have zu1 := hb.size
              simp only [World.size_alloc] at zu1
              clear hb
              obtain ⟨c00, c01, _, _⟩ := two_cells R0.out
              obtain ⟨c10, c11, _, _⟩ := two_cells R1.out
              obtain ⟨c20, c21, _, _⟩ := two_cells R2.out
              obtain ⟨q0, q1, g0, g1⟩ := two_cells R3.out
              go_wp2_with fail
              clear c00 c01 c10 c11 c20 c21 q0 q1 g0 g1
              refine (spec_IsShare_any _ _ _).mono ?_
              rintro e u2 ⟨rfl, hb⟩
              rw [hs2]
              replace R0 := Lib.hid (rowIs_below R0.out hb R0.out.lt)
              replace R1 := Lib.hid (rowIs_below R1.out hb R1.out.lt)
              replace R2 := Lib.hid (rowIs_below R2.out hb R2.out.lt)
              replace R3 := Lib.hid (rowIs_below R3.out hb R3.out.lt)
              replace HB0 := HB0.trans (hb.mono HB0.size)
              have zu2 := hb.size
              clear hb
              obtain ⟨c00, c01, _, _⟩ := two_cells R0.out
              obtain ⟨c10, c11, _, _⟩ := two_cells R1.out
              obtain ⟨c20, c21, _, _⟩ := two_cells R2.out
              obtain ⟨q0, q1, g0, g1⟩ := two_cells R3.out
              go_wp2_with fail
              clear c00 c01 c10 c11 c20 c21 q0 q1 g0 g1
              refine (spec_IsShare_any _ _ _).mono ?_
              rintro e u3 ⟨rfl, hb⟩
              rw [hs3]
              replace R0 := Lib.hid (rowIs_below R0.out hb R0.out.lt)
              replace R1 := Lib.hid (rowIs_below R1.out hb R1.out.lt)
              replace R2 := Lib.hid (rowIs_below R2.out hb R2.out.lt)
              replace R3 := Lib.hid (rowIs_below R3.out hb R3.out.lt)
              replace HB0 := HB0.trans (hb.mono HB0.size)
              have zu3 := hb.size
              clear hb
              obtain ⟨c00, c01, _, _⟩ := two_cells R0.out
              obtain ⟨c10, c11, _, _⟩ := two_cells R1.out
              obtain ⟨c20, c21, _, _⟩ := two_cells R2.out
              obtain ⟨q0, q1, g0, g1⟩ := two_cells R3.out
              go_wp2_with fail
              clear c00 c01 c10 c11 c20 c21 q0 q1 g0 g1
              refine (K1.out _).mono ?_
              rintro e v1 ⟨rfl, hb⟩
              replace R0 := Lib.hid (rowIs_below R0.out hb R0.out.lt)
              replace R1 := Lib.hid (rowIs_below R1.out hb R1.out.lt)
              replace R2 := Lib.hid (rowIs_below R2.out hb R2.out.lt)
              replace R3 := Lib.hid (rowIs_below R3.out hb R3.out.lt)
              replace HB0 := HB0.trans (hb.mono HB0.size)
              have zv1 := hb.size
              clear hb
              obtain ⟨c00, c01, _, _⟩ := two_cells R0.out
              obtain ⟨c10, c11, _, _⟩ := two_cells R1.out
              obtain ⟨c20, c21, _, _⟩ := two_cells R2.out
              obtain ⟨q0, q1, g0, g1⟩ := two_cells R3.out
              go_wp2_with fail
              clear c00 c01 c10 c11 c20 c21 q0 q1 g0 g1
              refine (K2.out _).mono ?_
              rintro e v2 ⟨rfl, hb⟩
              replace R0 := Lib.hid (rowIs_below R0.out hb R0.out.lt)
              replace R1 := Lib.hid (rowIs_below R1.out hb R1.out.lt)
              replace R2 := Lib.hid (rowIs_below R2.out hb R2.out.lt)
              replace R3 := Lib.hid (rowIs_below R3.out hb R3.out.lt)
              replace HB0 := HB0.trans (hb.mono HB0.size)
              have zv2 := hb.size
              clear hb
              obtain ⟨c00, c01, _, _⟩ := two_cells R0.out
              obtain ⟨c10, c11, _, _⟩ := two_cells R1.out
              obtain ⟨c20, c21, _, _⟩ := two_cells R2.out
              obtain ⟨q0, q1, g0, g1⟩ := two_cells R3.out
              go_wp2_with fail
              clear c00 c01 c10 c11 c20 c21 q0 q1 g0 g1
              refine (K3.out _).mono ?_
              rintro e v3 ⟨rfl, hb⟩
              replace R0 := Lib.hid (rowIs_below R0.out hb R0.out.lt)
              replace R1 := Lib.hid (rowIs_below R1.out hb R1.out.lt)
              replace R2 := Lib.hid (rowIs_below R2.out hb R2.out.lt)
              replace R3 := Lib.hid (rowIs_below R3.out hb R3.out.lt)
              replace HB0 := HB0.trans (hb.mono HB0.size)
              have zv3 := hb.size
              clear hb
              obtain ⟨c00, c01, _, _⟩ := two_cells R0.out
              obtain ⟨c10, c11, _, _⟩ := two_cells R1.out
              obtain ⟨c20, c21, _, _⟩ := two_cells R2.out
              obtain ⟨q0, q1, g0, g1⟩ := two_cells R3.out
              go_wp2_with fail
              obtain ⟨p0, p1, _, _⟩ := two_cells (two_set R3.out 0 0)
              refine bodyPost_ret (v := .tuple #[shV 0 0, .int .i64 5]) (by simp [results, Try.results87, go_sem, p0, p1]) rfl ⟨ret_sh3 HV.out, (HB0.setCell (by first | omega | (simp; done) | (simp; omega)) _).setCell (by first | omega | (simp; done) | (simp; omega)) _⟩
            · have HN : Hid (¬ tpOrd a b c d e f) := fun q => by rcases HO.out.1 q with q | q | q <;> omega
              cases hf : fitsB [a, b, c, d, e, f] 3
              · have HV := Lib.hid (HA.out.trans (tpV_3 HN.out hf))
                go_enter Try.func87, Try.ntmps87
                go_wp2_with fail
                refine (spec_IsShare_any _ _ _).mono ?_
                rintro e u1 ⟨rfl, hb⟩
                rw [hs1]
                replace R0 := Lib.hid (rowIs_below R0.out hb R0.out.lt)
                replace R1 := Lib.hid (rowIs_below R1.out hb R1.out.lt)
                replace R2 := Lib.hid (rowIs_below R2.out hb R2.out.lt)
                replace R3 := Lib.hid (rowIs_below R3.out hb R3.out.lt)
                replace HB0 := HB0.trans (hb.mono HB0.size)
                have zu1 := hb.size
                simp only [World.size_alloc] at zu1
                clear hb
                obtain ⟨c00, c01, _, _⟩ := two_cells R0.out
                obtain ⟨c10, c11, _, _⟩ := two_cells R1.out
                obtain ⟨c20, c21, _, _⟩ := two_cells R2.out
                obtain ⟨q0, q1, g0, g1⟩ := two_cells R3.out
                go_wp2_with fail
                clear c00 c01 c10 c11 c20 c21 q0 q1 g0 g1
                refine (spec_IsShare_any _ _ _).mono ?_
                rintro e u2 ⟨rfl, hb⟩
                rw [hs2]
                replace R0 := Lib.hid (rowIs_below R0.out hb R0.out.lt)
                replace R1 := Lib.hid (rowIs_below R1.out hb R1.out.lt)
                replace R2 := Lib.hid (rowIs_below R2.out hb R2.out.lt)
                replace R3 := Lib.hid (rowIs_below R3.out hb R3.out.lt)
                replace HB0 := HB0.trans (hb.mono HB0.size)
                have zu2 := hb.size
                clear hb
                obtain ⟨c00, c01, _, _⟩ := two_cells R0.out
                obtain ⟨c10, c11, _, _⟩ := two_cells R1.out
                obtain ⟨c20, c21, _, _⟩ := two_cells R2.out
                obtain ⟨q0, q1, g0, g1⟩ := two_cells R3.out
                go_wp2_with fail
                clear c00 c01 c10 c11 c20 c21 q0 q1 g0 g1
                refine (spec_IsShare_any _ _ _).mono ?_
                rintro e u3 ⟨rfl, hb⟩
                rw [hs3]
                replace R0 := Lib.hid (rowIs_below R0.out hb R0.out.lt)
                replace R1 := Lib.hid (rowIs_below R1.out hb R1.out.lt)
                replace R2 := Lib.hid (rowIs_below R2.out hb R2.out.lt)
                replace R3 := Lib.hid (rowIs_below R3.out hb R3.out.lt)
                replace HB0 := HB0.trans (hb.mono HB0.size)
                have zu3 := hb.size
                clear hb
                obtain ⟨c00, c01, _, _⟩ := two_cells R0.out
                obtain ⟨c10, c11, _, _⟩ := two_cells R1.out
                obtain ⟨c20, c21, _, _⟩ := two_cells R2.out
                obtain ⟨q0, q1, g0, g1⟩ := two_cells R3.out
                go_wp2_with fail
                clear c00 c01 c10 c11 c20 c21 q0 q1 g0 g1
                refine (K1.out _).mono ?_
                rintro e v1 ⟨rfl, hb⟩
                replace R0 := Lib.hid (rowIs_below R0.out hb R0.out.lt)
                replace R1 := Lib.hid (rowIs_below R1.out hb R1.out.lt)
                replace R2 := Lib.hid (rowIs_below R2.out hb R2.out.lt)
                replace R3 := Lib.hid (rowIs_below R3.out hb R3.out.lt)
                replace HB0 := HB0.trans (hb.mono HB0.size)
                have zv1 := hb.size
                clear hb
                obtain ⟨c00, c01, _, _⟩ := two_cells R0.out
                obtain ⟨c10, c11, _, _⟩ := two_cells R1.out
                obtain ⟨c20, c21, _, _⟩ := two_cells R2.out
                obtain ⟨q0, q1, g0, g1⟩ := two_cells R3.out
                go_wp2_with fail
                clear c00 c01 c10 c11 c20 c21 q0 q1 g0 g1
                refine (K2.out _).mono ?_
                rintro e v2 ⟨rfl, hb⟩
                replace R0 := Lib.hid (rowIs_below R0.out hb R0.out.lt)
                replace R1 := Lib.hid (rowIs_below R1.out hb R1.out.lt)
                replace R2 := Lib.hid (rowIs_below R2.out hb R2.out.lt)
                replace R3 := Lib.hid (rowIs_below R3.out hb R3.out.lt)
                replace HB0 := HB0.trans (hb.mono HB0.size)
                have zv2 := hb.size
                clear hb
                obtain ⟨c00, c01, _, _⟩ := two_cells R0.out
                obtain ⟨c10, c11, _, _⟩ := two_cells R1.out
                obtain ⟨c20, c21, _, _⟩ := two_cells R2.out
                obtain ⟨q0, q1, g0, g1⟩ := two_cells R3.out
                go_wp2_with fail
                clear c00 c01 c10 c11 c20 c21 q0 q1 g0 g1
                refine (K3.out _).mono ?_
                rintro e v3 ⟨rfl, hb⟩
                replace R0 := Lib.hid (rowIs_below R0.out hb R0.out.lt)
                replace R1 := Lib.hid (rowIs_below R1.out hb R1.out.lt)
                replace R2 := Lib.hid (rowIs_below R2.out hb R2.out.lt)
                replace R3 := Lib.hid (rowIs_below R3.out hb R3.out.lt)
                replace HB0 := HB0.trans (hb.mono HB0.size)
                have zv3 := hb.size
                clear hb
                obtain ⟨c00, c01, _, _⟩ := two_cells R0.out
                obtain ⟨c10, c11, _, _⟩ := two_cells R1.out
                obtain ⟨c20, c21, _, _⟩ := two_cells R2.out
                obtain ⟨q0, q1, g0, g1⟩ := two_cells R3.out
                go_wp2_with fail
                have hb := (Below.refl v3.heap.size v3).alloc (Nat.le_refl _) (.cells #[.int .i64 a, .int .i64 b, .int .i64 c, .int .i64 d, .int .i64 e, .int .i64 f] 30)
                replace R0 := Lib.hid (rowIs_below R0.out hb R0.out.lt)
                replace R1 := Lib.hid (rowIs_below R1.out hb R1.out.lt)
                replace R2 := Lib.hid (rowIs_below R2.out hb R2.out.lt)
                replace R3 := Lib.hid (rowIs_below R3.out hb R3.out.lt)
                replace HB0 := HB0.trans (hb.mono HB0.size)
                clear hb
                clear c00 c01 c10 c11 c20 c21 q0 q1 g0 g1
                refine (l19Fits_any _ 3 _ _ _ _ (six_ints v3 a b c d e f _) (by omega) (by omega)).mono ?_
                rintro e v9 ⟨rfl, rfl⟩
                rw [hf]
                obtain ⟨c00, c01, _, _⟩ := two_cells R0.out
                obtain ⟨c10, c11, _, _⟩ := two_cells R1.out
                obtain ⟨c20, c21, _, _⟩ := two_cells R2.out
                obtain ⟨q0, q1, g0, g1⟩ := two_cells R3.out
                go_wp2_with fail
                obtain ⟨p0, p1, _, _⟩ := two_cells (two_set R3.out 0 0)
                refine bodyPost_ret (v := .tuple #[shV 0 0, .int .i64 3]) (by simp [results, Try.results87, go_sem, p0, p1]) rfl ⟨ret_sh3 HV.out, (HB0.setCell (by first | omega | (simp; done) | (simp; omega)) _).setCell (by first | omega | (simp; done) | (simp; omega)) _⟩
              · have MK := Lib.hid (fun W => l19Ratio_any a b c d e f W ⟨a0, a1, b0, b1⟩ ⟨c0, c1, d0, d1⟩ ⟨e0, e1, f0, f1⟩ HN.out hf)
                obtain ⟨NN, hNN⟩ : ∃ x, (tpV a b c d e f).1 = x := ⟨_, rfl⟩
                obtain ⟨DD, hDD⟩ : ∃ x, (tpV a b c d e f).2.1 = x := ⟨_, rfl⟩
                obtain ⟨CC, hCC⟩ : ∃ x, (tpV a b c d e f).2.2 = x := ⟨_, rfl⟩
                rw [hNN, hDD, hCC] at MK
                have HV : Hid (tpA a b c d e f = (NN, DD, CC)) := by show _ = _; rw [HA.out, ← hNN, ← hDD, ← hCC]
                clear hNN hDD hCC
                go_enter Try.func87, Try.ntmps87
                go_wp2_with fail
                refine (spec_IsShare_any _ _ _).mono ?_
                rintro e u1 ⟨rfl, hb⟩
                rw [hs1]
                replace R0 := Lib.hid (rowIs_below R0.out hb R0.out.lt)
                replace R1 := Lib.hid (rowIs_below R1.out hb R1.out.lt)
                replace R2 := Lib.hid (rowIs_below R2.out hb R2.out.lt)
                replace R3 := Lib.hid (rowIs_below R3.out hb R3.out.lt)
                replace HB0 := HB0.trans (hb.mono HB0.size)
                have zu1 := hb.size
                simp only [World.size_alloc] at zu1
                clear hb
                obtain ⟨c00, c01, _, _⟩ := two_cells R0.out
                obtain ⟨c10, c11, _, _⟩ := two_cells R1.out
                obtain ⟨c20, c21, _, _⟩ := two_cells R2.out
                obtain ⟨q0, q1, g0, g1⟩ := two_cells R3.out
                go_wp2_with fail
                clear c00 c01 c10 c11 c20 c21 q0 q1 g0 g1
                refine (spec_IsShare_any _ _ _).mono ?_
                rintro e u2 ⟨rfl, hb⟩
                rw [hs2]
                replace R0 := Lib.hid (rowIs_below R0.out hb R0.out.lt)
                replace R1 := Lib.hid (rowIs_below R1.out hb R1.out.lt)
                replace R2 := Lib.hid (rowIs_below R2.out hb R2.out.lt)
                replace R3 := Lib.hid (rowIs_below R3.out hb R3.out.lt)
                replace HB0 := HB0.trans (hb.mono HB0.size)
                have zu2 := hb.size
                clear hb
                obtain ⟨c00, c01, _, _⟩ := two_cells R0.out
                obtain ⟨c10, c11, _, _⟩ := two_cells R1.out
                obtain ⟨c20, c21, _, _⟩ := two_cells R2.out
                obtain ⟨q0, q1, g0, g1⟩ := two_cells R3.out
                go_wp2_with fail
                clear c00 c01 c10 c11 c20 c21 q0 q1 g0 g1
                refine (spec_IsShare_any _ _ _).mono ?_
                rintro e u3 ⟨rfl, hb⟩
                rw [hs3]
                replace R0 := Lib.hid (rowIs_below R0.out hb R0.out.lt)
                replace R1 := Lib.hid (rowIs_below R1.out hb R1.out.lt)
                replace R2 := Lib.hid (rowIs_below R2.out hb R2.out.lt)
                replace R3 := Lib.hid (rowIs_below R3.out hb R3.out.lt)
                replace HB0 := HB0.trans (hb.mono HB0.size)
                have zu3 := hb.size
                clear hb
                obtain ⟨c00, c01, _, _⟩ := two_cells R0.out
                obtain ⟨c10, c11, _, _⟩ := two_cells R1.out
                obtain ⟨c20, c21, _, _⟩ := two_cells R2.out
                obtain ⟨q0, q1, g0, g1⟩ := two_cells R3.out
                go_wp2_with fail
                clear c00 c01 c10 c11 c20 c21 q0 q1 g0 g1
                refine (K1.out _).mono ?_
                rintro e v1 ⟨rfl, hb⟩
                replace R0 := Lib.hid (rowIs_below R0.out hb R0.out.lt)
                replace R1 := Lib.hid (rowIs_below R1.out hb R1.out.lt)
                replace R2 := Lib.hid (rowIs_below R2.out hb R2.out.lt)
                replace R3 := Lib.hid (rowIs_below R3.out hb R3.out.lt)
                replace HB0 := HB0.trans (hb.mono HB0.size)
                have zv1 := hb.size
                clear hb
                obtain ⟨c00, c01, _, _⟩ := two_cells R0.out
                obtain ⟨c10, c11, _, _⟩ := two_cells R1.out
                obtain ⟨c20, c21, _, _⟩ := two_cells R2.out
                obtain ⟨q0, q1, g0, g1⟩ := two_cells R3.out
                go_wp2_with fail
                clear c00 c01 c10 c11 c20 c21 q0 q1 g0 g1
                refine (K2.out _).mono ?_
                rintro e v2 ⟨rfl, hb⟩
                replace R0 := Lib.hid (rowIs_below R0.out hb R0.out.lt)
                replace R1 := Lib.hid (rowIs_below R1.out hb R1.out.lt)
                replace R2 := Lib.hid (rowIs_below R2.out hb R2.out.lt)
                replace R3 := Lib.hid (rowIs_below R3.out hb R3.out.lt)
                replace HB0 := HB0.trans (hb.mono HB0.size)
                have zv2 := hb.size
                clear hb
                obtain ⟨c00, c01, _, _⟩ := two_cells R0.out
                obtain ⟨c10, c11, _, _⟩ := two_cells R1.out
                obtain ⟨c20, c21, _, _⟩ := two_cells R2.out
                obtain ⟨q0, q1, g0, g1⟩ := two_cells R3.out
                go_wp2_with fail
                clear c00 c01 c10 c11 c20 c21 q0 q1 g0 g1
                refine (K3.out _).mono ?_
                rintro e v3 ⟨rfl, hb⟩
                replace R0 := Lib.hid (rowIs_below R0.out hb R0.out.lt)
                replace R1 := Lib.hid (rowIs_below R1.out hb R1.out.lt)
                replace R2 := Lib.hid (rowIs_below R2.out hb R2.out.lt)
                replace R3 := Lib.hid (rowIs_below R3.out hb R3.out.lt)
                replace HB0 := HB0.trans (hb.mono HB0.size)
                have zv3 := hb.size
                clear hb
                obtain ⟨c00, c01, _, _⟩ := two_cells R0.out
                obtain ⟨c10, c11, _, _⟩ := two_cells R1.out
                obtain ⟨c20, c21, _, _⟩ := two_cells R2.out
                obtain ⟨q0, q1, g0, g1⟩ := two_cells R3.out
                go_wp2_with fail
                have hb := (Below.refl v3.heap.size v3).alloc (Nat.le_refl _) (.cells #[.int .i64 a, .int .i64 b, .int .i64 c, .int .i64 d, .int .i64 e, .int .i64 f] 30)
                replace R0 := Lib.hid (rowIs_below R0.out hb R0.out.lt)
                replace R1 := Lib.hid (rowIs_below R1.out hb R1.out.lt)
                replace R2 := Lib.hid (rowIs_below R2.out hb R2.out.lt)
                replace R3 := Lib.hid (rowIs_below R3.out hb R3.out.lt)
                replace HB0 := HB0.trans (hb.mono HB0.size)
                clear hb
                clear c00 c01 c10 c11 c20 c21 q0 q1 g0 g1
                refine (l19Fits_any _ 3 _ _ _ _ (six_ints v3 a b c d e f _) (by omega) (by omega)).mono ?_
                rintro e v9 ⟨rfl, rfl⟩
                rw [hf]
                obtain ⟨c00, c01, _, _⟩ := two_cells R0.out
                obtain ⟨c10, c11, _, _⟩ := two_cells R1.out
                obtain ⟨c20, c21, _, _⟩ := two_cells R2.out
                obtain ⟨q0, q1, g0, g1⟩ := two_cells R3.out
                go_wp2_with fail
                clear c00 c01 c10 c11 c20 c21 q0 q1 g0 g1
                refine (MK.out _).mono ?_
                rintro e v4 ⟨rfl, hb⟩
                replace R0 := Lib.hid (rowIs_below R0.out hb R0.out.lt)
                replace R1 := Lib.hid (rowIs_below R1.out hb R1.out.lt)
                replace R2 := Lib.hid (rowIs_below R2.out hb R2.out.lt)
                replace R3 := Lib.hid (rowIs_below R3.out hb R3.out.lt)
                replace HB0 := HB0.trans (hb.mono HB0.size)
                have zv4 := hb.size
                clear hb
                obtain ⟨c00, c01, _, _⟩ := two_cells R0.out
                obtain ⟨c10, c11, _, _⟩ := two_cells R1.out
                obtain ⟨c20, c21, _, _⟩ := two_cells R2.out
                obtain ⟨q0, q1, g0, g1⟩ := two_cells R3.out
                have zz : w.heap.size + 1 + 1 + 1 < v4.heap.size := R3.out.lt
                go_wp2_with fail
                obtain ⟨p0, p1, _, _⟩ := two_cells (two_set R3.out NN DD)
                refine bodyPost_ret (v := .tuple #[shV NN DD, .int .i64 CC]) (by simp [results, Try.results87, go_sem, p0, p1]) rfl ⟨ret_sh3 HV.out, (HB0.setCell (by first | omega | (simp; done) | (simp; omega)) _).setCell (by first | omega | (simp; done) | (simp; omega)) _⟩
end Go.Proofs.Ytkioliioakmepaa
