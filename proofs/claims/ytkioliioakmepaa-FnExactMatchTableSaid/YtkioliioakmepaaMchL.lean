/-
  The walks of a match of the program: what comes after a game.
-/
import Derived.Test.YtkioliioakmepaaMchJ
namespace Go.Proofs.Ytkioliioakmepaa
open Go.ChangeShapes Go.WideShapes Go.ChangeAt Go.RowKit
set_option linter.unusedVariables false

set_option maxHeartbeats 1600000 in
theorem after_pos (M : Mm) (lo hi g t f n : Nat) (hL : Lie lo hi g t f) (hI : ImC M lo hi g t f n) (a b : Nat) (ph q r p : Int) (N : Nat) (w : World) (ha9 : a ≤ 9) (hb9 : b ≤ 9) (hq : gp a b ph = q) (hr : nx q = r) (hp : 0 < p) (hp2 : p ≤ 1000) (hs : (a - p.toNat) + b ≤ n)
    (hMw : M.at w lo) (hT : Tm M g t f N w) (hz : hi ≤ w.heap.size) (hN : N + gB n < 1000000000000000000) :
    Calls Try.prog 77 #[.pointer (some ⟨g, 0, none⟩), .int .i64 a, .int .i64 b, .int .i64 ph, .int .i64 p] w fun e w' => TmPost M lo hi g t f (N + gB n) (a - p.toNat) b r w e w' := by
  obtain ⟨L1, L2, L3, L4, L5, L6, L7, L8, L9⟩ := hL
  obtain ⟨X, hX⟩ : ∃ X, max ((a : Int) - p) 0 = X := ⟨_, rfl⟩
  obtain ⟨X0, X9, XN⟩ : 0 ≤ X ∧ X ≤ 9 ∧ X.toNat = a - p.toNat := by omega
  have hs' : X.toNat + (b : Int).toNat ≤ n := by rw [XN]; simpa using hs
  rw [← XN]
  have GP := Lib.hid (fun W => gamePhase_i a b ph q hq W)
  have HI := Lib.hid hI.int
  have HT := Lib.hid (hT.alloc (.cells #[.int .i64 0, .int .i64 0] 30))
  have HO := Lib.hid ((Out.refl lo hi w).alloc (.cells #[.int .i64 0, .int .i64 0] 30))
  have HM := Lib.hid (hMw.out HO.out (by omega))
  have R8 := Lib.hid (two_new w 0 0 30)
  clear XN hI hT hMw hs hq
  by_cases e : q = 0
  · subst e
    obtain rfl : r = 0 := by rw [← hr]; rfl
    clear hr
    go_enter Try.func77, Try.ntmps77
    go_wp2_with fail
    refine (GP.out _).mono ?_
    rintro e w1 ⟨rfl, rfl⟩
    go_wp2_with fail
    refine (HI.out X b 0 N _ X0 X9 (by omega) (by omega) (by omega) (by omega) hs' HM.out HT.out (by simp; omega) hN).mono ?_
    rintro e w2 ⟨x, y, ok, rfl, t2, o2, s2, n2⟩
    have z2 := o2.size
    simp only [World.size_alloc] at z2
    have R9 := Lib.hid (row_out R8.out o2 (by omega))
    have T2 := Lib.hid t2
    have O2 := Lib.hid (HO.out.trans o2)
    have S2 := Lib.hid s2
    have N2 := Lib.hid n2
    obtain ⟨h0, h1, h2, h3⟩ := two_cells R9.out
    obtain ⟨e0, e1, _, _⟩ := two_cells (two_set R9.out x y)
    clear t2 o2 s2 n2
    go_wp2_with fail
    refine bodyPost_ret (v := .tuple #[shV x y, .bool ok]) (by simp [results, Try.results77, go_sem, e0, e1]) rfl ⟨x, y, ok, rfl, ?_, ?_, S2.out, N2.out⟩
    · exact (T2.out.set (b := w.heap.size) (by omega) (by omega) (by omega) 0 (.int .i64 x)).set (b := w.heap.size) (by omega) (by omega) (by omega) 1 (.int .i64 y)
    · exact (O2.out.setNew (p := ⟨w.heap.size, 0, none⟩) (Nat.le_refl _) (.int .i64 x)).setNew (p := ⟨w.heap.size, 1, none⟩) (Nat.le_refl _) (.int .i64 y)
  · obtain rfl : r = 2 := by rw [← hr]; exact if_neg e
    have e' : (q != 0) = true := by simpa using e
    clear hr
    go_enter Try.func77, Try.ntmps77
    go_wp2_with fail
    refine (GP.out _).mono ?_
    rintro e w1 ⟨rfl, rfl⟩
    go_wp2_with fail
    refine (HI.out X b 2 N _ X0 X9 (by omega) (by omega) (by omega) (by omega) hs' HM.out HT.out (by simp; omega) hN).mono ?_
    rintro e w2 ⟨x, y, ok, rfl, t2, o2, s2, n2⟩
    have z2 := o2.size
    simp only [World.size_alloc] at z2
    have R9 := Lib.hid (row_out R8.out o2 (by omega))
    have T2 := Lib.hid t2
    have O2 := Lib.hid (HO.out.trans o2)
    have S2 := Lib.hid s2
    have N2 := Lib.hid n2
    obtain ⟨h0, h1, h2, h3⟩ := two_cells R9.out
    obtain ⟨e0, e1, _, _⟩ := two_cells (two_set R9.out x y)
    clear t2 o2 s2 n2
    go_wp2_with fail
    refine bodyPost_ret (v := .tuple #[shV x y, .bool ok]) (by simp [results, Try.results77, go_sem, e0, e1]) rfl ⟨x, y, ok, rfl, ?_, ?_, S2.out, N2.out⟩
    · exact (T2.out.set (b := w.heap.size) (by omega) (by omega) (by omega) 0 (.int .i64 x)).set (b := w.heap.size) (by omega) (by omega) (by omega) 1 (.int .i64 y)
    · exact (O2.out.setNew (p := ⟨w.heap.size, 0, none⟩) (Nat.le_refl _) (.int .i64 x)).setNew (p := ⟨w.heap.size, 1, none⟩) (Nat.le_refl _) (.int .i64 y)
set_option maxHeartbeats 1600000 in
theorem after_neg (M : Mm) (lo hi g t f n : Nat) (hL : Lie lo hi g t f) (hI : ImC M lo hi g t f n) (a b : Nat) (ph q r p : Int) (N : Nat) (w : World) (ha9 : a ≤ 9) (hb9 : b ≤ 9) (hq : gp a b ph = q) (hr : nx q = r) (hp : p < 0) (hp2 : -1000 ≤ p) (hs : a + (b - (-p).toNat) ≤ n)
    (hMw : M.at w lo) (hT : Tm M g t f N w) (hz : hi ≤ w.heap.size) (hN : N + gB n < 1000000000000000000) :
    Calls Try.prog 77 #[.pointer (some ⟨g, 0, none⟩), .int .i64 a, .int .i64 b, .int .i64 ph, .int .i64 p] w fun e w' => TmPost M lo hi g t f (N + gB n) a (b - (-p).toNat) r w e w' := by
  obtain ⟨L1, L2, L3, L4, L5, L6, L7, L8, L9⟩ := hL
  obtain ⟨X, hX⟩ : ∃ X, max ((b : Int) + p) 0 = X := ⟨_, rfl⟩
  obtain ⟨X0, X9, XN⟩ : 0 ≤ X ∧ X ≤ 9 ∧ X.toNat = b - (-p).toNat := by omega
  have hs' : (a : Int).toNat + X.toNat ≤ n := by rw [XN]; simpa using hs
  rw [← XN]
  have GP := Lib.hid (fun W => gamePhase_i a b ph q hq W)
  have HI := Lib.hid hI.int
  have HT := Lib.hid (hT.alloc (.cells #[.int .i64 0, .int .i64 0] 30))
  have HO := Lib.hid ((Out.refl lo hi w).alloc (.cells #[.int .i64 0, .int .i64 0] 30))
  have HM := Lib.hid (hMw.out HO.out (by omega))
  have R8 := Lib.hid (two_new w 0 0 30)
  clear XN hI hT hMw hs hq
  by_cases e : q = 0
  · subst e
    obtain rfl : r = 0 := by rw [← hr]; rfl
    clear hr
    go_enter Try.func77, Try.ntmps77
    go_wp2_with fail
    refine (GP.out _).mono ?_
    rintro e w1 ⟨rfl, rfl⟩
    go_wp2_with fail
    refine (HI.out a X 0 N _ (by omega) (by omega) X0 X9 (by omega) (by omega) hs' HM.out HT.out (by simp; omega) hN).mono ?_
    rintro e w2 ⟨x, y, ok, rfl, t2, o2, s2, n2⟩
    have z2 := o2.size
    simp only [World.size_alloc] at z2
    have R9 := Lib.hid (row_out R8.out o2 (by omega))
    have T2 := Lib.hid t2
    have O2 := Lib.hid (HO.out.trans o2)
    have S2 := Lib.hid s2
    have N2 := Lib.hid n2
    obtain ⟨h0, h1, h2, h3⟩ := two_cells R9.out
    obtain ⟨e0, e1, _, _⟩ := two_cells (two_set R9.out x y)
    clear t2 o2 s2 n2
    go_wp2_with fail
    refine bodyPost_ret (v := .tuple #[shV x y, .bool ok]) (by simp [results, Try.results77, go_sem, e0, e1]) rfl ⟨x, y, ok, rfl, ?_, ?_, S2.out, N2.out⟩
    · exact (T2.out.set (b := w.heap.size) (by omega) (by omega) (by omega) 0 (.int .i64 x)).set (b := w.heap.size) (by omega) (by omega) (by omega) 1 (.int .i64 y)
    · exact (O2.out.setNew (p := ⟨w.heap.size, 0, none⟩) (Nat.le_refl _) (.int .i64 x)).setNew (p := ⟨w.heap.size, 1, none⟩) (Nat.le_refl _) (.int .i64 y)
  · obtain rfl : r = 2 := by rw [← hr]; exact if_neg e
    have e' : (q != 0) = true := by simpa using e
    clear hr
    go_enter Try.func77, Try.ntmps77
    go_wp2_with fail
    refine (GP.out _).mono ?_
    rintro e w1 ⟨rfl, rfl⟩
    go_wp2_with fail
    refine (HI.out a X 2 N _ (by omega) (by omega) X0 X9 (by omega) (by omega) hs' HM.out HT.out (by simp; omega) hN).mono ?_
    rintro e w2 ⟨x, y, ok, rfl, t2, o2, s2, n2⟩
    have z2 := o2.size
    simp only [World.size_alloc] at z2
    have R9 := Lib.hid (row_out R8.out o2 (by omega))
    have T2 := Lib.hid t2
    have O2 := Lib.hid (HO.out.trans o2)
    have S2 := Lib.hid s2
    have N2 := Lib.hid n2
    obtain ⟨h0, h1, h2, h3⟩ := two_cells R9.out
    obtain ⟨e0, e1, _, _⟩ := two_cells (two_set R9.out x y)
    clear t2 o2 s2 n2
    go_wp2_with fail
    refine bodyPost_ret (v := .tuple #[shV x y, .bool ok]) (by simp [results, Try.results77, go_sem, e0, e1]) rfl ⟨x, y, ok, rfl, ?_, ?_, S2.out, N2.out⟩
    · exact (T2.out.set (b := w.heap.size) (by omega) (by omega) (by omega) 0 (.int .i64 x)).set (b := w.heap.size) (by omega) (by omega) (by omega) 1 (.int .i64 y)
    · exact (O2.out.setNew (p := ⟨w.heap.size, 0, none⟩) (Nat.le_refl _) (.int .i64 x)).setNew (p := ⟨w.heap.size, 1, none⟩) (Nat.le_refl _) (.int .i64 y)
end Go.Proofs.Ytkioliioakmepaa
