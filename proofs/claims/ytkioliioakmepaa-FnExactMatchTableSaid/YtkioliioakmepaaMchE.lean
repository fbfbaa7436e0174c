/-
  Models of matches as arguments of a law: opened, measured, copied and compared.
-/
import Derived.Test.YtkioliioakmepaaMchS
import Derived.Test.YtkioliioakmepaaOpen
import Derived.Test.YtkioliioakmepaaApp
namespace Go.Proofs.Ytkioliioakmepaa
open Go.ChangeShapes Go.WideShapes Go.ChangeAt Go.RowKit Go.Joins
set_option linter.unusedVariables false

section
variable {H : Type} {enc : TypeId × Value → H} {w : World} {spare : Nat → Bool} {held : Bool}
set_option maxRecDepth 100000 in
theorem open_mm {r : Reach} {b0 base : Nat} {v : Value} {d : DataW H} {p : List MemPlace} (hv : Value.okWide Try.prog w r b0 36 v) (h : DataW.Trod enc Try.prog w base spare held 36 v d p) :
    ∃ a n c xs b m d' ys e q f zs, v = mmV a n c b m d' e q f ∧ IntsArg w .i64 a n xs ∧ IntsArg w .i64 b m ys ∧ IntsArg w .i64 e q zs := by
  obtain ⟨v0, v1, v2, y0, y1, y2, f, rfl, _, _, g0, g1, g2⟩ := open_agg3 Try.underlying36 (by kernel_rfl) (by kernel_rfl) hv h
  obtain ⟨a, n, c, xs, e0, w0⟩ := ints_of_cell Try.underlying24 Try.underlying2 (by kernel_rfl) g0
  obtain ⟨b, m, d', ys, e1, w1⟩ := ints_of_cell Try.underlying24 Try.underlying2 (by kernel_rfl) g1
  obtain ⟨e, q, f', zs, e2, w2⟩ := ints_of_cell Try.underlying24 Try.underlying2 (by kernel_rfl) g2
  subst e0 e1 e2
  exact ⟨a, n, c, xs, b, m, d', ys, e, q, f', zs, rfl, w0, w1, w2⟩
end
/-- a block of three values -/
def three (p q r : Value) : Nat → Value
  | 0 => p
  | 1 => q
  | _ => r
theorem three_new (w : World) (p q r : Value) (t : TypeId) : (w.alloc (.cells #[p, q, r] t)).rowIs w.heap.size t 3 (three p q r) :=
  World.rowIs_alloc w _ _ _ (fun j hj => by
    match j, hj with
    | 0, _ => rfl
    | 1, _ => rfl
    | 2, _ => rfl)
theorem three_cells {w : World} {g t : Nat} {p q r : Value} (h : w.rowIs g t 3 (three p q r)) : w.cell? ⟨g, 0, none⟩ = some p ∧ w.cell? ⟨g, 1, none⟩ = some q ∧ w.cell? ⟨g, 2, none⟩ = some r :=
  ⟨h.cell (i := 0) (by omega), h.cell (i := 1) (by omega), h.cell (i := 2) (by omega)⟩
theorem three_frozen {w : World} {g t : Nat} {f : Nat → Value} (h : w.rowIs g t 3 f) : w.frozen? ⟨g, 0, none⟩ = false ∧ w.frozen? ⟨g, 1, none⟩ = false ∧ w.frozen? ⟨g, 2, none⟩ = false := ⟨h.frozen 0, h.frozen 1, h.frozen 2⟩
theorem three_set0 {w : World} {g t : Nat} {p q r : Value} (h : w.rowIs g t 3 (three p q r)) (x : Value) : (w.setCell ⟨g, 0, none⟩ x).rowIs g t 3 (three x q r) :=
  (h.set 0 x).congr (fun j hj => by
    match j, hj with
    | 0, _ => rfl
    | 1, _ => rfl
    | 2, _ => rfl)
theorem three_set1 {w : World} {g t : Nat} {p q r : Value} (h : w.rowIs g t 3 (three p q r)) (x : Value) : (w.setCell ⟨g, 1, none⟩ x).rowIs g t 3 (three p x r) :=
  (h.set 1 x).congr (fun j hj => by
    match j, hj with
    | 0, _ => rfl
    | 1, _ => rfl
    | 2, _ => rfl)
theorem three_set2 {w : World} {g t : Nat} {p q r : Value} (h : w.rowIs g t 3 (three p q r)) (x : Value) : (w.setCell ⟨g, 2, none⟩ x).rowIs g t 3 (three p q x) :=
  (h.set 2 x).congr (fun j hj => by
    match j, hj with
    | 0, _ => rfl
    | 1, _ => rfl
    | 2, _ => rfl)
/-- a model as a value -/
abbrev Mm.V (M : Mm) : Value := mmV M.a M.n M.c M.b M.m M.d M.e M.p M.f
def Mm.sz (M : Mm) : Prop := M.n + M.m + M.p ≤ 1048576
theorem szMatchModel_no (M : Mm) (w : World) (hn : M.n ≤ maxLen) (hm : M.m ≤ maxLen) (hp : M.p ≤ maxLen) (hbig : 1048576 < M.n + M.m + M.p) :
    Calls Try.prog 23 #[M.V, .int .i64 1048576] w fun e w' => e = .returned (.int .i64 (-1)) ∧ Below w.heap.size w w' := by
  obtain ⟨a, n, c, b, m, d, e, p, f, xs, ys, zs⟩ := M
  simp only at hn hm hp hbig
  have HB0 := (Below.refl w.heap.size w).alloc (Nat.le_refl _) (.cells #[.slice a n c, .slice b m d, .slice e p f] 36)
  by_cases h1 : 1048576 < n
  · go_enter Try.func23, Try.ntmps23
    go_wp2_with fail
    refine (szInt64S_no _ _ _ _ _ (by omega) (by omega) hn (by omega)).mono ?_
    rintro e w' ⟨rfl, rfl⟩
    go_wp2_with fail
    go_ret
    exact ⟨rfl, HB0⟩
  · by_cases h2 : 1048576 < n + m
    · go_enter Try.func23, Try.ntmps23
      go_wp2_with fail
      refine (szInt64S_yes _ _ _ _ _ (by omega) (by omega) (by omega)).mono ?_
      rintro e w' ⟨rfl, rfl⟩
      go_wp2_with fail
      refine (szInt64S_no _ _ _ _ _ (by omega) (by omega) hm (by omega)).mono ?_
      rintro e w' ⟨rfl, rfl⟩
      go_wp2_with fail
      go_ret
      exact ⟨rfl, HB0⟩
    · go_enter Try.func23, Try.ntmps23
      go_wp2_with fail
      refine (szInt64S_yes _ _ _ _ _ (by omega) (by omega) (by omega)).mono ?_
      rintro e w' ⟨rfl, rfl⟩
      go_wp2_with fail
      refine (szInt64S_yes _ _ _ _ _ (by omega) (by omega) (by omega)).mono ?_
      rintro e w' ⟨rfl, rfl⟩
      go_wp2_with fail
      refine (szInt64S_no _ _ _ _ _ (by omega) (by omega) hp (by omega)).mono ?_
      rintro e w' ⟨rfl, rfl⟩
      go_wp2_with fail
      go_ret
      exact ⟨rfl, HB0⟩
theorem szMatchModel_yes (M : Mm) (w : World) (hs : M.n + M.m + M.p ≤ 1048576) :
    Calls Try.prog 23 #[M.V, .int .i64 1048576] w fun e w' => e = .returned (.int .i64 (1048576 - M.n - M.m - M.p)) ∧ Below w.heap.size w w' := by
  obtain ⟨a, n, c, b, m, d, e, p, f, xs, ys, zs⟩ := M
  simp only at hs
  have HB0 := (Below.refl w.heap.size w).alloc (Nat.le_refl _) (.cells #[.slice a n c, .slice b m d, .slice e p f] 36)
  go_enter Try.func23, Try.ntmps23
  go_wp2_with fail
  refine (szInt64S_yes _ _ _ _ _ (by omega) (by omega) (by omega)).mono ?_
  rintro e w' ⟨rfl, rfl⟩
  go_wp2_with fail
  refine (szInt64S_yes _ _ _ _ _ (by omega) (by omega) (by omega)).mono ?_
  rintro e w' ⟨rfl, rfl⟩
  go_wp2_with fail
  refine (szInt64S_yes _ _ _ _ _ (by omega) (by omega) (by omega)).mono ?_
  rintro e w' ⟨rfl, rfl⟩
  go_wp2_with fail
  go_ret
  exact ⟨rfl, HB0⟩
/-- what toMatchModel returns: a copy in blocks of its own -/
def ToMm (M : Mm) (w : World) (e : Ending) (w' : World) : Prop :=
  ∃ g1 g2 g3 k1 k2, e = .returned (mmV (some ⟨g1, 0, none⟩) M.n M.n (some ⟨g2, 0, none⟩) M.m M.m (some ⟨g3, 0, none⟩) M.p M.p) ∧ RowN w' w.heap.size k1 2 (some ⟨g1, 0, none⟩) M.n (icell .i64 M.xs) ∧ RowN w' k1 k2 2 (some ⟨g2, 0, none⟩) M.m (icell .i64 M.ys) ∧ RowN w' k2 w'.heap.size 2 (some ⟨g3, 0, none⟩) M.p (icell .i64 M.zs) ∧ w.heap.size ≤ k1 ∧ k1 ≤ k2 ∧ k2 ≤ w'.heap.size ∧ Below w.heap.size w w'
set_option maxHeartbeats 1600000 in
theorem toMatchModel_any (M : Mm) (w : World) (h : M.at w w.heap.size) (hs : M.sz) :
    Calls Try.prog 25 #[M.V] w fun e w' => ToMm M w e w' := by
  obtain ⟨a, n, c, b, m, d, e, p, f, xs, ys, zs⟩ := M
  obtain ⟨h1, h2, h3⟩ := h
  simp only [Mm.sz] at h1 h2 h3 hs
  have hn : n ≤ 1048576 := by omega
  have hm : m ≤ 1048576 := by omega
  have hp : p ≤ 1048576 := by omega
  have HA := (Below.refl w.heap.size w).alloc (Nat.le_refl _) (.cells #[.slice a n c, .slice b m d, .slice e p f] 36)
  have HA2 := HA.alloc (by simp) (.cells #[.slice none 0 0, .slice none 0 0, .slice none 0 0] 26)
  have HA3 := HA2.alloc (by simp; omega) (.cells #[.slice none 0 0, .slice none 0 0, .slice none 0 0] 26)
  have r0 := ((three_new w (.slice a n c) (.slice b m d) (.slice e p f) 36).alloc (.cells #[.slice none 0 0, .slice none 0 0, .slice none 0 0] 26)).alloc (.cells #[.slice none 0 0, .slice none 0 0, .slice none 0 0] 26)
  have r1 := (three_new (w.alloc (.cells #[.slice a n c, .slice b m d, .slice e p f] 36)) (.slice none 0 0) (.slice none 0 0) (.slice none 0 0) 26).alloc (.cells #[.slice none 0 0, .slice none 0 0, .slice none 0 0] 26)
  have r2 := three_new ((w.alloc (.cells #[.slice a n c, .slice b m d, .slice e p f] 36)).alloc (.cells #[.slice none 0 0, .slice none 0 0, .slice none 0 0] 26)) (.slice none 0 0) (.slice none 0 0) (.slice none 0 0) 26
  simp only [World.size_alloc] at r1 r2
  have R0 := Lib.hid r0
  have R1 := Lib.hid r1
  have R2 := Lib.hid r2
  clear r0 r1 r2 HA HA2
  go_enter Try.func25, Try.ntmps25
  go_wp2_with fail
  refine (toInt64S_R _ _ _ _ _ ((h1.below HA3).more HA3.size) hn).mono ?_
  rintro e1 w1 ⟨rfl, hr1, hb1⟩
  have z1 := hb1.size
  simp only [World.size_alloc] at z1 hr1
  have H1 := HA3.trans (hb1.mono HA3.size)
  have Q0 := Lib.hid (rowIs_below R0.out hb1 R0.out.lt)
  have Q1 := Lib.hid (rowIs_below R1.out hb1 R1.out.lt)
  have Q2 := Lib.hid (rowIs_below R2.out hb1 R2.out.lt)
  obtain ⟨_, a1, a2⟩ := three_cells Q0.out
  obtain ⟨b0, b1, b2⟩ := three_cells Q2.out
  obtain ⟨bf0, bf1, bf2⟩ := three_frozen Q2.out
  have N1 := Lib.hid hr1
  clear hb1 hr1
  go_wp2_with fail
  have H4 := H1.setCell (p := ⟨w.heap.size + 1 + 1, 0, none⟩) (by simp; omega) (.slice (some ⟨w.heap.size + 1 + 1 + 1, 0, none⟩) n n)
  have o4 := (Out.refl (w.heap.size + 1 + 1) (w.heap.size + 1 + 1 + 1) w1).set (p := ⟨w.heap.size + 1 + 1, 0, none⟩) (Nat.le_refl _) (by simp) (.slice (some ⟨w.heap.size + 1 + 1 + 1, 0, none⟩) n n)
  have N4 := Lib.hid (N1.out.out o4 (.inr (Nat.le_refl _)))
  have Q04 := Lib.hid (row_set (b := w.heap.size + 1 + 1) Q0.out (by omega) 0 (.slice (some ⟨w.heap.size + 1 + 1 + 1, 0, none⟩) n n))
  have Q14 := Lib.hid (row_set (b := w.heap.size + 1 + 1) Q1.out (by omega) 0 (.slice (some ⟨w.heap.size + 1 + 1 + 1, 0, none⟩) n n))
  have Q24 := Lib.hid (three_set0 Q2.out (.slice (some ⟨w.heap.size + 1 + 1 + 1, 0, none⟩) n n))
  clear o4 a1 a2 b0 b1 b2 bf0 bf1 bf2
  refine (toInt64S_R _ _ _ _ _ ((h2.below H4).more H4.size) hm).mono ?_
  rintro e2 w2 ⟨rfl, hr2, hb2⟩
  have z2 := hb2.size
  rw [World.size_setCell] at z2 hr2
  have H5 := H4.trans (hb2.mono H4.size)
  have N5 := Lib.hid (N4.out.below hb2)
  have Q05 := Lib.hid (rowIs_below Q04.out hb2 Q04.out.lt)
  have Q15 := Lib.hid (rowIs_below Q14.out hb2 Q14.out.lt)
  have Q25 := Lib.hid (rowIs_below Q24.out hb2 Q24.out.lt)
  have NB := Lib.hid hr2
  obtain ⟨_, a1, a2⟩ := three_cells Q05.out
  obtain ⟨b0, b1, b2⟩ := three_cells Q25.out
  obtain ⟨bf0, bf1, bf2⟩ := three_frozen Q25.out
  clear hb2 hr2
  go_wp2_with fail
  have H6 := H5.setCell (p := ⟨w.heap.size + 1 + 1, 1, none⟩) (by simp; omega) (.slice (some ⟨w1.heap.size, 0, none⟩) m m)
  have o6 := (Out.refl (w.heap.size + 1 + 1) (w.heap.size + 1 + 1 + 1) w2).set (p := ⟨w.heap.size + 1 + 1, 1, none⟩) (Nat.le_refl _) (by simp) (.slice (some ⟨w1.heap.size, 0, none⟩) m m)
  have N6 := Lib.hid (N5.out.out o6 (.inr (Nat.le_refl _)))
  have NB6 := Lib.hid (NB.out.out o6 (.inr (by omega)))
  have Q06 := Lib.hid (row_set (b := w.heap.size + 1 + 1) Q05.out (by omega) 1 (.slice (some ⟨w1.heap.size, 0, none⟩) m m))
  have Q16 := Lib.hid (row_set (b := w.heap.size + 1 + 1) Q15.out (by omega) 1 (.slice (some ⟨w1.heap.size, 0, none⟩) m m))
  have Q26 := Lib.hid (three_set1 Q25.out (.slice (some ⟨w1.heap.size, 0, none⟩) m m))
  clear o6 a1 a2 b0 b1 b2 bf0 bf1 bf2
  refine (toInt64S_R _ _ _ _ _ ((h3.below H6).more H6.size) hp).mono ?_
  rintro e3 w3 ⟨rfl, hr3, hb3⟩
  have z3 := hb3.size
  rw [World.size_setCell] at z3 hr3
  have H7 := H6.trans (hb3.mono H6.size)
  have N7 := Lib.hid (N6.out.below hb3)
  have NB7 := Lib.hid (NB6.out.below hb3)
  have Q17 := Lib.hid (rowIs_below Q16.out hb3 Q16.out.lt)
  have Q27 := Lib.hid (rowIs_below Q26.out hb3 Q26.out.lt)
  have NC := Lib.hid hr3
  obtain ⟨a0, a1, a2⟩ := three_cells Q17.out
  obtain ⟨af0, af1, af2⟩ := three_frozen Q17.out
  obtain ⟨b0, b1, b2⟩ := three_cells Q27.out
  obtain ⟨bf0, bf1, bf2⟩ := three_frozen Q27.out
  clear hb3 hr3
  go_wp2_with fail
  have o8 := ((((Out.refl (w.heap.size + 1) (w.heap.size + 1 + 1 + 1) w3).set (p := ⟨w.heap.size + 1 + 1, 2, none⟩) (by simp) (by simp) (.slice (some ⟨w2.heap.size, 0, none⟩) p p)).set (p := ⟨w.heap.size + 1, 0, none⟩) (by simp) (by first | (simp; done) | (simp; omega)) (.slice (some ⟨w.heap.size + 1 + 1 + 1, 0, none⟩) n n)).set (p := ⟨w.heap.size + 1, 1, none⟩) (by simp) (by first | (simp; done) | (simp; omega)) (.slice (some ⟨w1.heap.size, 0, none⟩) m m)).set (p := ⟨w.heap.size + 1, 2, none⟩) (by simp) (by first | (simp; done) | (simp; omega)) (.slice (some ⟨w2.heap.size, 0, none⟩) p p)
  obtain ⟨p0, p1, p2⟩ := three_cells (three_set2 (three_set1 (three_set0 (row_set (b := w.heap.size + 1 + 1) Q17.out (by omega) 2 (.slice (some ⟨w2.heap.size, 0, none⟩) p p)) (.slice (some ⟨w.heap.size + 1 + 1 + 1, 0, none⟩) n n)) (.slice (some ⟨w1.heap.size, 0, none⟩) m m)) (.slice (some ⟨w2.heap.size, 0, none⟩) p p))
  refine bodyPost_ret (v := mmV (some ⟨w.heap.size + 1 + 1 + 1, 0, none⟩) n n (some ⟨w1.heap.size, 0, none⟩) m m (some ⟨w2.heap.size, 0, none⟩) p p) (by simp [results, Try.results25, go_sem, p0, p1, p2]) rfl ⟨_, _, _, w1.heap.size, w2.heap.size, rfl, (N7.out.out o8 (.inr (by omega))).wide (by omega) (Nat.le_refl _), NB7.out.out o8 (.inr (by omega)), ?_, by omega, by omega, by simpa using z3, Out.below H7 o8 (by omega)⟩
  have := NC.out.out o8 (.inr (by omega))
  simpa using this
set_option maxHeartbeats 800000 in
theorem eqMatchModel_same (M K : Mm) (w : World) (h : M.at w w.heap.size) (k : K.at w w.heap.size) (e1 : K.n = M.n) (e2 : K.m = M.m) (e3 : K.p = M.p) (f1 : K.xs = M.xs) (f2 : K.ys = M.ys) (f3 : K.zs = M.zs) (hs : M.sz) :
    Calls Try.prog 28 #[M.V, K.V] w fun e w' => e = .returned (.bool true) ∧ Below w.heap.size w w' := by
  obtain ⟨a, n, c, b, m, d, e, p, f, xs, ys, zs⟩ := M
  obtain ⟨a', n', c', b', m', d', e', p', f', xs', ys', zs'⟩ := K
  simp only at e1 e2 e3 f1 f2 f3
  subst e1 e2 e3 f1 f2 f3
  obtain ⟨h1, h2, h3⟩ := h
  obtain ⟨k1, k2, k3⟩ := k
  simp only [Mm.sz] at h1 h2 h3 k1 k2 k3 hs
  have HB0 := ((Below.refl w.heap.size w).alloc (Nat.le_refl _) (.cells #[.slice a n' c, .slice b m' d, .slice e p' f] 26)).alloc (by simp) (.cells #[.slice a' n' c', .slice b' m' d', .slice e' p' f'] 26)
  have r1 := (three_new w (.slice a n' c) (.slice b m' d) (.slice e p' f) 26).alloc (.cells #[.slice a' n' c', .slice b' m' d', .slice e' p' f'] 26)
  have r2 := three_new (w.alloc (.cells #[.slice a n' c, .slice b m' d, .slice e p' f] 26)) (.slice a' n' c') (.slice b' m' d') (.slice e' p' f') 26
  simp only [World.size_alloc] at r2
  have R1 := Lib.hid r1
  have R2 := Lib.hid r2
  clear r1 r2
  go_enter Try.func28, Try.ntmps28
  go_wp2_with fail
  refine (eqInt64S_b _ _ _ _ _ _ _ _ _ (h1.below HB0) (k1.below HB0) (by omega)).mono ?_
  rintro e1 w1 ⟨rfl, hb1⟩
  have HB1 := HB0.trans (hb1.mono HB0.size)
  have Q1 := Lib.hid (rowIs_below R1.out hb1 R1.out.lt)
  have Q2 := Lib.hid (rowIs_below R2.out hb1 R2.out.lt)
  obtain ⟨_, u1, u2⟩ := three_cells Q1.out
  obtain ⟨_, v1, v2⟩ := three_cells Q2.out
  clear hb1
  go_wp2_with fail
  refine (eqInt64S_b _ _ _ _ _ _ _ _ _ (h2.below HB1) (k2.below HB1) (by omega)).mono ?_
  rintro e2 w2 ⟨rfl, hb2⟩
  have HB2 := HB1.trans (hb2.mono HB1.size)
  obtain ⟨_, _, u2⟩ := three_cells (rowIs_below Q1.out hb2 Q1.out.lt)
  obtain ⟨_, _, v2⟩ := three_cells (rowIs_below Q2.out hb2 Q2.out.lt)
  clear hb2 u1 v1
  go_wp2_with fail
  refine (eqInt64S_b _ _ _ _ _ _ _ _ _ (h3.below HB2) (k3.below HB2) (by omega)).mono ?_
  rintro e3 w3 ⟨rfl, hb3⟩
  go_wp2_with fail
  go_ret
  exact ⟨rfl, HB2.trans (hb3.mono HB2.size)⟩
end Go.Proofs.Ytkioliioakmepaa
