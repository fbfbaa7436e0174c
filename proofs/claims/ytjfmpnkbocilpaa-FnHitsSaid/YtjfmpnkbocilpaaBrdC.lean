/-
  The walks of the copies, the sizes, the comparisons and the markings of boards.
-/
import Derived.Test.YtjfmpnkbocilpaaBrd
namespace Go.Proofs.Ytjfmpnkbocilpaa
open Go.ChangeShapes Go.WideShapes Go.ChangeAt Go.RowKit Go.Joins Go.Deep

theorem szBoard_no (a : Option Addr) (n c : Nat) (b : Option Addr) (m d : Nat) (w : World) (hn : n ≤ maxLen) (hm : m ≤ maxLen) (hbig : 1048576 < n + m) :
    Calls Try.prog 5 #[bdV a n c b m d, .int .i64 1048576] w fun e w' => e = .returned (.int .i64 (-1)) ∧ Below w.heap.size w w' := by
  have HB0 := (Below.refl w.heap.size w).alloc (Nat.le_refl _) (.cells #[.slice a n c, .slice b m d] 26)
  by_cases h1 : 1048576 < n
  · go_enter Try.func5, Try.ntmps5
    go_wp2_with fail
    refine (szInt64S_no _ _ _ _ _ (by omega) (by omega) hn (by omega)).mono ?_
    rintro e w' ⟨rfl, rfl⟩
    go_wp2_with fail
    go_ret
    exact ⟨rfl, HB0⟩
  · go_enter Try.func5, Try.ntmps5
    go_wp2_with fail
    refine (szInt64S_yes _ _ _ _ _ (by omega) (by omega) (by omega)).mono ?_
    rintro e w' ⟨rfl, rfl⟩
    go_wp2_with fail
    refine (szInt64S_no _ _ _ _ _ (by omega) (by omega) hm (by omega)).mono ?_
    rintro e w' ⟨rfl, rfl⟩
    go_wp2_with fail
    go_ret
    exact ⟨rfl, HB0⟩
theorem szBoard_yes (a : Option Addr) (n c : Nat) (b : Option Addr) (m d : Nat) (w : World) (hs : n + m ≤ 1048576) :
    Calls Try.prog 5 #[bdV a n c b m d, .int .i64 1048576] w fun e w' => e = .returned (.int .i64 (1048576 - n - m)) ∧ Below w.heap.size w w' := by
  have HB0 := (Below.refl w.heap.size w).alloc (Nat.le_refl _) (.cells #[.slice a n c, .slice b m d] 26)
  go_enter Try.func5, Try.ntmps5
  go_wp2_with fail
  refine (szInt64S_yes _ _ _ _ _ (by omega) (by omega) (by omega)).mono ?_
  rintro e w' ⟨rfl, rfl⟩
  go_wp2_with fail
  refine (szInt64S_yes _ _ _ _ _ (by omega) (by omega) (by omega)).mono ?_
  rintro e w' ⟨rfl, rfl⟩
  go_wp2_with fail
  go_ret
  exact ⟨rfl, HB0⟩

def ToBd (n : Nat) (xs : List Int) (m : Nat) (ys : List Int) (w : World) (e : Ending) (w' : World) : Prop :=
  ∃ g g' k, e = .returned (bdV (some ⟨g, 0, none⟩) n n (some ⟨g', 0, none⟩) m m) ∧ RowN w' w.heap.size k 2 (some ⟨g, 0, none⟩) n (icell .i64 xs) ∧ RowN w' k w'.heap.size 2 (some ⟨g', 0, none⟩) m (icell .i64 ys) ∧ w.heap.size ≤ k ∧ k ≤ w'.heap.size ∧ Below w.heap.size w w'
set_option maxHeartbeats 1600000 in
theorem toBoard_any (a : Option Addr) (n c : Nat) (xs : List Int) (b : Option Addr) (m d : Nat) (ys : List Int) (w : World) (h1 : Ints w w.heap.size .i64 a n xs) (h2 : Ints w w.heap.size .i64 b m ys) (hn : n ≤ 1048576) (hm : m ≤ 1048576) :
    Calls Try.prog 8 #[bdV a n c b m d] w fun e w' => ToBd n xs m ys w e w' := by
  have HA := (Below.refl w.heap.size w).alloc (Nat.le_refl _) (.cells #[.slice a n c, .slice b m d] 26)
  have HA2 := HA.alloc (by simp) (.cells #[.slice none 0 0, .slice none 0 0] 32)
  have HA3 := HA2.alloc (by simp; omega) (.cells #[.slice none 0 0, .slice none 0 0] 32)
  have r0 := ((pr_new w (.slice a n c) (.slice b m d) 26).alloc (.cells #[.slice none 0 0, .slice none 0 0] 32)).alloc (.cells #[.slice none 0 0, .slice none 0 0] 32)
  have r1 := (pr_new (w.alloc (.cells #[.slice a n c, .slice b m d] 26)) (.slice none 0 0) (.slice none 0 0) 32).alloc (.cells #[.slice none 0 0, .slice none 0 0] 32)
  have r2 := pr_new ((w.alloc (.cells #[.slice a n c, .slice b m d] 26)).alloc (.cells #[.slice none 0 0, .slice none 0 0] 32)) (.slice none 0 0) (.slice none 0 0) 32
  simp only [World.size_alloc] at r1 r2
  have R0 := Lib.hid r0
  have R1 := Lib.hid r1
  have R2 := Lib.hid r2
  clear r0 r1 r2 HA HA2
  go_enter Try.func8, Try.ntmps8
  go_wp2_with fail
  refine (toInt64S_R _ _ _ _ _ ((h1.below HA3).more HA3.size) hn).mono ?_
  rintro e w1 ⟨rfl, hr1, hb1⟩
  have hz1 := hb1.size
  simp only [World.size_alloc] at hz1 hr1
  have H1 := HA3.trans (hb1.mono HA3.size)
  have q0 := rowIs_below R0.out hb1 R0.out.lt
  have q1 := rowIs_below R1.out hb1 R1.out.lt
  have q2 := rowIs_below R2.out hb1 R2.out.lt
  obtain ⟨_, a3⟩ := pr_cells q0
  obtain ⟨b2, b3⟩ := pr_cells q2
  have bf := q2.frozen 0
  have hzz : w.heap.size + 1 + 1 < w1.heap.size := by omega
  go_wp2_with fail
  have H4 := H1.setCell (p := ⟨w.heap.size + 1 + 1, 0, none⟩) (by simp; omega) (.slice (some ⟨w.heap.size + 1 + 1 + 1, 0, none⟩) n n)
  have ho4 := (Out.refl (w.heap.size + 1 + 1) (w.heap.size + 1 + 1 + 1) w1).set (p := ⟨w.heap.size + 1 + 1, 0, none⟩) (Nat.le_refl _) (by simp) (.slice (some ⟨w.heap.size + 1 + 1 + 1, 0, none⟩) n n)
  have hr4 := hr1.out ho4 (.inr (Nat.le_refl _))
  have q04 := q0.setOther (a := ⟨w.heap.size + 1 + 1, 0, none⟩) (by simp; omega) (.slice (some ⟨w.heap.size + 1 + 1 + 1, 0, none⟩) n n)
  have q14 := q1.setOther (a := ⟨w.heap.size + 1 + 1, 0, none⟩) (by simp) (.slice (some ⟨w.heap.size + 1 + 1 + 1, 0, none⟩) n n)
  have q24 := q2.set 0 (.slice (some ⟨w.heap.size + 1 + 1 + 1, 0, none⟩) n n)
  have Q4 := Lib.hid (And.intro hr4 (And.intro q14 q24))
  clear q0 q1 q2 hr1 ho4 hr4 q04 q14 q24 a3 b2 b3 bf
  refine (toInt64S_R _ _ _ _ _ ((h2.below H4).more H4.size) hm).mono ?_
  rintro e w2 ⟨rfl, hr5, hb5⟩
  have H5 := H4.trans (hb5.mono H4.size)
  obtain ⟨hr4, q14, q24⟩ := Q4.out
  have hr4' := hr4.below hb5
  have q15 := rowIs_below q14 hb5 q14.lt
  have q25 := rowIs_below q24 hb5 q24.lt
  have hz5 := hb5.size
  rw [World.size_setCell] at hr5 hz5
  have b0 := q25.cell (i := 0) (by omega)
  have b1 := q25.cell (i := 1) (by omega)
  have bf := q25.frozen 1
  obtain ⟨d0, d1⟩ := pr_cells q15
  have f0 := q15.frozen 0
  have f1 := q15.frozen 1
  simp [pr] at b0 b1
  have HQ := Lib.hid (And.intro hr4' (And.intro q15 (And.intro hr5 hz5)))
  clear hr4 q14 q24 hr4' q15 q25 hr5 hz5 hb5
  go_wp2_with fail
  obtain ⟨hr4, q15, hr5, hz5⟩ := HQ.out
  obtain ⟨p0, p1⟩ := pr_cells (pr_set (q15.setOther (a := ⟨w.heap.size + 1 + 1, 1, none⟩) (by simp) (.slice (some ⟨w1.heap.size, 0, none⟩) m m)) (.slice (some ⟨w.heap.size + 1 + 1 + 1, 0, none⟩) n n) (.slice (some ⟨w1.heap.size, 0, none⟩) m m))
  have ho := (((Out.refl (w.heap.size + 1) (w.heap.size + 1 + 1 + 1) w2).set (p := ⟨w.heap.size + 1 + 1, 1, none⟩) (by simp) (by first | (simp; done) | (simp; omega)) (.slice (some ⟨w1.heap.size, 0, none⟩) m m)).set (p := ⟨w.heap.size + 1, 0, none⟩) (by simp) (by first | omega | (simp; done) | (simp; omega)) (.slice (some ⟨w.heap.size + 1 + 1 + 1, 0, none⟩) n n)).set (p := ⟨w.heap.size + 1, 1, none⟩) (by simp) (by first | omega | (simp; done) | (simp; omega)) (.slice (some ⟨w1.heap.size, 0, none⟩) m m)
  refine bodyPost_ret (v := bdV (some ⟨w.heap.size + 1 + 1 + 1, 0, none⟩) n n (some ⟨w1.heap.size, 0, none⟩) m m) (by simp [results, Try.results8, go_sem, p0, p1]) rfl ⟨_, _, w1.heap.size, rfl, (hr4.out ho (.inr (Nat.le_refl _))).wide (by omega) (Nat.le_refl _), ?_, by omega, by simpa using hz5, Out.below H5 ho (by omega)⟩
  have := hr5.out ho (.inr (by omega))
  simpa using this

set_option maxHeartbeats 800000 in
theorem eqBoard_same (a a' : Option Addr) (n c c' : Nat) (xs : List Int) (b b' : Option Addr) (m d d' : Nat) (ys : List Int) (w : World) (h1 : Ints w w.heap.size .i64 a n xs) (h1' : Ints w w.heap.size .i64 a' n xs) (h2 : Ints w w.heap.size .i64 b m ys) (h2' : Ints w w.heap.size .i64 b' m ys) (hn : n ≤ 1048576) (hm : m ≤ 1048576) :
    Calls Try.prog 10 #[bdV a n c b m d, bdV a' n c' b' m d'] w fun e w' => e = .returned (.bool true) ∧ Below w.heap.size w w' := by
  have HB0 := ((Below.refl w.heap.size w).alloc (Nat.le_refl _) (.cells #[.slice a n c, .slice b m d] 32)).alloc (by simp) (.cells #[.slice a' n c', .slice b' m d'] 32)
  have r1 := (pr_new w (.slice a n c) (.slice b m d) 32).alloc (.cells #[.slice a' n c', .slice b' m d'] 32)
  have r2 := pr_new (w.alloc (.cells #[.slice a n c, .slice b m d] 32)) (.slice a' n c') (.slice b' m d') 32
  simp only [World.size_alloc] at r2
  have R1 := Lib.hid r1
  have R2 := Lib.hid r2
  clear r1 r2
  go_enter Try.func10, Try.ntmps10
  go_wp2_with fail
  refine (eqInt64S_b _ _ _ _ _ _ _ _ _ (h1.below HB0) (h1'.below HB0) hn).mono ?_
  rintro e w1 ⟨rfl, hb1⟩
  have HB1 := HB0.trans (hb1.mono HB0.size)
  obtain ⟨u2, u3⟩ := pr_cells (rowIs_below R1.out hb1 R1.out.lt)
  obtain ⟨v2, v3⟩ := pr_cells (rowIs_below R2.out hb1 R2.out.lt)
  go_wp2_with fail
  refine (eqInt64S_b _ _ _ _ _ _ _ _ _ (h2.below HB1) (h2'.below HB1) hm).mono ?_
  rintro e w2 ⟨rfl, hb2⟩
  go_wp2_with fail
  go_ret
  exact ⟨rfl, HB1.trans (hb2.mono HB1.size)⟩
end Go.Proofs.Ytjfmpnkbocilpaa
