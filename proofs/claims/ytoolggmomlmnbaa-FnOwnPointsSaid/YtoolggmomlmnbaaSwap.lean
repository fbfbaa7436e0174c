/-
  impl.SwapBoard: the other player's board, in memory of its own; boards and their exchanged ones.
-/
import Derived.Test.YtoolggmomlmnbaaFeatG
import Derived.Test.YtoolggmomlmnbaaClone
import Derived.Test.YtoolggmomlmnbaaDrX
import Derived.Deep.RegionHeld3
namespace Go.Proofs.Ytoolggmomlmnbaa
open Go.ChangeShapes Go.WideShapes Go.ChangeAt Go.RowKit
set_option linter.unusedVariables false

theorem apart_all {p : Nat} {xs ys : List Int} : ∀ {n : Nat}, apart p xs ys n = true ↔ ∀ k, k < n → ¬ (0 < xs.getD k 0 ∧ 0 < ys.getD (p - 1 - k) 0)
  | 0 => ⟨fun _ k hk => absurd hk (by omega), fun _ => rfl⟩
  | n + 1 => by
    have e0 : apart p xs ys (n + 1) = (apart p xs ys n && !(decide (0 < xs.getD n 0) && decide (0 < ys.getD (p - 1 - n) 0))) := rfl
    have e1 : (!(decide (0 < xs.getD n 0) && decide (0 < ys.getD (p - 1 - n) 0))) = true ↔ ¬ (0 < xs.getD n 0 ∧ 0 < ys.getD (p - 1 - n) 0) := by
      generalize xs.getD n 0 = x
      generalize ys.getD (p - 1 - n) 0 = y
      by_cases h1 : 0 < x <;> by_cases h2 : 0 < y <;> simp [h1, h2]
    rw [e0, Bool.and_eq_true, apart_all, e1]
    constructor
    · rintro ⟨h1, h2⟩ k hk
      by_cases e : k = n
      · subst e; exact h2
      · exact h1 k (by omega)
    · intro h
      exact ⟨fun k hk => h k (by omega), h n (by omega)⟩
theorem apart_comm {p : Nat} {xs ys : List Int} (h : apart p xs ys p = true) : apart p ys xs p = true := by
  rw [apart_all] at h ⊢
  intro k hk hc
  refine h (p - 1 - k) (by omega) ⟨hc.2, ?_⟩
  rw [show p - 1 - (p - 1 - k) = k by omega]
  exact hc.1
theorem boardB_comm {p c h s : Int} {n m : Nat} {xs ys : List Int} (hb : boardB p c h s n xs m ys = true) : boardB p c h s m ys n xs = true := by
  simp only [boardB, Bool.and_eq_true] at hb ⊢
  obtain ⟨h1, h2, h3, h4, h5⟩ := hb
  refine ⟨h1, h3, h2, ?_, apart_comm h5⟩
  rw [Bool.and_comm]; exact h4
theorem contB_comm (P n m : Nat) (xs ys : List Int) : contB P m ys n xs = contB P n xs m ys := by
  unfold contB; rw [Int.add_comm]
theorem featL_swap (o q : Int) (X Y : List Int) (c d : Int) (i : Nat) (hi : i < 14) (h2 : i % 2 = 0) : (featL o q X Y c).getD i 0 = (featL q o Y X d).getD (i + 1) 0 ∧ (featL o q X Y c).getD (i + 1) 0 = (featL q o Y X d).getD i 0 := by
  obtain rfl | rfl | rfl | rfl | rfl | rfl | rfl : i = 0 ∨ i = 2 ∨ i = 4 ∨ i = 6 ∨ i = 8 ∨ i = 10 ∨ i = 12 := by omega
  all_goals exact ⟨rfl, rfl⟩
theorem featL_len (o q : Int) (X Y : List Int) (c : Int) : (featL o q X Y c).length = 16 := rfl
theorem featL_last (o q : Int) (X Y : List Int) (c : Int) : (featL o q X Y c).getD 15 0 = c := rfl

def SwPost (n : Nat) (xs : List Int) (m : Nat) (ys : List Int) (w : World) (e : Ending) (w' : World) : Prop :=
  ∃ A c B d, e = .returned (bdV A m c B n d) ∧ Iv w' w.heap.size A m ys ∧ Iv w' w.heap.size B n xs ∧ Below w.heap.size w w'
theorem RowN.ne {w : World} {lo hi m b i : Nat} {t : TypeId} {a : Option Addr} {f : Nat → Value} (h : RowN w lo hi t a m f) (hb : b < lo) (u : Value) : RowN (w.setCell ⟨b, i, none⟩ u) lo hi t a m f := h.out ((Out.refl b (b + 1) w).set (p := ⟨b, i, none⟩) (Nat.le_refl _) (Nat.lt_succ_self _) u) (.inr (by omega))
set_option maxHeartbeats 1600000 in
theorem swapped_any (a : Option Addr) (n c : Nat) (xs : List Int) (b : Option Addr) (m d : Nat) (ys : List Int) (w : World) (h1 : Ints w w.heap.size .i64 a n xs) (h2 : Ints w w.heap.size .i64 b m ys) (hn0 : 0 < n) (hm0 : 0 < m) (hn : n ≤ 1048576) (hm : m ≤ 1048576) :
    Calls Try.prog 60 #[bdV a n c b m d] w fun e w' => SwPost n xs m ys w e w' := by
  have hb0 := (((Below.refl w.heap.size w).alloc (Nat.le_refl _) (.cells #[.slice a n c, .slice b m d] 32)).alloc (by simp) (.cells #[.slice none 0 0, .slice none 0 0] 32))
  have ha : a = none → c = 0 := fun e => by obtain ⟨_, _, e', _⟩ := h1.2 hn0; rw [e'] at e; cases e
  have hb : b = none → d = 0 := fun e => by obtain ⟨_, _, e', _⟩ := h2.2 hm0; rw [e'] at e; cases e
  have HA := Lib.hid ha
  have HBn := Lib.hid hb
  have R0 := Lib.hid ((pr_new w (.slice a n c) (.slice b m d) 32).alloc (.cells #[.slice none 0 0, .slice none 0 0] 32))
  have Q0 := Lib.hid (pr_new (w.alloc (.cells #[.slice a n c, .slice b m d] 32)) (.slice none 0 0) (.slice none 0 0) 32)
  rw [World.size_alloc] at Q0
  obtain ⟨W0, hW0⟩ : ∃ W, (w.alloc (.cells #[.slice a n c, .slice b m d] 32)).alloc (.cells #[.slice none 0 0, .slice none 0 0] 32) = W := ⟨_, rfl⟩
  have zW : w.heap.size + 1 < W0.heap.size := by rw [← hW0]; simp
  rw [hW0] at R0 Q0 hb0
  have B0 := Lib.hid (show Below w.heap.size w W0.drew from below_drewN hb0 1)
  have R0d := Lib.hid (show W0.drew.rowIs w.heap.size 32 2 (pr (.slice a n c) (.slice b m d)) from R0.out)
  have Q0d := Lib.hid (show W0.drew.rowIs (w.heap.size + 1) 32 2 (pr (.slice none 0 0) (.slice none 0 0)) from Q0.out)
  have I1 := Lib.hid (show Ints W0.drew W0.drew.heap.size .i64 a n xs from (h1.below hb0).more hb0.size)
  have I2 := Lib.hid (show Ints W0.drew W0.drew.heap.size .i64 b m ys from (h2.below hb0).more hb0.size)
  have HW0 := Lib.hid hW0
  clear hW0
  have n1 : w.heap.size ≠ w.heap.size + 1 := by omega
  clear ha hb h1 h2 hb0
  obtain ⟨v0, v1⟩ := pr_cells R0.out
  obtain ⟨w0, w1⟩ := pr_cells Q0.out
  go_enter Try.func60, Try.ntmps60
  go_wp2_with fail
  rw [HW0.out]
  go_region_held3 (fun w' => w'.cell? ⟨w.heap.size, 0, none⟩ = some (.slice a n c) ∧ w'.cell? ⟨w.heap.size, 1, none⟩ = some (.slice b m d))
    (first | (with_reducible exact K2.out _ _) | go_keep)
    (first
      | (go_at_call 85; (with_reducible refine (clone_any b m d ys W0.drew I2.out HBn.out hm).mono ?_); rintro e w3 ⟨A, c3, rfl, _, hr, hb⟩; have R3 := Lib.hid (rowIs_below R0d.out hb R0d.out.lt); have Q3 := Lib.hid (rowIs_below Q0d.out hb Q0d.out.lt); have J1 := Lib.hid ((I1.out.below hb).more hb.size); have B3 := Lib.hid (B0.out.trans (hb.mono B0.out.size)); have A3 := Lib.hid hr; have z3 := hb.size; obtain ⟨y0, y1⟩ := pr_cells R3.out; clear hb hr)
      | (go_at_call 85; (with_reducible refine (clone_any a n c xs w3 J1.out HA.out hn).mono ?_); rintro e w4 ⟨B, c4, rfl, _, hr, hb⟩; have R4 := Lib.hid (rowIs_below R3.out hb R3.out.lt); have Q4 := Lib.hid (rowIs_below Q3.out hb Q3.out.lt); have A4 := Lib.hid (A3.out.below hb); have C4 := Lib.hid hr; have B4 := Lib.hid (B3.out.trans (hb.mono B3.out.size)); have z4 := hb.size; have lq := Q4.out.lt; obtain ⟨x0, x1⟩ := pr_cells R4.out; obtain ⟨q0, q1⟩ := pr_cells Q4.out; obtain ⟨f0, f1⟩ : w4.frozen? ⟨w.heap.size + 1, 0, none⟩ = false ∧ w4.frozen? ⟨w.heap.size + 1, 1, none⟩ = false := ⟨Q4.out.frozen 0, Q4.out.frozen 1⟩; have K2 := Lib.hid (fun u0 u1 => pr_cells ((R4.out.setOther (a := ⟨w.heap.size + 1, 0, none⟩) n1 u0).setOther (a := ⟨w.heap.size + 1, 1, none⟩) n1 u1)); clear hb hr))
  all_goals
    go_wp2
    obtain ⟨p0, p1⟩ := pr_cells (pr_set Q4.out (.slice A m c3) (.slice B n c4))
    refine bodyPost_ret (v := bdV A m c3 B n c4) (by simp [results, Try.results60, go_sem, p0, p1]) rfl ⟨A, c3, B, c4, rfl, ?_, ?_, ?_⟩
    · exact (iv_row ((A4.out.ne (i := 0) (b := w.heap.size + 1) zW _).ne (i := 1) (b := w.heap.size + 1) zW _) (by have := I2.out.len; exact this) hm0).lower (by show w.heap.size ≤ W0.heap.size; omega)
    · exact (iv_row ((C4.out.ne (i := 0) (b := w.heap.size + 1) (Nat.lt_of_lt_of_le zW z3) _).ne (i := 1) (b := w.heap.size + 1) (Nat.lt_of_lt_of_le zW z3) _) (by have := I1.out.len; exact this) hn0).lower (by have := z3; show w.heap.size ≤ _; exact Nat.le_trans (Nat.le_of_lt (Nat.lt_trans (Nat.lt_succ_self _) zW)) z3)
    · exact (B4.out.setCell (by show w.heap.size ≤ w.heap.size + 1; omega) _).setCell (by show w.heap.size ≤ w.heap.size + 1; omega) _

set_option maxHeartbeats 1600000 in
theorem impl_SwapBoard_any (p c h s : Int) (a : Option Addr) (n ca : Nat) (xs : List Int) (b : Option Addr) (m cb : Nat) (ys : List Int) (w : World) (h1 : Ints w w.heap.size .i64 a n xs) (h2 : Ints w w.heap.size .i64 b m ys) (hv : boardB p c h s n xs m ys = true) (hn0 : 0 < n) (hm0 : 0 < m) (hn : n ≤ 1048576) (hm : m ≤ 1048576) :
    Calls Try.prog 31 #[vrV p c h s, bdV a n ca b m cb] w fun e w' => SwPost n xs m ys w e w' := by
  have hb0 := ((((Below.refl w.heap.size w).alloc (Nat.le_refl _) (.cells #[.int .i64 p, .int .i64 c, .int .i64 h, .int .i64 s] 30)).alloc (by simp) (.cells #[.slice a n ca, .slice b m cb] 32)).alloc (by simp; omega) (.cells #[.slice none 0 0, .slice none 0 0] 32))
  have V0 := Lib.hid (((vr4_new w (.int .i64 p) (.int .i64 c) (.int .i64 h) (.int .i64 s) 30).alloc (.cells #[.slice a n ca, .slice b m cb] 32)).alloc (.cells #[.slice none 0 0, .slice none 0 0] 32))
  have R0 := Lib.hid ((pr_new (w.alloc (.cells #[.int .i64 p, .int .i64 c, .int .i64 h, .int .i64 s] 30)) (.slice a n ca) (.slice b m cb) 32).alloc (.cells #[.slice none 0 0, .slice none 0 0] 32))
  have Q0 := Lib.hid (pr_new ((w.alloc (.cells #[.int .i64 p, .int .i64 c, .int .i64 h, .int .i64 s] 30)).alloc (.cells #[.slice a n ca, .slice b m cb] 32)) (.slice none 0 0) (.slice none 0 0) 32)
  simp only [World.size_alloc] at R0 Q0
  obtain ⟨W0, hW0⟩ : ∃ W, ((w.alloc (.cells #[.int .i64 p, .int .i64 c, .int .i64 h, .int .i64 s] 30)).alloc (.cells #[.slice a n ca, .slice b m cb] 32)).alloc (.cells #[.slice none 0 0, .slice none 0 0] 32) = W := ⟨_, rfl⟩
  rw [hW0] at V0 R0 Q0 hb0
  have HW0 := Lib.hid hW0
  have I1 := (h1.below hb0).more hb0.size
  have I2 := (h2.below hb0).more hb0.size
  have HV := Lib.hid hv
  clear hW0 h1 h2 hv
  obtain ⟨v0, v1, v2, v3⟩ := vr4_cells V0.out
  obtain ⟨b0, b1⟩ := pr_cells R0.out
  go_enter Try.func31, Try.ntmps31
  go_wp2_with fail
  rw [HW0.out]
  go_wp2_with fail
  refine (impl_IsBoard_any p c h s a n ca xs b m cb ys _ W0 I1 I2 (Nat.le_refl _) hn hm).mono ?_
  rw [HV.out]
  rintro e w1 ⟨rfl, hb⟩
  have R1 := Lib.hid (rowIs_below R0.out hb R0.out.lt)
  have Q1 := Lib.hid (rowIs_below Q0.out hb Q0.out.lt)
  replace I1 := (I1.below hb).more hb.size
  replace I2 := (I2.below hb).more hb.size
  have B1 := Lib.hid (hb0.trans (hb.mono hb0.size))
  clear hb hb0 v0 v1 v2 v3 b0 b1
  obtain ⟨b0, b1⟩ := pr_cells R1.out
  go_wp2_with fail
  refine (swapped_any a n ca xs b m cb ys w1 I1 I2 hn0 hm0 hn hm).mono ?_
  rintro e w2 ⟨A, c3, B, c4, rfl, hA, hB, hb⟩
  have Q2 := Lib.hid (rowIs_below Q1.out hb Q1.out.lt)
  have B2 := Lib.hid (B1.out.trans (hb.mono B1.out.size))
  have z1 : w.heap.size + 1 + 1 < w1.heap.size := Q1.out.lt
  have HA := Lib.hid hA
  have HB := Lib.hid hB
  clear hA hB hb
  obtain ⟨q0, q1⟩ := pr_cells Q2.out
  obtain ⟨f0, f1⟩ := pr_froz Q2.out
  go_wp2
  obtain ⟨p0, p1⟩ := pr_cells (pr_set Q2.out (.slice A m c3) (.slice B n c4))
  have tw := ((Tw.refl (w.heap.size + 1 + 1) (w.heap.size + 1 + 1) w2).set (p := ⟨w.heap.size + 1 + 1, 0, none⟩) (.inl rfl) (.slice A m c3)).set (p := ⟨w.heap.size + 1 + 1, 1, none⟩) (.inl rfl) (.slice B n c4)
  refine bodyPost_ret (v := bdV A m c3 B n c4) (by simp [results, Try.results31, go_sem, p0, p1]) rfl ⟨A, c3, B, c4, rfl, (HA.out.far2 tw (by omega) (by omega)).lower (by omega), (HB.out.far2 tw (by omega) (by omega)).lower (by omega), B2.out.trans (tw.below (by omega) (by omega))⟩
end Go.Proofs.Ytoolggmomlmnbaa
