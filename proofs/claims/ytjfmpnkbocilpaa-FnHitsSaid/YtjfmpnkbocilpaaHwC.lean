/-
  Copies of boards: cloneBoard of the program, l02Own of the reference.
-/
import Derived.Test.YtjfmpnkbocilpaaHwO
import Derived.Test.YtjfmpnkbocilpaaClone
import Derived.Test.YtjfmpnkbocilpaaDrK
import Derived.Deep.RegionHeld3
namespace Go.Proofs.Ytjfmpnkbocilpaa
open Go.ChangeShapes Go.WideShapes Go.ChangeAt Go.RowKit
set_option linter.unusedVariables false

/-- a board in own memory: two blocks of their own, from block lo on -/
structure Bd2 (w : World) (lo gA gB n m : Nat) (xs ys : List Int) : Prop where
  a : RowN w gA (gA + 1) 2 (some ⟨gA, 0, none⟩) n (icell .i64 xs)
  b : RowN w gB (gB + 1) 2 (some ⟨gB, 0, none⟩) m (icell .i64 ys)
  ga : lo ≤ gA
  gb : lo ≤ gB
  ne : gA ≠ gB
def BdPost (n : Nat) (xs : List Int) (m : Nat) (ys : List Int) (w : World) (e : Ending) (w' : World) : Prop :=
  ∃ gA c gB d, e = .returned (bdV (some ⟨gA, 0, none⟩) n c (some ⟨gB, 0, none⟩) m d) ∧ Bd2 w' w.heap.size gA gB n m xs ys ∧ Below w.heap.size w w'
theorem rown_one {w : World} {lo hi m : Nat} {t : TypeId} {a : Option Addr} {f : Nat → Value} (h : RowN w lo hi t a m f) (h0 : 0 < m) : ∃ g, a = some ⟨g, 0, none⟩ ∧ lo ≤ g ∧ g < hi ∧ g < w.heap.size ∧ RowN w g (g + 1) t (some ⟨g, 0, none⟩) m f := by
  rcases h with h | ⟨g, rfl, h1, h2, N, F, h3, h4, h5⟩
  · omega
  · exact ⟨g, rfl, h1, h2, h4.lt, .inr ⟨g, rfl, Nat.le_refl _, Nat.lt_succ_self _, N, F, h3, h4, h5⟩⟩
theorem rown_ne {w : World} {lo hi m b i : Nat} {t : TypeId} {a : Option Addr} {f : Nat → Value} (h : RowN w lo hi t a m f) (hb : b < lo ∨ hi ≤ b) (u : Value) : RowN (w.setCell ⟨b, i, none⟩ u) lo hi t a m f := h.out ((Out.refl b (b + 1) w).set (p := ⟨b, i, none⟩) (Nat.le_refl _) (Nat.lt_succ_self _) u) (by omega)
theorem rown_lt {w : World} {m g : Nat} {t : TypeId} {f : Nat → Value} (h : RowN w g (g + 1) t (some ⟨g, 0, none⟩) m f) (h0 : 0 < m) : g < w.heap.size := by
  obtain ⟨g', e, _, _, h, _⟩ := h.blk h0
  injection e with e
  injection e with e
  rw [e]; exact h

set_option maxHeartbeats 1600000 in
theorem cloneBoard_any (a : Option Addr) (n c : Nat) (xs : List Int) (b : Option Addr) (m d : Nat) (ys : List Int) (w : World) (h1 : Ints w w.heap.size .i64 a n xs) (h2 : Ints w w.heap.size .i64 b m ys) (hn0 : 0 < n) (hm0 : 0 < m) (hn : n ≤ 1048576) (hm : m ≤ 1048576) :
    Calls Try.prog 45 #[bdV a n c b m d] w fun e w' => BdPost n xs m ys w e w' := by
  have hb0 := (((Below.refl w.heap.size w).alloc (Nat.le_refl _) (.cells #[.slice a n c, .slice b m d] 32)).alloc (by simp) (.cells #[.slice none 0 0, .slice none 0 0] 32))
  have ha : a = none → c = 0 := fun e => by obtain ⟨_, _, e', _⟩ := h1.2 hn0; rw [e'] at e; cases e
  have hb : b = none → d = 0 := fun e => by obtain ⟨_, _, e', _⟩ := h2.2 hm0; rw [e'] at e; cases e
  have HA := Lib.hid ha
  have HBn := Lib.hid hb
  have R0 := Lib.hid ((pr_new w (.slice a n c) (.slice b m d) 32).alloc (.cells #[.slice none 0 0, .slice none 0 0] 32))
  have Q0 := Lib.hid (pr_new (w.alloc (.cells #[.slice a n c, .slice b m d] 32)) (.slice none 0 0) (.slice none 0 0) 32)
  rw [World.size_alloc] at Q0
  obtain ⟨W0, hW0⟩ : ∃ W, (w.alloc (.cells #[.slice a n c, .slice b m d] 32)).alloc (.cells #[.slice none 0 0, .slice none 0 0] 32) = W := ⟨_, rfl⟩
  have zW : w.heap.size + 1 < W0.heap.size := by rw [← hW0]; simp
  rw [hW0] at R0 Q0 hb0
  have B0 := Lib.hid (show Below w.heap.size w W0.drew from below_drewN hb0 1)
  have R0d := Lib.hid (show W0.drew.rowIs w.heap.size 32 2 (pr (.slice a n c) (.slice b m d)) from R0.out)
  have Q0d := Lib.hid (show W0.drew.rowIs (w.heap.size + 1) 32 2 (pr (.slice none 0 0) (.slice none 0 0)) from Q0.out)
  have I1 := Lib.hid (show Ints W0.drew W0.drew.heap.size .i64 a n xs from (h1.below hb0).more hb0.size)
  have I2 := Lib.hid (show Ints W0.drew W0.drew.heap.size .i64 b m ys from (h2.below hb0).more hb0.size)
  have HW0 := Lib.hid hW0
  clear hW0
  have n1 : w.heap.size ≠ w.heap.size + 1 := by omega
  clear ha hb h1 h2 hb0
  obtain ⟨v0, v1⟩ := pr_cells R0.out
  obtain ⟨w0, w1⟩ := pr_cells Q0.out
  go_enter Try.func45, Try.ntmps45
  go_wp2_with fail
  rw [HW0.out]
  go_region_held3 (fun w' => w'.cell? ⟨w.heap.size, 0, none⟩ = some (.slice a n c) ∧ w'.cell? ⟨w.heap.size, 1, none⟩ = some (.slice b m d))
    (first | (with_reducible exact K2.out _ _) | go_keep)
    (first
      | (go_at_call 61; (with_reducible refine (clone_any a n c xs W0.drew I1.out HA.out hn).mono ?_); rintro e w3 ⟨A, c3, rfl, _, hr, hb⟩; have R3 := Lib.hid (rowIs_below R0d.out hb R0d.out.lt); have Q3 := Lib.hid (rowIs_below Q0d.out hb Q0d.out.lt); have J2 := Lib.hid ((I2.out.below hb).more hb.size); have B3 := Lib.hid (B0.out.trans (hb.mono B0.out.size)); have A3 := Lib.hid hr; have z3 := hb.size; obtain ⟨y0, y1⟩ := pr_cells R3.out; clear hb hr)
      | (go_at_call 61; (with_reducible refine (clone_any b m d ys w3 J2.out HBn.out hm).mono ?_); rintro e w4 ⟨B, c4, rfl, _, hr, hb⟩; have R4 := Lib.hid (rowIs_below R3.out hb R3.out.lt); have Q4 := Lib.hid (rowIs_below Q3.out hb Q3.out.lt); have A4 := Lib.hid (A3.out.below hb); have C4 := Lib.hid hr; have B4 := Lib.hid (B3.out.trans (hb.mono B3.out.size)); have z4 := hb.size; have lq := Q4.out.lt; obtain ⟨x0, x1⟩ := pr_cells R4.out; obtain ⟨q0, q1⟩ := pr_cells Q4.out; obtain ⟨f0, f1⟩ : w4.frozen? ⟨w.heap.size + 1, 0, none⟩ = false ∧ w4.frozen? ⟨w.heap.size + 1, 1, none⟩ = false := ⟨Q4.out.frozen 0, Q4.out.frozen 1⟩; have K2 := Lib.hid (fun u0 u1 => pr_cells ((R4.out.setOther (a := ⟨w.heap.size + 1, 0, none⟩) n1 u0).setOther (a := ⟨w.heap.size + 1, 1, none⟩) n1 u1)); clear hb hr))
  all_goals
    go_wp2
    obtain ⟨p0, p1⟩ := pr_cells (pr_set Q4.out (.slice A n c3) (.slice B m c4))
    obtain ⟨gA, rfl, a1, a2, a3, hA⟩ := rown_one A4.out hn0
    obtain ⟨gB, rfl, b1, b2, b3, hB⟩ := rown_one C4.out hm0
    simp only [World.size_drew] at a1 z3
    refine bodyPost_ret (v := bdV (some ⟨gA, 0, none⟩) n c3 (some ⟨gB, 0, none⟩) m c4) (by simp [results, Try.results45, go_sem, p0, p1]) rfl ⟨gA, c3, gB, c4, rfl, ⟨?_, ?_, by omega, by omega, by omega⟩, ?_⟩
    · exact rown_ne (rown_ne hA (by omega) _) (by omega) _
    · exact rown_ne (rown_ne hB (by omega) _) (by omega) _
    · exact (B4.out.setCell (by show w.heap.size ≤ w.heap.size + 1; omega) _).setCell (by show w.heap.size ≤ w.heap.size + 1; omega) _
set_option maxHeartbeats 800000 in
theorem l02Own_any (a : Option Addr) (n c : Nat) (xs : List Int) (w : World) (h : Ints w w.heap.size .i64 a n xs) (hn0 : 0 < n) (hn : n ≤ 1048576) :
    Calls Try.prog 56 #[.slice a n c] w fun e w' => ClPost n xs w e w' := by
  obtain ⟨b, off, rfl, hb, hc0⟩ := h.2 hn0
  have HG := Lib.hid (Grows.new w w.heap.size (Nat.le_refl _))
  have HB := Lib.hid ((Below.refl w.heap.size w).alloc (Nat.le_refl _) (.cells #[] 2))
  have HL := Lib.hid h.len
  have HC : Hid (∀ i, i < n → (w.alloc (.cells #[] 2)).cell? ((⟨b, off, none⟩ : Addr).add i) = some (.int .i64 (xs.getD i 0))) := Lib.hid (fun i hi => by
    have e : (⟨b, off, none⟩ : Addr).add i = ⟨b, off + i, none⟩ := by by_cases h0 : i = 0 <;> simp [Addr.add, h0]
    rw [e]
    exact (HB.out.cell (p := ⟨b, off + i, none⟩) hb).trans (hc0 i hi))
  clear h hc0
  go_enter Try.func56, Try.ntmps56
  go_wp2_with (first | (at_builtin; refine app_grows rfl (.tmp 3) (.tmp 4) rfl rfl HG.out ⟨b, off, none⟩ xs n c rfl HL.out.symm HC.out (by simp; omega) (by simp) ?_; intro v5 w5 hg5 hb5))
  rw [List.nil_append] at hg5
  obtain ⟨A, C, hv, hC, hr⟩ := hg5.out
  subst hv
  go_wp2_with fail
  go_ret
  rw [HL.out] at hC hr ⊢
  exact ⟨A, C, rfl, hC, hr, HB.out.trans hb5⟩
end Go.Proofs.Ytjfmpnkbocilpaa
