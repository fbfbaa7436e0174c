/-
  A network that a call has made: marked, and read again.
-/
import Derived.Test.YtcpbaigghhjceaaSd
namespace Go.Proofs.Ytcpbaigghhjceaa
open Go.ChangeShapes Go.WideShapes Go.ChangeAt Go.RowKit Go.Joins Go.Deep

/-- Only blocks of two ranges, and new ones, have turned. -/
structure Out2 (l1 u1 l2 u2 : Nat) (w w' : World) : Prop where
  os : w'.os = w.os
  tape : w'.tape = w.tape
  output : w'.output = w.output
  size : w.heap.size ≤ w'.heap.size
  block : ∀ i, i < w.heap.size → (i < l1 ∨ u1 ≤ i) → (i < l2 ∨ u2 ≤ i) → w'.heap[i]? = w.heap[i]?
section
variable {w w' wa wb : World} {l1 u1 l2 u2 : Nat}
theorem Out2.mk3 (h : Below w.heap.size w wa) (k : Out l1 u1 wa wb) (k' : Out l2 u2 wb w') : Out2 l1 u1 l2 u2 w w' :=
  ⟨k'.os.trans (k.os.trans h.os), k'.tape.trans (k.tape.trans h.tape), k'.output.trans (k.output.trans h.output), Nat.le_trans h.size (Nat.le_trans k.size k'.size),
    fun i hi h1 h2 => ((k'.block i (Nat.lt_of_lt_of_le hi (Nat.le_trans h.size k.size)) h2).trans (k.block i (Nat.lt_of_lt_of_le hi h.size) h1)).trans (h.block i hi)⟩
theorem Out2.row {b t n : Nat} {f : Nat → Value} (h : w.rowIs b t n f) (k : Out2 l1 u1 l2 u2 w w') (h1 : b < l1 ∨ u1 ≤ b) (h2 : b < l2 ∨ u2 ≤ b) : w'.rowIs b t n f := h.of_block (k.block b h.lt h1 h2)
theorem Out2.rowN {lo hi t m : Nat} {a : Option Addr} {f : Nat → Value} (h : RowN w lo hi t a m f) (k : Out2 l1 u1 l2 u2 w w') (h1 : hi ≤ l1 ∨ u1 ≤ lo) (h2 : hi ≤ l2 ∨ u2 ≤ lo) : RowN w' lo hi t a m f := by
  rcases h with h | ⟨g, e1, e2, e3, N, F, e4, e5, e6⟩
  · exact .inl h
  · exact .inr ⟨g, e1, e2, e3, N, F, e4, e5.of_block (k.block g e5.lt (by omega) (by omega)), e6⟩
theorem Out2.ints {B n : Nat} {k : IntKind} {a : Option Addr} {xs : List Int} (h : Ints w B k a n xs) (ko : Out2 l1 u1 l2 u2 w w') (h1 : B ≤ l1) (h2 : B ≤ l2) (hz : B ≤ w.heap.size) : Ints w' B k a n xs :=
  h.keep fun p hp => World.cell?_of_block (w := w) (ko.block p.block (by omega) (.inl (by omega)) (.inl (by omega)))
theorem Out2.below {w0 : World} (h : Below w0.heap.size w0 w) (k : Out2 l1 u1 l2 u2 w w') (h1 : w0.heap.size ≤ l1) (h2 : w0.heap.size ≤ l2) : Below w0.heap.size w0 w' :=
  ⟨k.os.trans h.os, k.tape.trans h.tape, k.output.trans h.output, Nat.le_trans h.size k.size, fun i hi => (k.block i (Nat.lt_of_lt_of_le hi h.size) (by omega) (by omega)).trans (h.block i hi)⟩
end

set_option maxHeartbeats 800000 in
theorem markNetwork_any (i h : Int) (a : Option Addr) (n c : Nat) (b : Option Addr) (m d : Nat) (l1 u1 l2 u2 : Nat) (t : TypeId) (f f' : Nat → Value) (k : Int) (w : World) (h1 : RowN w l1 u1 t a n f) (h2 : RowN w l2 u2 t b m f') (hd : u1 ≤ l2 ∨ u2 ≤ l1) (hu1 : u1 ≤ w.heap.size) (hk : 0 ≤ k) (hk2 : k ≤ 1099500000000) (hn : n ≤ 1048576) (hm : m ≤ 1048576) :
    Calls Try.prog 17 #[netV i h a n c b m d, .int .i64 k] w fun e w' => e = .returned (.int .i64 (k + n + m)) ∧ RowN w' l1 u1 t a n (marks k) ∧ RowN w' l2 u2 t b m (marks (k + n)) ∧ Out2 l1 u1 l2 u2 w w' := by
  have HB0 := (Below.refl w.heap.size w).alloc (Nat.le_refl _) (.cells #[.int .i64 i, .int .i64 h, .slice a n c, .slice b m d] 27)
  have R0 := Lib.hid (four_new w (.int .i64 i) (.int .i64 h) (.slice a n c) (.slice b m d) 27)
  have H1 := Lib.hid (h1.below HB0)
  have H2 := Lib.hid (h2.below HB0)
  clear h1 h2
  go_enter Try.func17, Try.ntmps17
  go_wp2_with fail
  refine (markInt64S_any _ _ _ _ _ _ _ _ _ H1.out hk (by omega) hn).mono ?_
  rintro e w1 ⟨rfl, hm1, ho1⟩
  have q := R0.out.of_block (ho1.block w.heap.size (by simp) (.inr hu1))
  obtain ⟨_, _, _, c3⟩ := four_cells q
  have M1 := Lib.hid hm1
  have O1 := Lib.hid ho1
  have H2' := Lib.hid (H2.out.out ho1 (by omega))
  clear q hm1 ho1
  go_wp2_with fail
  refine (markInt64S_any _ _ _ _ _ _ _ _ _ H2'.out (by omega) (by omega) hm).mono ?_
  rintro e w2 ⟨rfl, hm2, ho2⟩
  have M2 := Lib.hid hm2
  have O2 := Lib.hid ho2
  clear hm2 ho2
  go_wp2_with fail
  go_ret
  exact ⟨rfl, M1.out.out O2.out (by omega), M2.out, Out2.mk3 HB0 O1.out O2.out⟩
set_option maxHeartbeats 800000 in
theorem heldNetwork_any (i h : Int) (a : Option Addr) (n c : Nat) (b : Option Addr) (m d : Nat) (l1 u1 l2 u2 : Nat) (t : TypeId) (k : Int) (w : World) (h1 : RowN w l1 u1 t a n (marks k)) (h2 : RowN w l2 u2 t b m (marks (k + n))) (hk : 0 ≤ k) (hk2 : k ≤ 1099500000000) (hn : n ≤ 1048576) (hm : m ≤ 1048576) :
    Calls Try.prog 18 #[netV i h a n c b m d, .int .i64 k] w fun e w' => e = .returned (.int .i64 (k + n + m)) ∧ Below w.heap.size w w' := by
  have HB0 := (Below.refl w.heap.size w).alloc (Nat.le_refl _) (.cells #[.int .i64 i, .int .i64 h, .slice a n c, .slice b m d] 27)
  have H1 := Lib.hid (h1.below HB0)
  have H2 := Lib.hid (h2.below HB0)
  have d1 : decide (k + (n : Int) < 0) = false := by simp; omega
  have d2 : decide (k + (n : Int) + (m : Int) < 0) = false := by simp; omega
  clear h1 h2
  go_enter Try.func18, Try.ntmps18
  go_wp2_with fail
  refine (heldInt64S_any _ _ _ _ _ _ _ _ H1.out hk (by omega) hn).mono ?_
  rintro e w1 ⟨rfl, rfl⟩
  go_wp2_with fail
  refine (heldInt64S_any _ _ _ _ _ _ _ _ H2.out (by omega) (by omega) hm).mono ?_
  rintro e w1 ⟨rfl, rfl⟩
  go_wp2_with fail
  go_ret
  exact ⟨rfl, HB0⟩

/-- both packages' SeededNetwork answer the same -/
theorem sd_both (i h s : Int) : ∃ i' h' n xs m ys S b, xs.length = n ∧ ys.length = m ∧ n ≤ 1048576 ∧ m ≤ 1048576 ∧
    (∀ w, Calls Try.prog 15 #[.int .i64 i, .int .i64 h, .int .i64 s] w fun e w' => SdPost i' h' n xs m ys S b w e w') ∧
    (∀ w, Calls Try.prog 16 #[.int .i64 i, .int .i64 h, .int .i64 s] w fun e w' => SdPost i' h' n xs m ys S b w e w') := by
  cases hok : sdOk i h s
  · exact ⟨0, 0, 0, [], 0, [], 0, false, rfl, rfl, by omega, by omega, fun w => spec_SeededNetwork_no i h s w hok, fun w => impl_SeededNetwork_no i h s w hok⟩
  · have k := hok
    simp only [sdOk, Bool.and_eq_true] at k
    obtain ⟨hA, hB, _⟩ := k
    obtain ⟨i1, i2⟩ := wB_true.1 hA
    obtain ⟨k1, k2⟩ := wB_true.1 hB
    obtain ⟨b1, b2⟩ := prod_bd i1 i2 k1 k2
    obtain ⟨n, hn⟩ := Int.eq_ofNat_of_zero_le (show 0 ≤ h * (i + 1) by omega)
    obtain ⟨m, hm⟩ := Int.eq_ofNat_of_zero_le (show 0 ≤ h + 1 by omega)
    exact ⟨i, h, n, _, m, _, _, true, sdL_len _ _, sdL_len _ _, by omega, by omega, fun w => spec_SeededNetwork_yes i h s n m w hok hn.symm hm.symm, fun w => impl_SeededNetwork_yes i h s n m w hok hn.symm hm.symm⟩
end Go.Proofs.Ytcpbaigghhjceaa
