/-
  A network that a call has made: marked, and read again.
-/
import Derived.Test.YtcpbaigghhjceaaSd
import Derived.Test.YtcpbaigghhjceaaTwo
namespace Go.Proofs.Ytcpbaigghhjceaa
open Go.ChangeShapes Go.WideShapes Go.ChangeAt Go.RowKit Go.Joins Go.Deep

set_option maxHeartbeats 800000 in
theorem markNetwork_any (i h : Int) (a : Option Addr) (n c : Nat) (b : Option Addr) (m d : Nat) (l1 u1 l2 u2 : Nat) (t : TypeId) (f f' : Nat → Value) (k : Int) (w : World) (h1 : RowN w l1 u1 t a n f) (h2 : RowN w l2 u2 t b m f') (hd : u1 ≤ l2 ∨ u2 ≤ l1) (hu1 : u1 ≤ w.heap.size) (hk : 0 ≤ k) (hk2 : k ≤ 1099500000000) (hn : n ≤ 1048576) (hm : m ≤ 1048576) :
    Calls Try.prog 17 #[netV i h a n c b m d, .int .i64 k] w fun e w' => e = .returned (.int .i64 (k + n + m)) ∧ RowN w' l1 u1 t a n (marks k) ∧ RowN w' l2 u2 t b m (marks (k + n)) ∧ Out2 l1 u1 l2 u2 w w' := by
  have HB0 := (Below.refl w.heap.size w).alloc (Nat.le_refl _) (.cells #[.int .i64 i, .int .i64 h, .slice a n c, .slice b m d] 27)
  have R0 := Lib.hid (four_new w (.int .i64 i) (.int .i64 h) (.slice a n c) (.slice b m d) 27)
  have H1 := Lib.hid (h1.below HB0)
  have H2 := Lib.hid (h2.below HB0)
  clear h1 h2
  go_enter Try.func17, Try.ntmps17
  go_wp2_with fail
  refine (markInt64S_any _ _ _ _ _ _ _ _ _ H1.out hk (by omega) hn).mono ?_
  rintro e w1 ⟨rfl, hm1, ho1⟩
  have q := R0.out.of_block (ho1.block w.heap.size (by simp) (.inr hu1))
  obtain ⟨_, _, _, c3⟩ := four_cells q
  have M1 := Lib.hid hm1
  have O1 := Lib.hid ho1
  have H2' := Lib.hid (H2.out.out ho1 (by omega))
  clear q hm1 ho1
  go_wp2_with fail
  refine (markInt64S_any _ _ _ _ _ _ _ _ _ H2'.out (by omega) (by omega) hm).mono ?_
  rintro e w2 ⟨rfl, hm2, ho2⟩
  have M2 := Lib.hid hm2
  have O2 := Lib.hid ho2
  clear hm2 ho2
  go_wp2_with fail
  go_ret
  exact ⟨rfl, M1.out.out O2.out (by omega), M2.out, Out2.mk3 HB0 O1.out O2.out⟩
set_option maxHeartbeats 800000 in
theorem heldNetwork_any (i h : Int) (a : Option Addr) (n c : Nat) (b : Option Addr) (m d : Nat) (l1 u1 l2 u2 : Nat) (t : TypeId) (k : Int) (w : World) (h1 : RowN w l1 u1 t a n (marks k)) (h2 : RowN w l2 u2 t b m (marks (k + n))) (hk : 0 ≤ k) (hk2 : k ≤ 1099500000000) (hn : n ≤ 1048576) (hm : m ≤ 1048576) :
    Calls Try.prog 18 #[netV i h a n c b m d, .int .i64 k] w fun e w' => e = .returned (.int .i64 (k + n + m)) ∧ Below w.heap.size w w' := by
  have HB0 := (Below.refl w.heap.size w).alloc (Nat.le_refl _) (.cells #[.int .i64 i, .int .i64 h, .slice a n c, .slice b m d] 27)
  have H1 := Lib.hid (h1.below HB0)
  have H2 := Lib.hid (h2.below HB0)
  have d1 : decide (k + (n : Int) < 0) = false := by simp; omega
  have d2 : decide (k + (n : Int) + (m : Int) < 0) = false := by simp; omega
  clear h1 h2
  go_enter Try.func18, Try.ntmps18
  go_wp2_with fail
  refine (heldInt64S_any _ _ _ _ _ _ _ _ H1.out hk (by omega) hn).mono ?_
  rintro e w1 ⟨rfl, rfl⟩
  go_wp2_with fail
  refine (heldInt64S_any _ _ _ _ _ _ _ _ H2.out (by omega) (by omega) hm).mono ?_
  rintro e w1 ⟨rfl, rfl⟩
  go_wp2_with fail
  go_ret
  exact ⟨rfl, HB0⟩

/-- both packages' SeededNetwork answer the same -/
theorem sd_both (i h s : Int) : ∃ i' h' n xs m ys S b, xs.length = n ∧ ys.length = m ∧ n ≤ 1048576 ∧ m ≤ 1048576 ∧
    (∀ w, Calls Try.prog 15 #[.int .i64 i, .int .i64 h, .int .i64 s] w fun e w' => SdPost i' h' n xs m ys S b w e w') ∧
    (∀ w, Calls Try.prog 16 #[.int .i64 i, .int .i64 h, .int .i64 s] w fun e w' => SdPost i' h' n xs m ys S b w e w') := by
  cases hok : sdOk i h s
  · exact ⟨0, 0, 0, [], 0, [], 0, false, rfl, rfl, by omega, by omega, fun w => spec_SeededNetwork_no i h s w hok, fun w => impl_SeededNetwork_no i h s w hok⟩
  · have k := hok
    simp only [sdOk, Bool.and_eq_true] at k
    obtain ⟨hA, hB, _⟩ := k
    obtain ⟨i1, i2⟩ := wB_true.1 hA
    obtain ⟨k1, k2⟩ := wB_true.1 hB
    obtain ⟨b1, b2⟩ := prod_bd i1 i2 k1 k2
    obtain ⟨n, hn⟩ := Int.eq_ofNat_of_zero_le (show 0 ≤ h * (i + 1) by omega)
    obtain ⟨m, hm⟩ := Int.eq_ofNat_of_zero_le (show 0 ≤ h + 1 by omega)
    exact ⟨i, h, n, _, m, _, _, true, sdL_len _ _, sdL_len _ _, by omega, by omega, fun w => spec_SeededNetwork_yes i h s n m w hok hn.symm hm.symm, fun w => impl_SeededNetwork_yes i h s n m w hok hn.symm hm.symm⟩
theorem sdL_wgt (s : Int) (n : Nat) : wgt (sdL s n) n = true := allTo_of fun i hi => by
  have e : (sdL s n).getD i 0 = sdS s (i + 1) % 2049 - 1024 := by
    rw [List.getD_eq_getElem?_getD, sdL, List.getElem?_map, List.getElem?_range hi]; rfl
  rw [e]
  exact wB_true.2 (by omega)
/-- both packages' SeededNetwork answer the same; what they answer is a valid network, or nothing -/
theorem sd_both2 (i h s : Int) : ∃ i' h' n xs m ys S b, xs.length = n ∧ ys.length = m ∧ n ≤ 1048576 ∧ m ≤ 1048576 ∧
    (∀ w, Calls Try.prog 15 #[.int .i64 i, .int .i64 h, .int .i64 s] w fun e w' => SdPost i' h' n xs m ys S b w e w') ∧
    (∀ w, Calls Try.prog 16 #[.int .i64 i, .int .i64 h, .int .i64 s] w fun e w' => SdPost i' h' n xs m ys S b w e w') ∧ (b = false ∧ n = 0 ∨ b = true ∧ netB i' h' n xs m ys = true) := by
  cases hok : sdOk i h s
  · exact ⟨0, 0, 0, [], 0, [], 0, false, rfl, rfl, by omega, by omega, fun w => spec_SeededNetwork_no i h s w hok, fun w => impl_SeededNetwork_no i h s w hok, .inl ⟨rfl, rfl⟩⟩
  · have k := hok
    simp only [sdOk, Bool.and_eq_true] at k
    obtain ⟨hA, hB, _⟩ := k
    obtain ⟨i1, i2⟩ := wB_true.1 hA
    obtain ⟨k1, k2⟩ := wB_true.1 hB
    obtain ⟨b1, b2⟩ := prod_bd i1 i2 k1 k2
    obtain ⟨n, hn⟩ := Int.eq_ofNat_of_zero_le (show 0 ≤ h * (i + 1) by omega)
    obtain ⟨m, hm⟩ := Int.eq_ofNat_of_zero_le (show 0 ≤ h + 1 by omega)
    refine ⟨i, h, n, _, m, _, _, true, sdL_len _ _, sdL_len _ _, by omega, by omega, fun w => spec_SeededNetwork_yes i h s n m w hok hn.symm hm.symm, fun w => impl_SeededNetwork_yes i h s n m w hok hn.symm hm.symm, .inr ⟨rfl, ?_⟩⟩
    rw [netB, hA, hB, sdL_wgt, sdL_wgt]
    simp [← hn, ← hm]
end Go.Proofs.Ytcpbaigghhjceaa
