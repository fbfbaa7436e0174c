/-
  The walks of IsNetwork (both packages) and of the copies and comparisons of networks.
-/
import Derived.Test.YtcpbaigghhjceaaRes
import Derived.Test.YtcpbaigghhjceaaOpen
namespace Go.Proofs.Ytcpbaigghhjceaa
open Go.ChangeShapes Go.WideShapes Go.ChangeAt Go.RowKit Go.Joins Go.Deep

abbrev netV (i h : Int) (a : Option Addr) (n c : Nat) (b : Option Addr) (m d : Nat) : Value := .agg #[.int .i64 i, .int .i64 h, .slice a n c, .slice b m d]
section
variable {H : Type} {enc : TypeId × Value → H} {w : World} {spare : Nat → Bool} {held : Bool}
theorem open_net {r : Reach} {b0 base : Nat} {v : Value} {d : DataW H} {p : List MemPlace} (hv : Value.okWide Try.prog w r b0 24 v) (h : DataW.Trod enc Try.prog w base spare held 24 v d p) :
    ∃ i h a n c xs b m d' ys, v = netV i h a n c b m d' ∧ IntsArg w .i64 a n xs ∧ IntsArg w .i64 b m ys := by
  obtain ⟨v0, v1, v2, v3, y0, y1, y2, y3, f, rfl, _, _, g0, g1, g2, g3⟩ := open_agg4 Try.underlying24 (by kernel_rfl) (by kernel_rfl) hv h
  obtain ⟨x0, e0, _, _⟩ := DataW.trod_int Try.underlying2 g0
  obtain ⟨x1, e1, _, _⟩ := DataW.trod_int Try.underlying2 g1
  obtain ⟨a, n, c, xs, e2, w2⟩ := ints_of_cell Try.underlying22 Try.underlying2 (by kernel_rfl) g2
  obtain ⟨b, m, d', ys, e3, w3⟩ := ints_of_cell Try.underlying22 Try.underlying2 (by kernel_rfl) g3
  simp at e0 e1
  subst e0 e1 e2 e3
  exact ⟨x0, x1, a, n, c, xs, b, m, d', ys, rfl, w2, w3⟩
end

def wgt (xs : List Int) (n : Nat) : Bool := allTo (fun x => wB x (-1048576) 1048576) xs n
/-- what both packages' IsNetwork returns -/
def netB (i h : Int) (n : Nat) (xs : List Int) (m : Nat) (ys : List Int) : Bool :=
  wB i 1 32 && (wB h 1 12 && (((n : Int) == h * (i + 1)) && (((m : Int) == h + 1) && (wgt xs n && wgt ys m))))
theorem netB_out {i h : Int} {n m : Nat} {xs ys : List Int} (k : netB i h n xs m ys = true) : (1 ≤ i ∧ i ≤ 32) ∧ (1 ≤ h ∧ h ≤ 12) ∧ (n : Int) = h * (i + 1) ∧ (m : Int) = h + 1 ∧ wgt xs n = true ∧ wgt ys m = true := by
  simp only [netB, Bool.and_eq_true, beq_iff_eq] at k
  exact ⟨wB_true.1 k.1, wB_true.1 k.2.1, k.2.2.1, k.2.2.2.1, k.2.2.2.2.1, k.2.2.2.2.2⟩
theorem prod_bd {i h : Int} (h1 : 1 ≤ i) (h2 : i ≤ 32) (h3 : 1 ≤ h) (h4 : h ≤ 12) : 2 ≤ h * (i + 1) ∧ h * (i + 1) ≤ 396 := by
  have a1 : 1 * (1 + 1) ≤ h * (i + 1) := Int.mul_le_mul h3 (by omega) (by omega) (by omega)
  have a2 : h * (i + 1) ≤ 12 * 33 := Int.mul_le_mul h4 (by omega) (by omega) (by omega)
  omega

theorem allWithin_any (a : Option Addr) (n c B : Nat) (xs : List Int) (lo hi : Int) (w : World) (h : Ints w B .i64 a n xs) (hn : n ≤ 1048576) :
    Calls Try.prog 37 #[.slice a n c, .int .i64 lo, .int .i64 hi] w fun e w' => e = .returned (.bool (allTo (fun x => wB x lo hi) xs n)) ∧ w = w' := by
  by_cases hn0 : n = 0
  · subst hn0
    go_enter Try.func37, Try.ntmps37
    go_wp2
    go_loop [11] (fun i => i = .int .i64 0) (fun _ => 0)
    case atStart => rfl
    case round =>
      subst hrel
      go_wp2
      go_ret
      exact ⟨rfl, rfl⟩
  · obtain ⟨b, off, rfl, hb, hc0⟩ := h.2 (by omega)
    have hc := Lib.hid hc0
    clear h hc0
    go_enter Try.func37, Try.ntmps37
    go_wp2
    go_loop [11] (fun i => ∃ k : Nat, k ≤ n ∧ i = .int .i64 k ∧ Hid (allTo (fun x => wB x lo hi) xs k = true)) (fun i => n - (intOf i).toNat)
    case atStart => exact ⟨0, Nat.zero_le _, rfl, rfl⟩
    case round =>
      obtain ⟨k, hk, rfl, hall⟩ := hrel
      by_cases hlt : k < n
      · have hcx := hc.out k hlt
        obtain ⟨x, hx⟩ : ∃ x, xs.getD k 0 = x := ⟨_, rfl⟩
        rw [hx] at hcx
        have HX := Lib.hid hx
        clear hx
        cases hw : wB x lo hi
        · have HN := Lib.hid (allTo_no (p := fun x => wB x lo hi) (xs := xs) hlt (by rw [HX.out]; exact hw))
          go_wp2_with (go_at_call 36; refine (within_any _ _ _ _).mono ?_; rintro e w' ⟨rfl, rfl⟩)
          go_ret
          exact ⟨ret_bool HN.out, rfl⟩
        · have HY := Lib.hid (show allTo (fun x => wB x lo hi) xs (k + 1) = true by rw [allTo_succ, hall.out, HX.out, hw]; rfl)
          go_wp2_with (go_at_call 36; refine (within_any _ _ _ _).mono ?_; rintro e w' ⟨rfl, rfl⟩)
          go_round
          case rel => exact ⟨k + 1, by omega, by go_num, HY⟩
          case measure => simp [intOf]; omega
      · obtain rfl : k = n := by omega
        go_wp2
        go_ret
        exact ⟨ret_bool hall.out, rfl⟩

theorem l23Weights_any (a : Option Addr) (n c B : Nat) (xs : List Int) (m : Int) (w : World) (h : Ints w B .i64 a n xs) (hn : n ≤ 1048576) :
    Calls Try.prog 35 #[.slice a n c, .int .i64 m] w fun e w' => e = .returned (.bool (((n : Int) == m) && wgt xs n)) ∧ w = w' := by
  by_cases hm : (n : Int) = m
  · have hmb : ((n : Int) == m) = true := by simpa using hm
    have hmc : ((n : Int) != m) = false := by simpa using hm
    clear hm
    by_cases hn0 : n = 0
    · subst hn0
      have hmb' : ((0 : Int) == m) = true := hmb
      have hmc' : ((0 : Int) != m) = false := hmc
      go_enter Try.func35, Try.ntmps35
      go_wp2
      go_loop [5] (fun i => i = .int .i64 0) (fun _ => 0)
      case atStart => rfl
      case round =>
        subst hrel
        go_wp2
        go_ret
        exact ⟨ret_bool rfl, rfl⟩
    · obtain ⟨b, off, rfl, hb, hc0⟩ := h.2 (by omega)
      have hc := Lib.hid hc0
      clear h hc0
      go_enter Try.func35, Try.ntmps35
      go_wp2
      go_loop [5] (fun i => ∃ k : Nat, k ≤ n ∧ i = .int .i64 k ∧ Hid (wgt xs k = true)) (fun i => n - (intOf i).toNat)
      case atStart => exact ⟨0, Nat.zero_le _, rfl, rfl⟩
      case round =>
        obtain ⟨k, hk, rfl, hall⟩ := hrel
        by_cases hlt : k < n
        · have hcx := hc.out k hlt
          obtain ⟨x, hx⟩ : ∃ x, xs.getD k 0 = x := ⟨_, rfl⟩
          rw [hx] at hcx
          have HX := Lib.hid hx
          clear hx
          cases hw : wB x (-1048576) 1048576
          · have HN := Lib.hid (show wgt xs n = false from allTo_no (p := fun x => wB x (-1048576) 1048576) (xs := xs) hlt (by rw [HX.out]; exact hw))
            go_wp2_with (go_at_call 34; refine (l01In_any _ _ _ _).mono ?_; rintro e w' ⟨rfl, rfl⟩)
            go_ret
            exact ⟨ret_bool (by rw [HN.out, Bool.and_false]), rfl⟩
          · have HY := Lib.hid (show wgt xs (k + 1) = true by rw [wgt, allTo_succ, show allTo _ xs k = true from hall.out, HX.out, hw]; rfl)
            go_wp2_with (go_at_call 34; refine (l01In_any _ _ _ _).mono ?_; rintro e w' ⟨rfl, rfl⟩)
            go_round
            case rel => exact ⟨k + 1, by omega, by go_num, HY⟩
            case measure => simp [intOf]; omega
        · obtain rfl : k = n := by omega
          go_wp2
          go_ret
          exact ⟨ret_bool hall.out, rfl⟩
  · have hmb : ((n : Int) == m) = false := by simpa using hm
    have hmc : ((n : Int) != m) = true := by simpa using hm
    clear hm
    go_enter Try.func35, Try.ntmps35
    go_wp2
    go_ret
    exact ⟨ret_bool (by rw [hmb]; rfl), rfl⟩

set_option maxHeartbeats 1600000 in
theorem impl_IsNetwork_any (i h : Int) (a : Option Addr) (n c : Nat) (xs : List Int) (b : Option Addr) (m d : Nat) (ys : List Int) (B : Nat) (w : World) (h1 : Ints w B .i64 a n xs) (h2 : Ints w B .i64 b m ys) (hB : B ≤ w.heap.size) (hn : n ≤ 1048576) (hm : m ≤ 1048576) :
    Calls Try.prog 13 #[netV i h a n c b m d] w fun e w' => e = .returned (.bool (netB i h n xs m ys)) ∧ Below w.heap.size w w' := by
  have HB0 := (Below.refl w.heap.size w).alloc (Nat.le_refl _) (.cells #[.int .i64 i, .int .i64 h, .slice a n c, .slice b m d] 27)
  have k1 := h1.below ((Below.refl B w).alloc hB (.cells #[.int .i64 i, .int .i64 h, .slice a n c, .slice b m d] 27))
  have k2 := h2.below ((Below.refl B w).alloc hB (.cells #[.int .i64 i, .int .i64 h, .slice a n c, .slice b m d] 27))
  cases hA : wB i 1 32
  · have H := Lib.hid (show netB i h n xs m ys = false by rw [netB, hA]; rfl)
    go_enter Try.func13, Try.ntmps13
    go_wp2_with (first | (go_at_call 36; refine (within_any _ _ _ _).mono ?_; rintro e w' ⟨rfl, rfl⟩) | (go_at_call 37; (first | (with_reducible refine (allWithin_any a n c _ xs _ _ _ k1 hn).mono ?_) | (with_reducible refine (allWithin_any b m d _ ys _ _ _ k2 hm).mono ?_)); rintro e w' ⟨rfl, rfl⟩))
    go_ret
    exact ⟨ret_bool H.out, HB0⟩
  · cases hC : wB h 1 12
    · have H := Lib.hid (show netB i h n xs m ys = false by rw [netB, hA, hC]; rfl)
      go_enter Try.func13, Try.ntmps13
      go_wp2_with (first | (go_at_call 36; refine (within_any _ _ _ _).mono ?_; rintro e w' ⟨rfl, rfl⟩) | (go_at_call 37; (first | (with_reducible refine (allWithin_any a n c _ xs _ _ _ k1 hn).mono ?_) | (with_reducible refine (allWithin_any b m d _ ys _ _ _ k2 hm).mono ?_)); rintro e w' ⟨rfl, rfl⟩))
      go_ret
      exact ⟨ret_bool H.out, HB0⟩
    · obtain ⟨i1, i2⟩ := wB_true.1 hA
      obtain ⟨g1, g2⟩ := wB_true.1 hC
      obtain ⟨p1, p2⟩ := prod_bd i1 i2 g1 g2
      cases hD : (n : Int) == h * (i + 1)
      · have H := Lib.hid (show netB i h n xs m ys = false by rw [netB, hA, hC, hD]; rfl)
        go_enter Try.func13, Try.ntmps13
        go_wp2_with (first | (go_at_call 36; refine (within_any _ _ _ _).mono ?_; rintro e w' ⟨rfl, rfl⟩) | (go_at_call 37; (first | (with_reducible refine (allWithin_any a n c _ xs _ _ _ k1 hn).mono ?_) | (with_reducible refine (allWithin_any b m d _ ys _ _ _ k2 hm).mono ?_)); rintro e w' ⟨rfl, rfl⟩))
        go_ret
        exact ⟨ret_bool H.out, HB0⟩
      · cases hE : (m : Int) == h + 1
        · have H := Lib.hid (show netB i h n xs m ys = false by rw [netB, hA, hC, hD, hE]; rfl)
          go_enter Try.func13, Try.ntmps13
          go_wp2_with (first | (go_at_call 36; refine (within_any _ _ _ _).mono ?_; rintro e w' ⟨rfl, rfl⟩) | (go_at_call 37; (first | (with_reducible refine (allWithin_any a n c _ xs _ _ _ k1 hn).mono ?_) | (with_reducible refine (allWithin_any b m d _ ys _ _ _ k2 hm).mono ?_)); rintro e w' ⟨rfl, rfl⟩))
          go_ret
          exact ⟨ret_bool H.out, HB0⟩
        · cases hF : wgt xs n
          · have H := Lib.hid (show netB i h n xs m ys = false by rw [netB, hA, hC, hD, hE, hF]; rfl)
            have hF' : allTo (fun x => wB x (-1048576) 1048576) xs n = false := hF
            go_enter Try.func13, Try.ntmps13
            go_wp2_with (first | (go_at_call 36; refine (within_any _ _ _ _).mono ?_; rintro e w' ⟨rfl, rfl⟩) | (go_at_call 37; (first | (with_reducible refine (allWithin_any a n c _ xs _ _ _ k1 hn).mono ?_) | (with_reducible refine (allWithin_any b m d _ ys _ _ _ k2 hm).mono ?_)); rintro e w' ⟨rfl, rfl⟩))
            go_ret
            exact ⟨ret_bool H.out, HB0⟩
          · have H := Lib.hid (show netB i h n xs m ys = wgt ys m by rw [netB, hA, hC, hD, hE, hF]; rfl)
            have hF' : allTo (fun x => wB x (-1048576) 1048576) xs n = true := hF
            go_enter Try.func13, Try.ntmps13
            go_wp2_with (first | (go_at_call 36; refine (within_any _ _ _ _).mono ?_; rintro e w' ⟨rfl, rfl⟩) | (go_at_call 37; (first | (with_reducible refine (allWithin_any a n c _ xs _ _ _ k1 hn).mono ?_) | (with_reducible refine (allWithin_any b m d _ ys _ _ _ k2 hm).mono ?_)); rintro e w' ⟨rfl, rfl⟩))
            go_ret
            exact ⟨ret_bool H.out, HB0⟩

set_option maxHeartbeats 1600000 in
theorem spec_IsNetwork_any (i h : Int) (a : Option Addr) (n c : Nat) (xs : List Int) (b : Option Addr) (m d : Nat) (ys : List Int) (B : Nat) (w : World) (h1 : Ints w B .i64 a n xs) (h2 : Ints w B .i64 b m ys) (hB : B ≤ w.heap.size) (hn : n ≤ 1048576) (hm : m ≤ 1048576) :
    Calls Try.prog 11 #[netV i h a n c b m d] w fun e w' => e = .returned (.bool (netB i h n xs m ys)) ∧ Below w.heap.size w w' := by
  have HB0 := (Below.refl w.heap.size w).alloc (Nat.le_refl _) (.cells #[.int .i64 i, .int .i64 h, .slice a n c, .slice b m d] 27)
  have k1 := h1.below ((Below.refl B w).alloc hB (.cells #[.int .i64 i, .int .i64 h, .slice a n c, .slice b m d] 27))
  have k2 := h2.below ((Below.refl B w).alloc hB (.cells #[.int .i64 i, .int .i64 h, .slice a n c, .slice b m d] 27))
  cases hA : wB i 1 32
  · have H := Lib.hid (show netB i h n xs m ys = false by rw [netB, hA]; rfl)
    go_enter Try.func11, Try.ntmps11
    go_wp2_with (first | (go_at_call 34; refine (l01In_any _ _ _ _).mono ?_; rintro e w' ⟨rfl, rfl⟩) | (go_at_call 35; (first | (with_reducible refine (l23Weights_any a n c _ xs _ _ k1 hn).mono ?_) | (with_reducible refine (l23Weights_any b m d _ ys _ _ k2 hm).mono ?_)); rintro e w' ⟨rfl, rfl⟩))
    go_ret
    exact ⟨ret_bool H.out, HB0⟩
  · cases hC : wB h 1 12
    · have H := Lib.hid (show netB i h n xs m ys = false by rw [netB, hA, hC]; rfl)
      go_enter Try.func11, Try.ntmps11
      go_wp2_with (first | (go_at_call 34; refine (l01In_any _ _ _ _).mono ?_; rintro e w' ⟨rfl, rfl⟩) | (go_at_call 35; (first | (with_reducible refine (l23Weights_any a n c _ xs _ _ k1 hn).mono ?_) | (with_reducible refine (l23Weights_any b m d _ ys _ _ k2 hm).mono ?_)); rintro e w' ⟨rfl, rfl⟩))
      go_ret
      exact ⟨ret_bool H.out, HB0⟩
    · obtain ⟨i1, i2⟩ := wB_true.1 hA
      obtain ⟨g1, g2⟩ := wB_true.1 hC
      obtain ⟨p1, p2⟩ := prod_bd i1 i2 g1 g2
      cases hD : (n : Int) == h * (i + 1)
      · have H := Lib.hid (show netB i h n xs m ys = false by rw [netB, hA, hC, hD]; rfl)
        go_enter Try.func11, Try.ntmps11
        go_wp2_with (first | (go_at_call 34; refine (l01In_any _ _ _ _).mono ?_; rintro e w' ⟨rfl, rfl⟩) | (go_at_call 35; (first | (with_reducible refine (l23Weights_any a n c _ xs _ _ k1 hn).mono ?_) | (with_reducible refine (l23Weights_any b m d _ ys _ _ k2 hm).mono ?_)); rintro e w' ⟨rfl, rfl⟩))
        go_ret
        exact ⟨ret_bool H.out, HB0⟩
      · cases hF : wgt xs n
        · have H := Lib.hid (show netB i h n xs m ys = false by rw [netB, hA, hC, hD, hF]; simp)
          go_enter Try.func11, Try.ntmps11
          go_wp2_with (first | (go_at_call 34; refine (l01In_any _ _ _ _).mono ?_; rintro e w' ⟨rfl, rfl⟩) | (go_at_call 35; (first | (with_reducible refine (l23Weights_any a n c _ xs _ _ k1 hn).mono ?_) | (with_reducible refine (l23Weights_any b m d _ ys _ _ k2 hm).mono ?_)); rintro e w' ⟨rfl, rfl⟩))
          go_ret
          exact ⟨ret_bool H.out, HB0⟩
        · have H := Lib.hid (show netB i h n xs m ys = (((m : Int) == h + 1) && wgt ys m) by rw [netB, hA, hC, hD, hF]; rfl)
          go_enter Try.func11, Try.ntmps11
          go_wp2_with (first | (go_at_call 34; refine (l01In_any _ _ _ _).mono ?_; rintro e w' ⟨rfl, rfl⟩) | (go_at_call 35; (first | (with_reducible refine (l23Weights_any a n c _ xs _ _ k1 hn).mono ?_) | (with_reducible refine (l23Weights_any b m d _ ys _ _ k2 hm).mono ?_)); rintro e w' ⟨rfl, rfl⟩))
          go_ret
          exact ⟨ret_bool H.out, HB0⟩

theorem szNetwork_no (i h : Int) (a : Option Addr) (n c : Nat) (b : Option Addr) (m d : Nat) (w : World) (hn : n ≤ maxLen) (hm : m ≤ maxLen) (hbig : 1048576 < n + m) :
    Calls Try.prog 10 #[netV i h a n c b m d, .int .i64 1048576] w fun e w' => e = .returned (.int .i64 (-1)) ∧ Below w.heap.size w w' := by
  have HB0 := (Below.refl w.heap.size w).alloc (Nat.le_refl _) (.cells #[.int .i64 i, .int .i64 h, .slice a n c, .slice b m d] 24)
  by_cases h1 : 1048576 < n
  · go_enter Try.func10, Try.ntmps10
    go_wp2_with fail
    refine (szInt64S_no _ _ _ _ _ (by omega) (by omega) hn (by omega)).mono ?_
    rintro e w' ⟨rfl, rfl⟩
    go_wp2_with fail
    go_ret
    exact ⟨rfl, HB0⟩
  · go_enter Try.func10, Try.ntmps10
    go_wp2_with fail
    refine (szInt64S_yes _ _ _ _ _ (by omega) (by omega) (by omega)).mono ?_
    rintro e w' ⟨rfl, rfl⟩
    go_wp2_with fail
    refine (szInt64S_no _ _ _ _ _ (by omega) (by omega) hm (by omega)).mono ?_
    rintro e w' ⟨rfl, rfl⟩
    go_wp2_with fail
    go_ret
    exact ⟨rfl, HB0⟩
theorem szNetwork_yes (i h : Int) (a : Option Addr) (n c : Nat) (b : Option Addr) (m d : Nat) (w : World) (hs : n + m ≤ 1048576) :
    Calls Try.prog 10 #[netV i h a n c b m d, .int .i64 1048576] w fun e w' => e = .returned (.int .i64 (1048576 - n - m)) ∧ Below w.heap.size w w' := by
  have HB0 := (Below.refl w.heap.size w).alloc (Nat.le_refl _) (.cells #[.int .i64 i, .int .i64 h, .slice a n c, .slice b m d] 24)
  go_enter Try.func10, Try.ntmps10
  go_wp2_with fail
  refine (szInt64S_yes _ _ _ _ _ (by omega) (by omega) (by omega)).mono ?_
  rintro e w' ⟨rfl, rfl⟩
  go_wp2_with fail
  refine (szInt64S_yes _ _ _ _ _ (by omega) (by omega) (by omega)).mono ?_
  rintro e w' ⟨rfl, rfl⟩
  go_wp2_with fail
  go_ret
  exact ⟨rfl, HB0⟩

/-- a block of four values -/
def four (p q r s : Value) : Nat → Value
  | 0 => p
  | 1 => q
  | 2 => r
  | _ => s
theorem four_new (w : World) (p q r s : Value) (t : TypeId) : (w.alloc (.cells #[p, q, r, s] t)).rowIs w.heap.size t 4 (four p q r s) :=
  World.rowIs_alloc w _ _ _ (fun j hj => by
    match j, hj with
    | 0, _ => rfl
    | 1, _ => rfl
    | 2, _ => rfl
    | 3, _ => rfl)
theorem four_cells {w : World} {g t : Nat} {p q r s : Value} (h : w.rowIs g t 4 (four p q r s)) : w.cell? ⟨g, 0, none⟩ = some p ∧ w.cell? ⟨g, 1, none⟩ = some q ∧ w.cell? ⟨g, 2, none⟩ = some r ∧ w.cell? ⟨g, 3, none⟩ = some s :=
  ⟨h.cell (i := 0) (by omega), h.cell (i := 1) (by omega), h.cell (i := 2) (by omega), h.cell (i := 3) (by omega)⟩

theorem four_set {w : World} {g t : Nat} {f : Nat → Value} (h : w.rowIs g t 4 f) (p q r s : Value) : ((((w.setCell ⟨g, 0, none⟩ p).setCell ⟨g, 1, none⟩ q).setCell ⟨g, 2, none⟩ r).setCell ⟨g, 3, none⟩ s).rowIs g t 4 (four p q r s) :=
  ((((h.set 0 p).set 1 q).set 2 r).set 3 s).congr (fun j hj => by
    match j, hj with
    | 0, _ => rfl
    | 1, _ => rfl
    | 2, _ => rfl
    | 3, _ => rfl)

def ToNet (i h : Int) (n : Nat) (xs : List Int) (m : Nat) (ys : List Int) (w : World) (e : Ending) (w' : World) : Prop :=
  ∃ g g' k, e = .returned (netV i h (some ⟨g, 0, none⟩) n n (some ⟨g', 0, none⟩) m m) ∧ RowN w' w.heap.size k 2 (some ⟨g, 0, none⟩) n (icell .i64 xs) ∧ RowN w' k w'.heap.size 2 (some ⟨g', 0, none⟩) m (icell .i64 ys) ∧ w.heap.size ≤ k ∧ k ≤ w'.heap.size ∧ Below w.heap.size w w'
set_option maxHeartbeats 1600000 in
theorem toNetwork_any (i h : Int) (a : Option Addr) (n c : Nat) (xs : List Int) (b : Option Addr) (m d : Nat) (ys : List Int) (w : World) (h1 : Ints w w.heap.size .i64 a n xs) (h2 : Ints w w.heap.size .i64 b m ys) (hn : n ≤ 1048576) (hm : m ≤ 1048576) :
    Calls Try.prog 12 #[netV i h a n c b m d] w fun e w' => ToNet i h n xs m ys w e w' := by
  have HA := (Below.refl w.heap.size w).alloc (Nat.le_refl _) (.cells #[.int .i64 i, .int .i64 h, .slice a n c, .slice b m d] 24)
  have HA2 := HA.alloc (by simp) (.cells #[.int .i64 0, .int .i64 0, .slice none 0 0, .slice none 0 0] 27)
  have HA3 := HA2.alloc (by simp; omega) (.cells #[.int .i64 i, .int .i64 h, .slice none 0 0, .slice none 0 0] 27)
  have r0 := ((four_new w (.int .i64 i) (.int .i64 h) (.slice a n c) (.slice b m d) 24).alloc (.cells #[.int .i64 0, .int .i64 0, .slice none 0 0, .slice none 0 0] 27)).alloc (.cells #[.int .i64 i, .int .i64 h, .slice none 0 0, .slice none 0 0] 27)
  have r1 := (four_new (w.alloc (.cells #[.int .i64 i, .int .i64 h, .slice a n c, .slice b m d] 24)) (.int .i64 0) (.int .i64 0) (.slice none 0 0) (.slice none 0 0) 27).alloc (.cells #[.int .i64 i, .int .i64 h, .slice none 0 0, .slice none 0 0] 27)
  have r2 := four_new ((w.alloc (.cells #[.int .i64 i, .int .i64 h, .slice a n c, .slice b m d] 24)).alloc (.cells #[.int .i64 0, .int .i64 0, .slice none 0 0, .slice none 0 0] 27)) (.int .i64 i) (.int .i64 h) (.slice none 0 0) (.slice none 0 0) 27
  simp only [World.size_alloc] at r1 r2
  have R0 := Lib.hid r0
  have R1 := Lib.hid r1
  have R2 := Lib.hid r2
  clear r0 r1 r2 HA HA2
  go_enter Try.func12, Try.ntmps12
  go_wp2_with fail
  refine (toInt64S_R _ _ _ _ _ ((h1.below HA3).more HA3.size) hn).mono ?_
  rintro e w1 ⟨rfl, hr1, hb1⟩
  have hz1 := hb1.size
  simp only [World.size_alloc] at hz1 hr1
  have H1 := HA3.trans (hb1.mono HA3.size)
  have q0 := rowIs_below R0.out hb1 R0.out.lt
  have q1 := rowIs_below R1.out hb1 R1.out.lt
  have q2 := rowIs_below R2.out hb1 R2.out.lt
  obtain ⟨_, _, _, a3⟩ := four_cells q0
  obtain ⟨_, _, b2, b3⟩ := four_cells q2
  have bf := q2.frozen 2
  have hzz : w.heap.size + 1 + 1 < w1.heap.size := by omega
  go_wp2_with fail
  have H4 := H1.setCell (p := ⟨w.heap.size + 1 + 1, 2, none⟩) (by simp; omega) (.slice (some ⟨w.heap.size + 1 + 1 + 1, 0, none⟩) n n)
  have ho4 := (Out.refl (w.heap.size + 1 + 1) (w.heap.size + 1 + 1 + 1) w1).set (p := ⟨w.heap.size + 1 + 1, 2, none⟩) (Nat.le_refl _) (by simp) (.slice (some ⟨w.heap.size + 1 + 1 + 1, 0, none⟩) n n)
  have hr4 := hr1.out ho4 (.inr (Nat.le_refl _))
  have q04 := q0.setOther (a := ⟨w.heap.size + 1 + 1, 2, none⟩) (by simp; omega) (.slice (some ⟨w.heap.size + 1 + 1 + 1, 0, none⟩) n n)
  have q14 := q1.setOther (a := ⟨w.heap.size + 1 + 1, 2, none⟩) (by simp) (.slice (some ⟨w.heap.size + 1 + 1 + 1, 0, none⟩) n n)
  have q24 := q2.set 2 (.slice (some ⟨w.heap.size + 1 + 1 + 1, 0, none⟩) n n)
  have Q4 := Lib.hid (And.intro hr4 (And.intro q14 q24))
  clear q0 q1 q2 hr1 ho4 hr4 q04 q14 q24 a3 b2 b3 bf
  refine (toInt64S_R _ _ _ _ _ ((h2.below H4).more H4.size) hm).mono ?_
  rintro e w2 ⟨rfl, hr5, hb5⟩
  have H5 := H4.trans (hb5.mono H4.size)
  obtain ⟨hr4, q14, q24⟩ := Q4.out
  have hr4' := hr4.below hb5
  have q15 := rowIs_below q14 hb5 q14.lt
  have q25 := rowIs_below q24 hb5 q24.lt
  have hz5 := hb5.size
  rw [World.size_setCell] at hr5 hz5
  have b0 := q25.cell (i := 0) (by omega)
  have b1 := q25.cell (i := 1) (by omega)
  have b2 := q25.cell (i := 2) (by omega)
  have b3 := q25.cell (i := 3) (by omega)
  have bf := q25.frozen 3
  obtain ⟨d0, d1, d2, d3⟩ := four_cells q15
  have f0 := q15.frozen 0
  have f1 := q15.frozen 1
  have f2 := q15.frozen 2
  have f3 := q15.frozen 3
  simp [four] at b0 b1 b2 b3
  have HQ := Lib.hid (And.intro hr4' (And.intro q15 (And.intro hr5 hz5)))
  clear hr4 q14 q24 hr4' q15 q25 hr5 hz5 hb5
  go_wp2_with fail
  obtain ⟨hr4, q15, hr5, hz5⟩ := HQ.out
  obtain ⟨p0, p1, p2, p3⟩ := four_cells (four_set (q15.setOther (a := ⟨w.heap.size + 1 + 1, 3, none⟩) (by simp) (.slice (some ⟨w1.heap.size, 0, none⟩) m m)) (.int .i64 i) (.int .i64 h) (.slice (some ⟨w.heap.size + 1 + 1 + 1, 0, none⟩) n n) (.slice (some ⟨w1.heap.size, 0, none⟩) m m))
  have ho := (((((Out.refl (w.heap.size + 1) (w.heap.size + 1 + 1 + 1) w2).set (p := ⟨w.heap.size + 1 + 1, 3, none⟩) (by simp) (by first | (simp; done) | (simp; omega)) (.slice (some ⟨w1.heap.size, 0, none⟩) m m)).set (p := ⟨w.heap.size + 1, 0, none⟩) (by simp) (by first | omega | (simp; done) | (simp; omega)) (.int .i64 i)).set (p := ⟨w.heap.size + 1, 1, none⟩) (by simp) (by first | omega | (simp; done) | (simp; omega)) (.int .i64 h)).set (p := ⟨w.heap.size + 1, 2, none⟩) (by simp) (by first | omega | (simp; done) | (simp; omega)) (.slice (some ⟨w.heap.size + 1 + 1 + 1, 0, none⟩) n n)).set (p := ⟨w.heap.size + 1, 3, none⟩) (by simp) (by first | omega | (simp; done) | (simp; omega)) (.slice (some ⟨w1.heap.size, 0, none⟩) m m)
  refine bodyPost_ret (v := netV i h (some ⟨w.heap.size + 1 + 1 + 1, 0, none⟩) n n (some ⟨w1.heap.size, 0, none⟩) m m) (by simp [results, Try.results12, go_sem, p0, p1, p2, p3]) rfl ⟨_, _, w1.heap.size, rfl, (hr4.out ho (.inr (Nat.le_refl _))).wide (by omega) (Nat.le_refl _), ?_, by omega, by simpa using hz5, Out.below H5 ho (by omega)⟩
  have := hr5.out ho (.inr (by omega))
  simpa using this

set_option maxHeartbeats 800000 in
theorem eqNetwork_same (i h : Int) (a a' : Option Addr) (n c c' : Nat) (xs : List Int) (b b' : Option Addr) (m d d' : Nat) (ys : List Int) (w : World) (h1 : Ints w w.heap.size .i64 a n xs) (h1' : Ints w w.heap.size .i64 a' n xs) (h2 : Ints w w.heap.size .i64 b m ys) (h2' : Ints w w.heap.size .i64 b' m ys) (hn : n ≤ 1048576) (hm : m ≤ 1048576) :
    Calls Try.prog 14 #[netV i h a n c b m d, netV i h a' n c' b' m d'] w fun e w' => e = .returned (.bool true) ∧ Below w.heap.size w w' := by
  have HB0 := ((Below.refl w.heap.size w).alloc (Nat.le_refl _) (.cells #[.int .i64 i, .int .i64 h, .slice a n c, .slice b m d] 27)).alloc (by simp) (.cells #[.int .i64 i, .int .i64 h, .slice a' n c', .slice b' m d'] 27)
  have r1 := (four_new w (.int .i64 i) (.int .i64 h) (.slice a n c) (.slice b m d) 27).alloc (.cells #[.int .i64 i, .int .i64 h, .slice a' n c', .slice b' m d'] 27)
  have r2 := four_new (w.alloc (.cells #[.int .i64 i, .int .i64 h, .slice a n c, .slice b m d] 27)) (.int .i64 i) (.int .i64 h) (.slice a' n c') (.slice b' m d') 27
  simp only [World.size_alloc] at r2
  have R1 := Lib.hid r1
  have R2 := Lib.hid r2
  clear r1 r2
  go_enter Try.func14, Try.ntmps14
  go_wp2_with fail
  refine (eqInt64S_b _ _ _ _ _ _ _ _ _ (h1.below HB0) (h1'.below HB0) hn).mono ?_
  rintro e w1 ⟨rfl, hb1⟩
  have HB1 := HB0.trans (hb1.mono HB0.size)
  obtain ⟨_, _, u2, u3⟩ := four_cells (rowIs_below R1.out hb1 R1.out.lt)
  obtain ⟨_, _, v2, v3⟩ := four_cells (rowIs_below R2.out hb1 R2.out.lt)
  go_wp2_with fail
  refine (eqInt64S_b _ _ _ _ _ _ _ _ _ (h2.below HB1) (h2'.below HB1) hm).mono ?_
  rintro e w2 ⟨rfl, hb2⟩
  go_wp2_with fail
  go_ret
  exact ⟨rfl, HB1.trans (hb2.mono HB1.size)⟩
end Go.Proofs.Ytcpbaigghhjceaa
