/-
  The walks of the order and the outcomes of a chouette (both packages), of slices.Index and slices.Contains at int64.
-/
import Derived.Test.YtocdiflkegbffaaRes
namespace Go.Proofs.Ytocdiflkegbffaa
open Go.ChangeShapes Go.WideShapes Go.ChangeAt Go.RowKit

/-- x is among the first k integers -/
def hasB (xs : List Int) (x : Int) : Nat → Bool
  | 0 => false
  | k + 1 => hasB xs x k || xs.getD k 0 == x
theorem hasB_succ (xs : List Int) (x : Int) (k : Nat) : hasB xs x (k + 1) = (hasB xs x k || xs.getD k 0 == x) := rfl
theorem hasB_yes {xs : List Int} {x : Int} : ∀ {n i : Nat}, i < n → xs.getD i 0 = x → hasB xs x n = true
  | n + 1, i, hi, h => by
    rw [hasB_succ]
    by_cases e : i = n
    · subst e; simp only [h, beq_self_eq_true, Bool.or_true]
    · rw [hasB_yes (by omega : i < n) h, Bool.true_or]
theorem hasB_of {xs : List Int} {x : Int} : ∀ {n : Nat}, hasB xs x n = true → ∃ i, i < n ∧ xs.getD i 0 = x
  | n + 1, h => by
    rw [hasB_succ, Bool.or_eq_true] at h
    rcases h with h | h
    · obtain ⟨i, hi, e⟩ := hasB_of h; exact ⟨i, by omega, e⟩
    · exact ⟨n, by omega, by simpa using h⟩
theorem hasB_take {xs : List Int} {x : Int} {m : Nat} : ∀ {n : Nat}, n ≤ m → hasB (xs.take m) x n = hasB xs x n
  | 0, _ => rfl
  | n + 1, h => by
    rw [hasB_succ, hasB_succ, hasB_take (by omega : n ≤ m)]
    have : (xs.take m).getD n 0 = xs.getD n 0 := by rw [List.getD_eq_getElem?_getD, List.getD_eq_getElem?_getD, List.getElem?_take_of_lt (by omega)]
    rw [this]
theorem Ints.front {w : World} {B n m : Nat} {k : IntKind} {a : Option Addr} {xs : List Int} (h : Ints w B k a n xs) (hm : m ≤ n) : Ints w B k a m (xs.take m) := by
  refine ⟨by rw [List.length_take, h.1]; omega, fun h0 => ?_⟩
  obtain ⟨b, off, e, hb, hc⟩ := h.2 (by omega)
  refine ⟨b, off, e, hb, fun i hi => ?_⟩
  rw [hc i (by omega), List.getD_eq_getElem?_getD, List.getD_eq_getElem?_getD, List.getElem?_take_of_lt hi]

/-- what slices.Index returns: a place where x stands, or -1 -/
def IdxPost (xs : List Int) (x : Int) (n : Nat) (w : World) (e : Ending) (w' : World) : Prop :=
  ∃ r : Int, e = .returned (.int .i64 r) ∧ ((hasB xs x n = true ∧ 0 ≤ r) ∨ (hasB xs x n = false ∧ r = -1)) ∧ w = w'
set_option maxHeartbeats 400000 in
theorem index_any (a : Option Addr) (n c B : Nat) (xs : List Int) (x : Int) (w : World) (h : Ints w B .i64 a n xs) (hn : n ≤ 1048576) :
    Calls Try.prog 70 #[.slice a n c, .int .i64 x] w fun e w' => IdxPost xs x n w e w' := by
  rcases h.cases with ⟨rfl, rfl⟩ | ⟨hn0, b, off, rfl, hb, hc0⟩
  · go_enter Try.func70, Try.ntmps70
    go_wp2
    go_loop [8] (fun i => i = .int .i64 0) (fun _ => 0)
    case atStart => rfl
    case round =>
      subst hrel
      go_wp2
      go_ret
      exact ⟨_, rfl, .inr ⟨rfl, rfl⟩, rfl⟩
  · have hc := Lib.hid hc0
    clear h hc0
    go_enter Try.func70, Try.ntmps70
    go_wp2
    go_loop [8] (fun i => ∃ k : Nat, k ≤ n ∧ i = .int .i64 k ∧ Hid (hasB xs x k = false)) (fun i => n - (intOf i).toNat)
    case atStart => exact ⟨0, Nat.zero_le _, rfl, rfl⟩
    case round =>
      obtain ⟨k, hk, rfl, hno⟩ := hrel
      by_cases hlt : k < n
      · have hcx := hc.out k hlt
        obtain ⟨y, hy⟩ : ∃ y, xs.getD k 0 = y := ⟨_, rfl⟩
        rw [hy] at hcx
        have HY := Lib.hid hy
        clear hy
        by_cases hxy : x = y
        · have HN := Lib.hid (hasB_yes hlt (HY.out.trans hxy.symm))
          subst hxy
          go_wp2
          go_ret
          exact ⟨_, rfl, .inl ⟨HN.out, by omega⟩, rfl⟩
        · have hxy' : (x == y) = false := by simpa using hxy
          have HN := Lib.hid (show hasB xs x (k + 1) = false by rw [hasB_succ, hno.out, HY.out]; simpa using fun e => hxy e.symm)
          clear hxy
          go_wp2
          go_round
          case rel => exact ⟨k + 1, by omega, by go_num, HN⟩
          case measure => simp [intOf]; omega
      · obtain rfl : k = n := by omega
        go_wp2
        go_ret
        exact ⟨_, rfl, .inr ⟨hno.out, rfl⟩, rfl⟩
theorem contains_any (a : Option Addr) (n c B : Nat) (xs : List Int) (x : Int) (w : World) (h : Ints w B .i64 a n xs) (hn : n ≤ 1048576) :
    Calls Try.prog 69 #[.slice a n c, .int .i64 x] w fun e w' => e = .returned (.bool (hasB xs x n)) ∧ w = w' := by
  go_enter Try.func69, Try.ntmps69
  go_wp2_with fail
  refine (index_any _ _ _ _ _ _ _ h hn).mono ?_
  rintro e w' ⟨r, rfl, hr | hr, rfl⟩
  · obtain ⟨h1, h2⟩ := hr
    have H := Lib.hid h1
    clear h1
    go_wp2_with fail
    go_ret
    exact ⟨ret_bool H.out, rfl⟩
  · obtain ⟨h1, rfl⟩ := hr
    have H := Lib.hid h1
    clear h1
    go_wp2_with fail
    go_ret
    exact ⟨ret_bool H.out, rfl⟩

def allO (xs : List Int) : Nat → Bool
  | 0 => true
  | k + 1 => allO xs k && (wB (xs.getD k 0) 0 7 && !hasB xs (xs.getD k 0) k)
theorem allO_succ (xs : List Int) (k : Nat) : allO xs (k + 1) = (allO xs k && (wB (xs.getD k 0) 0 7 && !hasB xs (xs.getD k 0) k)) := rfl
theorem allO_at {xs : List Int} : ∀ {k : Nat}, allO xs k = true → ∀ i, i < k → wB (xs.getD i 0) 0 7 = true ∧ hasB xs (xs.getD i 0) i = false
  | 0, _, i, hi => absurd hi (by omega)
  | k + 1, h, i, hi => by
    rw [allO_succ, Bool.and_eq_true] at h
    by_cases e : i = k
    · subst e; simpa using h.2
    · exact allO_at h.1 i (by omega)
theorem allO_no {xs : List Int} {n i : Nat} (hi : i < n) (h : wB (xs.getD i 0) 0 7 = false ∨ hasB xs (xs.getD i 0) i = true) : allO xs n = false := by
  cases e : allO xs n with
  | false => rfl
  | true =>
    obtain ⟨h1, h2⟩ := allO_at e i hi
    rcases h with h | h
    · rw [h] at h1; cases h1
    · rw [h] at h2; cases h2
/-- what isOrder and l21Order return -/
def ordB (n : Nat) (xs : List Int) : Bool := decide (2 ≤ n) && (decide (n ≤ 8) && allO xs n)
theorem ordB_len {n : Nat} {xs : List Int} (h : n < 2 ∨ 8 < n) : ordB n xs = false := by
  rcases h with h | h
  · have : decide (2 ≤ n) = false := by simpa using h
    rw [ordB, this, Bool.false_and]
  · have : decide (n ≤ 8) = false := by simpa using h
    rw [ordB, this, Bool.false_and, Bool.and_false]
theorem ordB_no {n i : Nat} {xs : List Int} (hi : i < n) (h : wB (xs.getD i 0) 0 7 = false ∨ hasB xs (xs.getD i 0) i = true) : ordB n xs = false := by rw [ordB, allO_no hi h, Bool.and_false, Bool.and_false]
theorem ordB_yes {n : Nat} {xs : List Int} (h1 : 2 ≤ n) (h2 : n ≤ 8) (ha : allO xs n = true) : ordB n xs = true := by
  rw [ordB, ha]; simp [h1, h2]
theorem ordB_out {n : Nat} {xs : List Int} (h : ordB n xs = true) : 2 ≤ n ∧ n ≤ 8 ∧ allO xs n = true := by
  simpa [ordB] using h
/-- what isOutcomes returns -/
def outB (n m : Nat) (ys : List Int) : Bool := decide (m + 1 = n) && allTo (fun y => wB y (-1000000) 1000000) ys m
theorem outB_len {n m : Nat} {ys : List Int} (h : m + 1 ≠ n) : outB n m ys = false := by
  have : decide (m + 1 = n) = false := by simpa using h
  rw [outB, this, Bool.false_and]
theorem outB_no {n m i : Nat} {ys : List Int} (hi : i < m) (h : wB (ys.getD i 0) (-1000000) 1000000 = false) : outB n m ys = false := by
  rw [outB, allTo_no (p := fun y => wB y (-1000000) 1000000) hi h, Bool.and_false]
theorem outB_yes {n m : Nat} {ys : List Int} (h : m + 1 = n) (ha : allTo (fun y => wB y (-1000000) 1000000) ys m = true) : outB n m ys = true := by
  rw [outB, ha]; simpa using h
theorem outB_out {n m : Nat} {ys : List Int} (h : outB n m ys = true) : m + 1 = n ∧ allTo (fun y => wB y (-1000000) 1000000) ys m = true := by
  simpa [outB] using h

set_option maxHeartbeats 800000 in
theorem isOrder_any (a : Option Addr) (n c B : Nat) (xs : List Int) (w : World) (h : Ints w B .i64 a n xs) (hn : n ≤ c) (hn2 : n ≤ 1048576) :
    Calls Try.prog 55 #[.slice a n c] w fun e w' => e = .returned (.bool (ordB n xs)) ∧ w = w' := by
  by_cases hl : n < 2 ∨ 8 < n
  · have HN := Lib.hid (ordB_len (xs := xs) hl)
    have hw : wB (n : Int) 2 8 = false := wB_false.2 (by omega)
    clear hl
    go_enter Try.func55, Try.ntmps55
    go_wp2_with (go_at_call 52; refine (within_any _ _ _ _).mono ?_; rintro e w' ⟨rfl, rfl⟩)
    go_ret
    exact ⟨ret_bool HN.out, rfl⟩
  · have hw : wB (n : Int) 2 8 = true := wB_true.2 (by omega)
    have hl1 : 2 ≤ n := by omega
    have hl2 : n ≤ 8 := by omega
    clear hl
    obtain ⟨b, off, rfl, hb, hc0⟩ := h.2 (by omega)
    have hc := Lib.hid hc0
    have H := Lib.hid h
    clear h hc0
    go_enter Try.func55, Try.ntmps55
    go_wp2_with (go_at_call 52; refine (within_any _ _ _ _).mono ?_; rintro e w' ⟨rfl, rfl⟩)
    clear hw
    go_loop [11] (fun i => ∃ k : Nat, k ≤ n ∧ i = .int .i64 k ∧ Hid (allO xs k = true)) (fun i => n - (intOf i).toNat)
    case atStart => exact ⟨0, Nat.zero_le _, rfl, rfl⟩
    case round =>
      obtain ⟨k, hk, rfl, hall⟩ := hrel
      by_cases hlt : k < n
      · have hcx := hc.out k hlt
        obtain ⟨x, hx⟩ : ∃ x, xs.getD k 0 = x := ⟨_, rfl⟩
        rw [hx] at hcx
        have HX := Lib.hid hx
        clear hx
        cases hw : wB x 0 7
        · have HN := Lib.hid (ordB_no hlt (.inl (by rw [HX.out]; exact hw)))
          go_wp2_with (go_at_call 52; refine (within_any _ _ _ _).mono ?_; rintro e w' ⟨rfl, rfl⟩)
          go_ret
          exact ⟨ret_bool HN.out, rfl⟩
        · cases hh : hasB xs x k
          · have HY := Lib.hid (show allO xs (k + 1) = true by rw [allO_succ, hall.out, HX.out, hw, hh]; rfl)
            have hh' : hasB (xs.take k) x k = false := (hasB_take (Nat.le_refl _)).trans hh
            clear hh
            have HH := Lib.hid hh'
            go_wp2_with (first | (go_at_call 52; refine (within_any _ _ _ _).mono ?_; rintro e w' ⟨rfl, rfl⟩) | (go_at_call 69; refine (contains_any _ _ _ _ _ _ _ (H.out.front (m := k) (by omega)) (by omega)).mono ?_; rintro e w' ⟨rfl, rfl⟩))
            go_round
            case rel => exact ⟨k + 1, by omega, by go_num, HY⟩
            case measure => simp [intOf]; omega
          · have HN := Lib.hid (ordB_no hlt (.inr (by rw [HX.out]; exact hh)))
            have hh' : hasB (xs.take k) x k = true := (hasB_take (Nat.le_refl _)).trans hh
            clear hh
            go_wp2_with (first | (go_at_call 52; refine (within_any _ _ _ _).mono ?_; rintro e w' ⟨rfl, rfl⟩) | (go_at_call 69; refine (contains_any _ _ _ _ _ _ _ (H.out.front (m := k) (by omega)) (by omega)).mono ?_; rintro e w' ⟨rfl, rfl⟩))
            go_ret
            exact ⟨ret_bool HN.out, rfl⟩
      · obtain rfl : k = n := by omega
        have HY := Lib.hid (ordB_yes hl1 hl2 hall.out)
        go_wp2
        go_ret
        exact ⟨ret_bool HY.out, rfl⟩

set_option maxHeartbeats 1600000 in
theorem l21Order_any (a : Option Addr) (n c B : Nat) (xs : List Int) (w : World) (h : Ints w B .i64 a n xs) (hB : B ≤ w.heap.size) (hn2 : n ≤ 1048576) :
    Calls Try.prog 54 #[.slice a n c] w fun e w' => e = .returned (.bool (ordB n xs)) ∧ Below w.heap.size w w' := by
  by_cases hl : n < 2 ∨ 8 < n
  · have HN := Lib.hid (ordB_len (xs := xs) hl)
    rcases hl with hl | hl
    · go_enter Try.func54, Try.ntmps54
      go_wp2
      go_ret
      exact ⟨ret_bool HN.out, Below.refl _ _⟩
    · go_enter Try.func54, Try.ntmps54
      go_wp2
      go_ret
      exact ⟨ret_bool HN.out, Below.refl _ _⟩
  · have hl1 : 2 ≤ n := by omega
    have hl2 : n ≤ 8 := by omega
    clear hl
    obtain ⟨b, off, rfl, hb, hc0⟩ := h.2 (by omega)
    have hc := Lib.hid hc0
    clear h hc0
    go_enter Try.func54, Try.ntmps54
    go_wp2
    go_loopw [3, 4] (fun i _ wr => ∃ k : Nat, k ≤ n ∧ i = .int .i64 k ∧ Hid (allO xs k = true) ∧ Below w.heap.size w wr) (fun i _ _ => n - (intOf i).toNat)
    case atStart => exact ⟨0, Nat.zero_le _, rfl, rfl, Below.refl _ _⟩
    case round =>
      obtain ⟨k, hk, rfl, hall, hbel⟩ := hrel
      obtain ⟨wo, hwo⟩ : ∃ wo : World, wo = wr := ⟨_, rfl⟩
      subst hwo
      by_cases hlt : k < n
      · have hcx := (hbel.cell (p := ⟨b, off + k, none⟩) (by show b < _; omega)).trans (hc.out k hlt)
        obtain ⟨x, hx⟩ : ∃ x, xs.getD k 0 = x := ⟨_, rfl⟩
        rw [hx] at hcx
        have HX := Lib.hid hx
        clear hx
        cases hw : wB x 0 7
        · have HN := Lib.hid (ordB_no hlt (.inl (by rw [HX.out]; exact hw)))
          go_wp2_with (go_at_call 50; refine (l01In_any _ _ _ _).mono ?_; rintro e w' ⟨rfl, rfl⟩)
          go_ret
          exact ⟨ret_bool HN.out, hbel⟩
        · go_wp2_with (go_at_call 50; refine (l01In_any _ _ _ _).mono ?_; rintro e w' ⟨rfl, rfl⟩)
          have HW := Lib.hid hw
          clear hw
          go_loopw [4] (fun j wq => ∃ m : Nat, m ≤ k ∧ j = .int .i64 m ∧ Hid (hasB xs x m = false) ∧ Below w.heap.size w wq) (fun j _ => k - (intOf j).toNat)
          case atStart => exact ⟨0, Nat.zero_le _, rfl, rfl, hbel⟩
          case round =>
            obtain ⟨m, hm, rfl, hno, hbel2⟩ := hrel
            by_cases hmk : m < k
            · have hcy := (hbel2.cell (p := ⟨b, off + k, none⟩) (by show b < _; omega)).trans (hc.out k hlt)
              rw [HX.out] at hcy
              have hcz := (hbel2.cell (p := ⟨b, off + m, none⟩) (by show b < _; omega)).trans (hc.out m (by omega))
              obtain ⟨y, hy⟩ : ∃ y, xs.getD m 0 = y := ⟨_, rfl⟩
              rw [hy] at hcz
              have HY := Lib.hid hy
              clear hy hcx
              by_cases hxy : y = x
              · have HN := Lib.hid (ordB_no hlt (.inr (by rw [HX.out]; exact hasB_yes hmk (HY.out.trans hxy))))
                have hxy' : (y == x) = true := by simpa using hxy
                clear hxy
                go_wp2
                go_quiet (fail)
                go_wp2
                go_ret
                exact ⟨ret_bool HN.out, below_drewN hbel2 _⟩
              · have hxy' : (y == x) = false := by simpa using hxy
                have HN := Lib.hid (show hasB xs x (m + 1) = false by rw [hasB_succ, hno.out, HY.out, hxy']; rfl)
                clear hxy
                go_wp2
                go_quiet (fail)
                go_wp2
                go_roundw
                case rel => exact ⟨m + 1, by omega, by go_num, HN, below_drewN hbel2 _⟩
                case measure => simp [intOf]; omega
            · obtain rfl : m = k := by omega
              have HY := Lib.hid (show allO xs (m + 1) = true by rw [allO_succ, hall.out, HX.out, HW.out, hno.out]; rfl)
              clear hcx
              go_wp2
              go_roundw
              case rel => exact ⟨m + 1, by omega, by go_num, HY, hbel2⟩
              case measure => simp [intOf]; omega
      · obtain rfl : k = n := by omega
        have HY := Lib.hid (ordB_yes hl1 hl2 hall.out)
        go_wp2
        go_ret
        exact ⟨ret_bool HY.out, hbel⟩

set_option maxHeartbeats 800000 in
theorem isOutcomes_any (a a' : Option Addr) (n c m c' B : Nat) (ys : List Int) (w : World) (h : Ints w B .i64 a' m ys) (hn : n ≤ 1048576) (hm : m ≤ 1048576) :
    Calls Try.prog 56 #[.slice a n c, .slice a' m c'] w fun e w' => e = .returned (.bool (outB n m ys)) ∧ w = w' := by
  by_cases hl : m + 1 = n
  · subst hl
    by_cases hm0 : m = 0
    · subst hm0
      have HY := Lib.hid (outB_yes (n := 0 + 1) (m := 0) (ys := ys) rfl rfl)
      go_enter Try.func56, Try.ntmps56
      go_wp2
      go_loop [15] (fun i => i = .int .i64 0) (fun _ => 0)
      case atStart => rfl
      case round =>
        subst hrel
        go_wp2
        go_ret
        exact ⟨ret_bool HY.out, rfl⟩
    · obtain ⟨b, off, rfl, hb, hc0⟩ := h.2 (by omega)
      have hc := Lib.hid hc0
      clear h hc0
      go_enter Try.func56, Try.ntmps56
      go_wp2
      go_loop [15] (fun i => ∃ k : Nat, k ≤ m ∧ i = .int .i64 k ∧ Hid (allTo (fun y => wB y (-1000000) 1000000) ys k = true)) (fun i => m - (intOf i).toNat)
      case atStart => exact ⟨0, Nat.zero_le _, rfl, rfl⟩
      case round =>
        obtain ⟨k, hk, rfl, hall⟩ := hrel
        by_cases hlt : k < m
        · have hcx := hc.out k hlt
          obtain ⟨x, hx⟩ : ∃ x, ys.getD k 0 = x := ⟨_, rfl⟩
          rw [hx] at hcx
          have HX := Lib.hid hx
          clear hx
          cases hw : wB x (-1000000) 1000000
          · have HN := Lib.hid (outB_no (n := m + 1) hlt (by rw [HX.out]; exact hw))
            go_wp2_with (go_at_call 52; refine (within_any _ _ _ _).mono ?_; rintro e w' ⟨rfl, rfl⟩)
            go_ret
            exact ⟨ret_bool HN.out, rfl⟩
          · have HY := Lib.hid (show allTo (fun y => wB y (-1000000) 1000000) ys (k + 1) = true by rw [allTo_succ, hall.out, HX.out, hw]; rfl)
            go_wp2_with (go_at_call 52; refine (within_any _ _ _ _).mono ?_; rintro e w' ⟨rfl, rfl⟩)
            go_round
            case rel => exact ⟨k + 1, by omega, by go_num, HY⟩
            case measure => simp [intOf]; omega
        · obtain rfl : k = m := by omega
          have HY := Lib.hid (outB_yes rfl hall.out)
          go_wp2
          go_ret
          exact ⟨ret_bool HY.out, rfl⟩
  · have HN := Lib.hid (outB_len (ys := ys) hl)
    have hl' : ((m : Int) != (n : Int) - 1) = true := by rw [bne_iff_ne]; omega
    clear hl
    go_enter Try.func56, Try.ntmps56
    go_wp2
    go_ret
    exact ⟨ret_bool HN.out, rfl⟩

theorem impl_IsChouette_any (a a' : Option Addr) (n c m c' B B' : Nat) (xs ys : List Int) (w : World) (h : Ints w B .i64 a n xs) (h' : Ints w B' .i64 a' m ys) (hc : n ≤ c) (hn : n ≤ 1048576) (hm : m ≤ 1048576) :
    Calls Try.prog 20 #[.slice a n c, .slice a' m c'] w fun e w' => e = .returned (.bool (ordB n xs && outB n m ys)) ∧ w = w' := by
  cases ho : ordB n xs
  · go_enter Try.func20, Try.ntmps20
    go_wp2_with (first | (go_at_call 55; refine (isOrder_any _ _ _ _ _ _ h hc hn).mono ?_; rintro e w' ⟨rfl, rfl⟩) | (go_at_call 56; refine (isOutcomes_any _ _ _ _ _ _ _ _ _ h' hn hm).mono ?_; rintro e w' ⟨rfl, rfl⟩))
    go_ret
    exact ⟨rfl, rfl⟩
  · go_enter Try.func20, Try.ntmps20
    go_wp2_with (first | (go_at_call 55; refine (isOrder_any _ _ _ _ _ _ h hc hn).mono ?_; rintro e w' ⟨rfl, rfl⟩) | (go_at_call 56; refine (isOutcomes_any _ _ _ _ _ _ _ _ _ h' hn hm).mono ?_; rintro e w' ⟨rfl, rfl⟩))
    go_ret
    exact ⟨rfl, rfl⟩

set_option maxHeartbeats 800000 in
theorem spec_IsChouette_any (a a' : Option Addr) (n c m c' B B' : Nat) (xs ys : List Int) (w : World) (h : Ints w B .i64 a n xs) (h' : Ints w B' .i64 a' m ys) (hB : B ≤ w.heap.size) (hB' : B' ≤ w.heap.size) (hn : n ≤ 1048576) (hm : m ≤ 1048576) :
    Calls Try.prog 18 #[.slice a n c, .slice a' m c'] w fun e w' => e = .returned (.bool (ordB n xs && outB n m ys)) ∧ Below w.heap.size w w' := by
  cases ho : ordB n xs
  · go_enter Try.func18, Try.ntmps18
    go_wp2_with (go_at_call 54; refine (l21Order_any _ _ _ _ _ _ h hB hn).mono ?_; rintro e w1 ⟨rfl, hb1⟩)
    go_ret
    exact ⟨rfl, hb1⟩
  · by_cases hl : m + 1 = n
    · subst hl
      by_cases hm0 : m = 0
      · subst hm0
        have := ordB_out ho
        omega
      · obtain ⟨b, off, rfl, hb, hc0⟩ := h'.2 (by omega)
        have hc := Lib.hid hc0
        clear h' hc0
        go_enter Try.func18, Try.ntmps18
        go_wp2_with (go_at_call 54; refine (l21Order_any _ _ _ _ _ _ h hB hn).mono ?_; rintro e w1 ⟨rfl, hb1⟩)
        clear ho
        go_loop [5] (fun i => ∃ k : Nat, k ≤ m ∧ i = .int .i64 k ∧ Hid (allTo (fun y => wB y (-1000000) 1000000) ys k = true)) (fun i => m - (intOf i).toNat)
        case atStart => exact ⟨0, Nat.zero_le _, rfl, rfl⟩
        case round =>
          obtain ⟨k, hk, rfl, hall⟩ := hrel
          by_cases hlt : k < m
          · have hcx := (hb1.cell (p := ⟨b, off + k, none⟩) (by show b < _; omega)).trans (hc.out k hlt)
            obtain ⟨x, hx⟩ : ∃ x, ys.getD k 0 = x := ⟨_, rfl⟩
            rw [hx] at hcx
            have HX := Lib.hid hx
            clear hx
            cases hw : wB x (-1000000) 1000000
            · have HN := Lib.hid (outB_no (n := m + 1) hlt (by rw [HX.out]; exact hw))
              go_wp2_with (go_at_call 50; refine (l01In_any _ _ _ _).mono ?_; rintro e w' ⟨rfl, rfl⟩)
              go_ret
              exact ⟨ret_bool HN.out, hb1⟩
            · have HY := Lib.hid (show allTo (fun y => wB y (-1000000) 1000000) ys (k + 1) = true by rw [allTo_succ, hall.out, HX.out, hw]; rfl)
              go_wp2_with (go_at_call 50; refine (l01In_any _ _ _ _).mono ?_; rintro e w' ⟨rfl, rfl⟩)
              go_round
              case rel => exact ⟨k + 1, by omega, by go_num, HY⟩
              case measure => simp [intOf]; omega
          · obtain rfl : k = m := by omega
            have HY := Lib.hid (outB_yes rfl hall.out)
            go_wp2
            go_ret
            exact ⟨ret_bool HY.out, hb1⟩
    · have HN := Lib.hid (outB_len (ys := ys) hl)
      have hl' : ((m : Int) != (n : Int) - 1) = true := by rw [bne_iff_ne]; omega
      clear hl
      go_enter Try.func18, Try.ntmps18
      go_wp2_with (go_at_call 54; refine (l21Order_any _ _ _ _ _ _ h hB hn).mono ?_; rintro e w1 ⟨rfl, hb1⟩)
      go_ret
      exact ⟨ret_bool HN.out, hb1⟩
end Go.Proofs.Ytocdiflkegbffaa
