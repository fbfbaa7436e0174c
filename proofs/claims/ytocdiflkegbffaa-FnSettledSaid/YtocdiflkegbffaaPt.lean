/-
  The walks of PairTotal (both packages).
-/
import Derived.Test.YtocdiflkegbffaaSes
namespace Go.Proofs.Ytocdiflkegbffaa
open Go.ChangeShapes Go.WideShapes Go.ChangeAt Go.RowKit

theorem ret_two {a b c d : Int} (h : c = a) (k : d = b) : Ending.returned (.tuple #[.int .i64 a, .int .i64 b]) = Ending.returned (.tuple #[.int .i64 c, .int .i64 d]) := by rw [h, k]
def abB (p a b : Int) : Bool := wB a 0 (p - 1) && wB b 0 (p - 1) && !(a == b)
/-- what a has won from b in the first k games, less what b has won from a -/
def ptK (a b : Int) (xs : List Int) : Nat → Int
  | 0 => 0
  | k + 1 => ptK a b xs k + (if xs.getD (k * 3) 0 = a ∧ xs.getD (k * 3 + 1) 0 = b then xs.getD (k * 3 + 2) 0 else if xs.getD (k * 3) 0 = b ∧ xs.getD (k * 3 + 1) 0 = a then -(xs.getD (k * 3 + 2) 0) else 0)
theorem ptK_succ (a b : Int) (xs : List Int) (k : Nat) : ptK a b xs (k + 1) = ptK a b xs k + (if xs.getD (k * 3) 0 = a ∧ xs.getD (k * 3 + 1) 0 = b then xs.getD (k * 3 + 2) 0 else if xs.getD (k * 3) 0 = b ∧ xs.getD (k * 3 + 1) 0 = a then -(xs.getD (k * 3 + 2) 0) else 0) := rfl
theorem okR_z {p x y z : Int} (h : okR p x y z = true) : 1 ≤ z ∧ z ≤ 1000000 := by
  simp only [okR, Bool.and_eq_true] at h
  exact wB_true.1 h.2
theorem okR_xy {p x y z : Int} (h : okR p x y z = true) : 0 ≤ x ∧ x ≤ p - 1 ∧ 0 ≤ y ∧ y ≤ p - 1 ∧ x ≠ y := by
  simp only [okR, Bool.and_eq_true, Bool.not_eq_true', beq_eq_false_iff_ne] at h
  have h1 := wB_true.1 h.1.1.1
  have h2 := wB_true.1 h.1.1.2
  exact ⟨h1.1, h1.2, h2.1, h2.2, h.1.2⟩
theorem ptK_bd {p : Int} (a b : Int) {xs : List Int} : ∀ k : Nat, (∀ i, i < k → okR p (xs.getD (i * 3) 0) (xs.getD (i * 3 + 1) 0) (xs.getD (i * 3 + 2) 0) = true) → -((k : Int) * 1000000) ≤ ptK a b xs k ∧ ptK a b xs k ≤ (k : Int) * 1000000
  | 0, _ => by simp [ptK]
  | k + 1, h => by
    have h1 := ptK_bd a b k (fun i hi => h i (by omega))
    have h2 := okR_z (h k (by omega))
    rw [ptK_succ]
    have e : ((k + 1 : Nat) : Int) * 1000000 = (k : Int) * 1000000 + 1000000 := by omega
    split
    · omega
    · split <;> omega
def ptVal (p : Int) (n : Nat) (xs : List Int) (a b : Int) : Int := if sesB p n xs && abB p a b then ptK a b xs n else 0
def ptCode (p : Int) (n : Nat) (xs : List Int) (a b : Int) : Int := if sesB p n xs then (if abB p a b then 0 else 2) else 1
theorem ptVal_s {p : Int} {n : Nat} {xs : List Int} {a b : Int} (h : sesB p n xs = false) : ptVal p n xs a b = 0 := by rw [ptVal, h]; rfl
theorem ptCode_s {p : Int} {n : Nat} {xs : List Int} {a b : Int} (h : sesB p n xs = false) : ptCode p n xs a b = 1 := by rw [ptCode, h]; rfl
theorem ptVal_r {p : Int} {n : Nat} {xs : List Int} {a b : Int} (h : sesB p n xs = true) (k : abB p a b = false) : ptVal p n xs a b = 0 := by rw [ptVal, h, k]; rfl
theorem ptCode_r {p : Int} {n : Nat} {xs : List Int} {a b : Int} (h : sesB p n xs = true) (k : abB p a b = false) : ptCode p n xs a b = 2 := by rw [ptCode, h, k]; rfl
theorem ptVal_y {p : Int} {n : Nat} {xs : List Int} {a b : Int} (h : sesB p n xs = true) (k : abB p a b = true) : ptVal p n xs a b = ptK a b xs n := by rw [ptVal, h, k]; rfl
theorem ptCode_y {p : Int} {n : Nat} {xs : List Int} {a b : Int} (h : sesB p n xs = true) (k : abB p a b = true) : ptCode p n xs a b = 0 := by rw [ptCode, h, k]; rfl

set_option maxHeartbeats 1600000 in
theorem impl_PairTotal_any (p a b : Int) (ad : Option Addr) (n c : Nat) (xs : List Int) (w : World) (h : Ints w w.heap.size .i64 ad (n * 3) xs) (hn : n ≤ 1048576) :
    Calls Try.prog 25 #[.int .i64 p, .slice ad n c, .int .i64 a, .int .i64 b] w fun e w' => e = .returned (.tuple #[.int .i64 (ptVal p n xs a b), .int .i64 (ptCode p n xs a b)]) ∧ Below w.heap.size w w' := by
  cases hs : sesB p n xs
  · have HV := Lib.hid (ptVal_s (a := a) (b := b) hs)
    have HC := Lib.hid (ptCode_s (a := a) (b := b) hs)
    go_enter Try.func25, Try.ntmps25
    go_wp2_with (first | (go_at_call 16; refine (impl_IsSession_any _ _ _ _ _ _ h hn).mono ?_; rintro e w1 ⟨rfl, hb1⟩) | (go_at_call 52; refine (within_any _ _ _ _).mono ?_; rintro e w' ⟨rfl, rfl⟩))
    go_ret2
    exact ⟨ret_two HV.out HC.out, hb1⟩
  · obtain ⟨⟨p1, p2⟩, hn60, hall0⟩ := sesB_out hs
    have hall := Lib.hid hall0
    clear hall0
    cases hA : wB a 0 (p - 1)
    · have HV := Lib.hid (ptVal_r (b := b) hs (by rw [abB, hA]; rfl))
      have HC := Lib.hid (ptCode_r (b := b) hs (by rw [abB, hA]; rfl))
      go_enter Try.func25, Try.ntmps25
      go_wp2_with (first | (go_at_call 16; refine (impl_IsSession_any _ _ _ _ _ _ h hn).mono ?_; rintro e w1 ⟨rfl, hb1⟩) | (go_at_call 52; refine (within_any _ _ _ _).mono ?_; rintro e w' ⟨rfl, rfl⟩))
      go_ret2
      exact ⟨ret_two HV.out HC.out, hb1⟩
    · cases hB : wB b 0 (p - 1)
      · have HV := Lib.hid (ptVal_r (a := a) hs (by rw [abB, hB, Bool.and_false]; rfl))
        have HC := Lib.hid (ptCode_r (a := a) hs (by rw [abB, hB, Bool.and_false]; rfl))
        go_enter Try.func25, Try.ntmps25
        go_wp2_with (first | (go_at_call 16; refine (impl_IsSession_any _ _ _ _ _ _ h hn).mono ?_; rintro e w1 ⟨rfl, hb1⟩) | (go_at_call 52; refine (within_any _ _ _ _).mono ?_; rintro e w' ⟨rfl, rfl⟩))
        go_ret2
        exact ⟨ret_two HV.out HC.out, hb1⟩
      · by_cases hab : a = b
        · have hab' : (a == b) = true := by simpa using hab
          have HV := Lib.hid (ptVal_r (a := a) (b := b) hs (by rw [abB, hab']; simp))
          have HC := Lib.hid (ptCode_r (a := a) (b := b) hs (by rw [abB, hab']; simp))
          clear hab
          go_enter Try.func25, Try.ntmps25
          go_wp2_with (first | (go_at_call 16; refine (impl_IsSession_any _ _ _ _ _ _ h hn).mono ?_; rintro e w1 ⟨rfl, hb1⟩) | (go_at_call 52; refine (within_any _ _ _ _).mono ?_; rintro e w' ⟨rfl, rfl⟩))
          go_ret2
          exact ⟨ret_two HV.out HC.out, hb1⟩
        · have hab' : (a == b) = false := by simpa using hab
          have hok : abB p a b = true := by rw [abB, hA, hB, hab']; rfl
          have HV := Lib.hid (ptVal_y hs hok)
          have HC := Lib.hid (ptCode_y hs hok)
          clear hok
          go_enter Try.func25, Try.ntmps25
          go_wp2_with (first | (go_at_call 16; refine (impl_IsSession_any _ _ _ _ _ _ h hn).mono ?_; rintro e w1 ⟨rfl, hb1⟩) | (go_at_call 52; refine (within_any _ _ _ _).mono ?_; rintro e w' ⟨rfl, rfl⟩))
          by_cases hn0 : n = 0
          · subst hn0
            go_loop [10, 36] (fun t i => t = .int .i64 0 ∧ i = .int .i64 0) (fun _ _ => 0)
            case atStart => exact ⟨rfl, rfl⟩
            case round =>
              obtain ⟨rfl, rfl⟩ := hrel
              go_wp2
              go_ret2
              exact ⟨ret_two HV.out HC.out, hb1⟩
          · obtain ⟨bl, off, rfl, hbk, hc0⟩ := h.2 (by omega)
            have hc := Lib.hid hc0
            clear h hc0 hA hB hs
            go_loopw [10, 36] (fun t i wr => ∃ (k : Nat) (s : Int), k ≤ n ∧ i = .int .i64 k ∧ t = .int .i64 s ∧ Hid (ptK a b xs k = s) ∧ Below w.heap.size w wr) (fun _ i _ => n - (intOf i).toNat)
            case atStart => exact ⟨0, 0, Nat.zero_le _, rfl, rfl, rfl, hb1⟩
            case round =>
              obtain ⟨k, s, hk, rfl, rfl, hsum, hbel⟩ := hrel
              obtain ⟨s1, s2⟩ := ptK_bd a b k (fun i hi => allR_at hall.out i (by omega))
              rw [hsum.out] at s1 s2
              by_cases hlt : k < n
              · obtain ⟨x, y, z, hx0, hx1, hx2, ex, ey, ez⟩ := rec3_at (w := wr) (fun i hi => (hbel.cell (p := ⟨bl, off + i, none⟩) hbk).trans (hc.out i hi)) hlt
                obtain ⟨z1, z2⟩ := okR_z (ez.out ▸ allR_at hall.out k hlt)
                have hstep := Lib.hid (ptK_succ a b xs k)
                by_cases c1 : x = a ∧ y = b
                · have HS := Lib.hid (show ptK a b xs (k + 1) = s + z by rw [hstep.out, hsum.out, ex.out, ey.out, ez.out, if_pos c1])
                  have e1 : (x == a) = true := by simpa using c1.1
                  have e2 : (y == b) = true := by simpa using c1.2
                  clear c1
                  go_wp2
                  go_roundw
                  case rel => exact ⟨k + 1, _, by omega, by go_num, rfl, HS, hbel.alloc hbel.size _⟩
                  case measure => simp [intOf]; omega
                · by_cases c2 : x = b ∧ y = a
                  · have HS := Lib.hid (show ptK a b xs (k + 1) = s - z by rw [hstep.out, hsum.out, ex.out, ey.out, ez.out, if_neg c1, if_pos c2]; omega)
                    have e0 : (x == a) = false := by simp; omega
                    have e1 : (x == b) = true := by simpa using c2.1
                    have e2 : (y == a) = true := by simpa using c2.2
                    clear c1 c2
                    go_wp2
                    go_roundw
                    case rel => exact ⟨k + 1, _, by omega, by go_num, rfl, HS, hbel.alloc hbel.size _⟩
                    case measure => simp [intOf]; omega
                  · have HS := Lib.hid (show ptK a b xs (k + 1) = s by rw [hstep.out, hsum.out, ex.out, ey.out, ez.out, if_neg c1, if_neg c2]; omega)
                    have d1 : ((x == a) && (y == b)) = false := by
                      cases u : (x == a) && (y == b) with
                      | false => rfl
                      | true => simp at u; exact absurd u c1
                    have d2 : ((x == b) && (y == a)) = false := by
                      cases u : (x == b) && (y == a) with
                      | false => rfl
                      | true => simp at u; exact absurd u c2
                    clear c1 c2
                    cases u1 : x == a
                    · cases u2 : x == b
                      · clear d1 d2
                        go_wp2
                        go_roundw
                        case rel => exact ⟨k + 1, _, by omega, by go_num, rfl, HS, hbel.alloc hbel.size _⟩
                        case measure => simp [intOf]; omega
                      · have u3 : (y == a) = false := by rw [u2] at d2; simpa using d2
                        clear d1 d2
                        go_wp2
                        go_roundw
                        case rel => exact ⟨k + 1, _, by omega, by go_num, rfl, HS, hbel.alloc hbel.size _⟩
                        case measure => simp [intOf]; omega
                    · have u2 : (y == b) = false := by rw [u1] at d1; simpa using d1
                      cases u3 : x == b
                      · clear d1 d2
                        go_wp2
                        go_roundw
                        case rel => exact ⟨k + 1, _, by omega, by go_num, rfl, HS, hbel.alloc hbel.size _⟩
                        case measure => simp [intOf]; omega
                      · have u4 : (y == a) = false := by rw [u3] at d2; simpa using d2
                        clear d1 d2
                        go_wp2
                        go_roundw
                        case rel => exact ⟨k + 1, _, by omega, by go_num, rfl, HS, hbel.alloc hbel.size _⟩
                        case measure => simp [intOf]; omega
              · obtain rfl : k = n := by omega
                go_wp2
                go_ret2
                exact ⟨ret_two (HV.out.trans hsum.out) HC.out, hbel⟩

set_option maxHeartbeats 1600000 in
theorem spec_PairTotal_any (p a b : Int) (ad : Option Addr) (n c : Nat) (xs : List Int) (w : World) (h : Ints w w.heap.size .i64 ad (n * 3) xs) (hn : n ≤ 1048576) :
    Calls Try.prog 26 #[.int .i64 p, .slice ad n c, .int .i64 a, .int .i64 b] w fun e w' => e = .returned (.tuple #[.int .i64 (ptVal p n xs a b), .int .i64 (ptCode p n xs a b)]) ∧ Below w.heap.size w w' := by
  cases hs : sesB p n xs
  · have HV := Lib.hid (ptVal_s (a := a) (b := b) hs)
    have HC := Lib.hid (ptCode_s (a := a) (b := b) hs)
    go_enter Try.func26, Try.ntmps26
    go_wp2_with (first | (go_at_call 14; refine (spec_IsSession_any _ _ _ _ _ _ h hn).mono ?_; rintro e w1 ⟨rfl, hb1⟩) | (go_at_call 50; refine (l01In_any _ _ _ _).mono ?_; rintro e w' ⟨rfl, rfl⟩))
    go_ret2
    exact ⟨ret_two HV.out HC.out, hb1⟩
  · obtain ⟨⟨p1, p2⟩, hn60, hall0⟩ := sesB_out hs
    have hall := Lib.hid hall0
    clear hall0
    cases hA : wB a 0 (p - 1)
    · have HV := Lib.hid (ptVal_r (b := b) hs (by rw [abB, hA]; rfl))
      have HC := Lib.hid (ptCode_r (b := b) hs (by rw [abB, hA]; rfl))
      go_enter Try.func26, Try.ntmps26
      go_wp2_with (first | (go_at_call 14; refine (spec_IsSession_any _ _ _ _ _ _ h hn).mono ?_; rintro e w1 ⟨rfl, hb1⟩) | (go_at_call 50; refine (l01In_any _ _ _ _).mono ?_; rintro e w' ⟨rfl, rfl⟩))
      go_ret2
      exact ⟨ret_two HV.out HC.out, hb1⟩
    · cases hB : wB b 0 (p - 1)
      · have HV := Lib.hid (ptVal_r (a := a) hs (by rw [abB, hB, Bool.and_false]; rfl))
        have HC := Lib.hid (ptCode_r (a := a) hs (by rw [abB, hB, Bool.and_false]; rfl))
        go_enter Try.func26, Try.ntmps26
        go_wp2_with (first | (go_at_call 14; refine (spec_IsSession_any _ _ _ _ _ _ h hn).mono ?_; rintro e w1 ⟨rfl, hb1⟩) | (go_at_call 50; refine (l01In_any _ _ _ _).mono ?_; rintro e w' ⟨rfl, rfl⟩))
        go_ret2
        exact ⟨ret_two HV.out HC.out, hb1⟩
      · by_cases hab : a = b
        · have hab' : (a == b) = true := by simpa using hab
          have HV := Lib.hid (ptVal_r (a := a) (b := b) hs (by rw [abB, hab']; simp))
          have HC := Lib.hid (ptCode_r (a := a) (b := b) hs (by rw [abB, hab']; simp))
          clear hab
          go_enter Try.func26, Try.ntmps26
          go_wp2_with (first | (go_at_call 14; refine (spec_IsSession_any _ _ _ _ _ _ h hn).mono ?_; rintro e w1 ⟨rfl, hb1⟩) | (go_at_call 50; refine (l01In_any _ _ _ _).mono ?_; rintro e w' ⟨rfl, rfl⟩))
          go_ret2
          exact ⟨ret_two HV.out HC.out, hb1⟩
        · have hab' : (a == b) = false := by simpa using hab
          have hok : abB p a b = true := by rw [abB, hA, hB, hab']; rfl
          have HV := Lib.hid (ptVal_y hs hok)
          have HC := Lib.hid (ptCode_y hs hok)
          clear hok
          go_enter Try.func26, Try.ntmps26
          go_wp2_with (first | (go_at_call 14; refine (spec_IsSession_any _ _ _ _ _ _ h hn).mono ?_; rintro e w1 ⟨rfl, hb1⟩) | (go_at_call 50; refine (l01In_any _ _ _ _).mono ?_; rintro e w' ⟨rfl, rfl⟩))
          by_cases hn0 : n = 0
          · subst hn0
            go_loop [10, 11] (fun t i => t = .int .i64 0 ∧ i = .int .i64 0) (fun _ _ => 0)
            case atStart => exact ⟨rfl, rfl⟩
            case round =>
              obtain ⟨rfl, rfl⟩ := hrel
              go_wp2
              go_ret2
              exact ⟨ret_two HV.out HC.out, hb1⟩
          · obtain ⟨bl, off, rfl, hbk, hc0⟩ := h.2 (by omega)
            have hc := Lib.hid hc0
            clear h hc0 hA hB hs
            go_loopw [10, 11] (fun t i wr => ∃ (k : Nat) (s : Int), k ≤ n ∧ i = .int .i64 k ∧ t = .int .i64 s ∧ Hid (ptK a b xs k = s) ∧ Below w.heap.size w wr) (fun _ i _ => n - (intOf i).toNat)
            case atStart => exact ⟨0, 0, Nat.zero_le _, rfl, rfl, rfl, hb1⟩
            case round =>
              obtain ⟨k, s, hk, rfl, rfl, hsum, hbel⟩ := hrel
              obtain ⟨s1, s2⟩ := ptK_bd a b k (fun i hi => allR_at hall.out i (by omega))
              rw [hsum.out] at s1 s2
              by_cases hlt : k < n
              · obtain ⟨x, y, z, hx0, hx1, hx2, ex, ey, ez⟩ := rec3_at (w := wr) (fun i hi => (hbel.cell (p := ⟨bl, off + i, none⟩) hbk).trans (hc.out i hi)) hlt
                obtain ⟨z1, z2⟩ := okR_z (ez.out ▸ allR_at hall.out k hlt)
                have hstep := Lib.hid (ptK_succ a b xs k)
                by_cases c1 : x = a ∧ y = b
                · have HS := Lib.hid (show ptK a b xs (k + 1) = s + z by rw [hstep.out, hsum.out, ex.out, ey.out, ez.out, if_pos c1])
                  have e1 : (x == a) = true := by simpa using c1.1
                  have e2 : (y == b) = true := by simpa using c1.2
                  clear c1
                  go_wp2
                  go_roundw
                  case rel => exact ⟨k + 1, _, by omega, by go_num, rfl, HS, hbel⟩
                  case measure => simp [intOf]; omega
                · by_cases c2 : x = b ∧ y = a
                  · have HS := Lib.hid (show ptK a b xs (k + 1) = s - z by rw [hstep.out, hsum.out, ex.out, ey.out, ez.out, if_neg c1, if_pos c2]; omega)
                    have e0 : (x == a) = false := by simp; omega
                    have e1 : (x == b) = true := by simpa using c2.1
                    have e2 : (y == a) = true := by simpa using c2.2
                    clear c1 c2
                    go_wp2
                    go_roundw
                    case rel => exact ⟨k + 1, _, by omega, by go_num, rfl, HS, hbel⟩
                    case measure => simp [intOf]; omega
                  · have HS := Lib.hid (show ptK a b xs (k + 1) = s by rw [hstep.out, hsum.out, ex.out, ey.out, ez.out, if_neg c1, if_neg c2]; omega)
                    have d1 : ((x == a) && (y == b)) = false := by
                      cases u : (x == a) && (y == b) with
                      | false => rfl
                      | true => simp at u; exact absurd u c1
                    have d2 : ((x == b) && (y == a)) = false := by
                      cases u : (x == b) && (y == a) with
                      | false => rfl
                      | true => simp at u; exact absurd u c2
                    clear c1 c2
                    cases u1 : x == a
                    · cases u2 : x == b
                      · clear d1 d2
                        go_wp2
                        go_roundw
                        case rel => exact ⟨k + 1, _, by omega, by go_num, rfl, HS, hbel⟩
                        case measure => simp [intOf]; omega
                      · have u3 : (y == a) = false := by rw [u2] at d2; simpa using d2
                        clear d1 d2
                        go_wp2
                        go_roundw
                        case rel => exact ⟨k + 1, _, by omega, by go_num, rfl, HS, hbel⟩
                        case measure => simp [intOf]; omega
                    · have u2 : (y == b) = false := by rw [u1] at d1; simpa using d1
                      cases u3 : x == b
                      · clear d1 d2
                        go_wp2
                        go_roundw
                        case rel => exact ⟨k + 1, _, by omega, by go_num, rfl, HS, hbel⟩
                        case measure => simp [intOf]; omega
                      · have u4 : (y == a) = false := by rw [u3] at d2; simpa using d2
                        clear d1 d2
                        go_wp2
                        go_roundw
                        case rel => exact ⟨k + 1, _, by omega, by go_num, rfl, HS, hbel⟩
                        case measure => simp [intOf]; omega
              · obtain rfl : k = n := by omega
                go_wp2
                go_ret2
                exact ⟨ret_two (HV.out.trans hsum.out) HC.out, hbel⟩
end Go.Proofs.Ytocdiflkegbffaa
