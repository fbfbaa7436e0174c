/-
  The walks of IsSession (both packages).
-/
import Derived.Test.YtocdiflkegbffaaGr
namespace Go.Proofs.Ytocdiflkegbffaa
open Go.ChangeShapes Go.WideShapes Go.ChangeAt Go.RowKit

def okR (p x y z : Int) : Bool := wB x 0 (p - 1) && wB y 0 (p - 1) && !(x == y) && wB z 1 1000000
def allR (p : Int) (xs : List Int) : Nat → Bool
  | 0 => true
  | k + 1 => allR p xs k && okR p (xs.getD (k * 3) 0) (xs.getD (k * 3 + 1) 0) (xs.getD (k * 3 + 2) 0)
theorem allR_succ (p : Int) (xs : List Int) (k : Nat) : allR p xs (k + 1) = (allR p xs k && okR p (xs.getD (k * 3) 0) (xs.getD (k * 3 + 1) 0) (xs.getD (k * 3 + 2) 0)) := rfl
theorem allR_at {p : Int} {xs : List Int} : ∀ {k : Nat}, allR p xs k = true → ∀ i, i < k → okR p (xs.getD (i * 3) 0) (xs.getD (i * 3 + 1) 0) (xs.getD (i * 3 + 2) 0) = true
  | 0, _, i, hi => absurd hi (by omega)
  | k + 1, h, i, hi => by
    rw [allR_succ, Bool.and_eq_true] at h
    by_cases e : i = k
    · subst e; exact h.2
    · exact allR_at h.1 i (by omega)
theorem allR_no {p : Int} {xs : List Int} {n i : Nat} (hi : i < n) (h : okR p (xs.getD (i * 3) 0) (xs.getD (i * 3 + 1) 0) (xs.getD (i * 3 + 2) 0) = false) : allR p xs n = false := by
  cases e : allR p xs n with
  | false => rfl
  | true => rw [allR_at e i hi] at h; cases h
/-- what both packages' IsSession returns -/
def sesB (p : Int) (n : Nat) (xs : List Int) : Bool := wB p 2 8 && (decide (n ≤ 60) && allR p xs n)
theorem sesB_p {p : Int} {n : Nat} {xs : List Int} (h : wB p 2 8 = false) : sesB p n xs = false := by rw [sesB, h, Bool.false_and]
theorem sesB_n {p : Int} {n : Nat} {xs : List Int} (h : 60 < n) : sesB p n xs = false := by
  have : decide (n ≤ 60) = false := by simp; omega
  rw [sesB, this, Bool.false_and, Bool.and_false]
theorem sesB_no {p : Int} {n i : Nat} {xs : List Int} (hi : i < n) (h : okR p (xs.getD (i * 3) 0) (xs.getD (i * 3 + 1) 0) (xs.getD (i * 3 + 2) 0) = false) : sesB p n xs = false := by rw [sesB, allR_no hi h, Bool.and_false, Bool.and_false]
theorem sesB_yes {p : Int} {n : Nat} {xs : List Int} (h : wB p 2 8 = true) (hn : n ≤ 60) (ha : allR p xs n = true) : sesB p n xs = true := by
  have : decide (n ≤ 60) = true := by simpa using hn
  rw [sesB, h, this, ha]; rfl
theorem sesB_out {p : Int} {n : Nat} {xs : List Int} (h : sesB p n xs = true) : (2 ≤ p ∧ p ≤ 8) ∧ n ≤ 60 ∧ allR p xs n = true := by
  simp only [sesB, Bool.and_eq_true, decide_eq_true_eq] at h
  exact ⟨wB_true.1 h.1, h.2.1, h.2.2⟩

set_option maxHeartbeats 1600000 in
theorem impl_IsSession_any (p : Int) (a : Option Addr) (n c : Nat) (xs : List Int) (w : World) (h : Ints w w.heap.size .i64 a (n * 3) xs) (hn : n ≤ 1048576) :
    Calls Try.prog 16 #[.int .i64 p, .slice a n c] w fun e w' => e = .returned (.bool (sesB p n xs)) ∧ Below w.heap.size w w' := by
  cases hp : wB p 2 8
  · have HN := Lib.hid (sesB_p (n := n) (xs := xs) hp)
    go_enter Try.func16, Try.ntmps16
    go_wp2_with (go_at_call 52; refine (within_any _ _ _ _).mono ?_; rintro e w' ⟨rfl, rfl⟩)
    go_ret
    exact ⟨ret_bool HN.out, Below.refl _ _⟩
  · by_cases h60 : 60 < n
    · have HN := Lib.hid (sesB_n (p := p) (xs := xs) h60)
      go_enter Try.func16, Try.ntmps16
      go_wp2_with (go_at_call 52; refine (within_any _ _ _ _).mono ?_; rintro e w' ⟨rfl, rfl⟩)
      go_ret
      exact ⟨ret_bool HN.out, Below.refl _ _⟩
    · obtain ⟨p1, p2⟩ := wB_true.1 hp
      by_cases hn0 : n = 0
      · subst hn0
        have HY := Lib.hid (sesB_yes (xs := xs) hp (show 0 ≤ 60 by omega) rfl)
        go_enter Try.func16, Try.ntmps16
        go_wp2_with (go_at_call 52; refine (within_any _ _ _ _).mono ?_; rintro e w' ⟨rfl, rfl⟩)
        go_loop [17] (fun i => i = .int .i64 0) (fun _ => 0)
        case atStart => rfl
        case round =>
          subst hrel
          go_wp2
          go_ret
          exact ⟨ret_bool HY.out, Below.refl _ _⟩
      · obtain ⟨b, off, rfl, hb, hc0⟩ := h.2 (by omega)
        have hc := Lib.hid hc0
        clear h hc0
        have HP := Lib.hid hp
        go_enter Try.func16, Try.ntmps16
        go_wp2_with (go_at_call 52; refine (within_any _ _ _ _).mono ?_; rintro e w' ⟨rfl, rfl⟩)
        clear hp
        go_loopw [17] (fun i wr => ∃ k : Nat, k ≤ n ∧ i = .int .i64 k ∧ Below w.heap.size w wr ∧ Hid (allR p xs k = true)) (fun i _ => n - (intOf i).toNat)
        case atStart => exact ⟨0, Nat.zero_le _, rfl, Below.refl _ _, rfl⟩
        case round =>
          obtain ⟨k, hk, rfl, hbel, hall⟩ := hrel
          by_cases hlt : k < n
          · obtain ⟨x, y, z, hx0, hx1, hx2, ex, ey, ez⟩ := rec3_at (w := wr) (fun i hi => (hbel.cell (p := ⟨b, off + i, none⟩) hb).trans (hc.out i hi)) hlt
            cases hA : wB x 0 (p - 1)
            · have HN := Lib.hid (sesB_no (p := p) hlt (by rw [ex.out, ey.out, ez.out, okR, hA]; rfl))
              go_wp2_with (go_at_call 52; refine (within_any _ _ _ _).mono ?_; rintro e w' ⟨rfl, rfl⟩)
              go_ret
              exact ⟨ret_bool HN.out, hbel.alloc hbel.size _⟩
            · cases hB : wB y 0 (p - 1)
              · have HN := Lib.hid (sesB_no (p := p) hlt (by rw [ex.out, ey.out, ez.out, okR, hB, Bool.and_false]; rfl))
                go_wp2_with (go_at_call 52; refine (within_any _ _ _ _).mono ?_; rintro e w' ⟨rfl, rfl⟩)
                go_ret
                exact ⟨ret_bool HN.out, hbel.alloc hbel.size _⟩
              · by_cases hxy : x = y
                · have HN := Lib.hid (sesB_no (p := p) hlt (by rw [ex.out, ey.out, ez.out, okR, hxy]; simp))
                  have hxy' : (x == y) = true := by simpa using hxy
                  clear hxy
                  go_wp2_with (go_at_call 52; refine (within_any _ _ _ _).mono ?_; rintro e w' ⟨rfl, rfl⟩)
                  go_ret
                  exact ⟨ret_bool HN.out, hbel.alloc hbel.size _⟩
                · have hxy' : (x == y) = false := by simpa using hxy
                  cases hC : wB z 1 1000000
                  · have HN := Lib.hid (sesB_no (p := p) hlt (by rw [ex.out, ey.out, ez.out, okR, hC, Bool.and_false]))
                    go_wp2_with (go_at_call 52; refine (within_any _ _ _ _).mono ?_; rintro e w' ⟨rfl, rfl⟩)
                    go_ret
                    exact ⟨ret_bool HN.out, hbel.alloc hbel.size _⟩
                  · have HY := Lib.hid (show allR p xs (k + 1) = true by rw [allR_succ, hall.out, ex.out, ey.out, ez.out, okR, hA, hB, hxy', hC]; rfl)
                    go_wp2_with (go_at_call 52; refine (within_any _ _ _ _).mono ?_; rintro e w' ⟨rfl, rfl⟩)
                    go_roundw
                    case rel => exact ⟨k + 1, by omega, by go_num, hbel.alloc hbel.size _, HY⟩
                    case measure => simp [intOf]; omega
          · obtain rfl : k = n := by omega
            have HY := Lib.hid (sesB_yes (xs := xs) HP.out (show k ≤ 60 by omega) hall.out)
            go_wp2
            go_ret
            exact ⟨ret_bool HY.out, hbel⟩

set_option maxHeartbeats 1600000 in
theorem spec_IsSession_any (p : Int) (a : Option Addr) (n c : Nat) (xs : List Int) (w : World) (h : Ints w w.heap.size .i64 a (n * 3) xs) (hn : n ≤ 1048576) :
    Calls Try.prog 14 #[.int .i64 p, .slice a n c] w fun e w' => e = .returned (.bool (sesB p n xs)) ∧ Below w.heap.size w w' := by
  cases hp : wB p 2 8
  · have HN := Lib.hid (sesB_p (n := n) (xs := xs) hp)
    go_enter Try.func14, Try.ntmps14
    go_wp2_with (go_at_call 50; refine (l01In_any _ _ _ _).mono ?_; rintro e w' ⟨rfl, rfl⟩)
    go_ret
    exact ⟨ret_bool HN.out, Below.refl _ _⟩
  · by_cases h60 : 60 < n
    · have HN := Lib.hid (sesB_n (p := p) (xs := xs) h60)
      go_enter Try.func14, Try.ntmps14
      go_wp2_with (go_at_call 50; refine (l01In_any _ _ _ _).mono ?_; rintro e w' ⟨rfl, rfl⟩)
      go_ret
      exact ⟨ret_bool HN.out, Below.refl _ _⟩
    · obtain ⟨p1, p2⟩ := wB_true.1 hp
      by_cases hn0 : n = 0
      · subst hn0
        have HY := Lib.hid (sesB_yes (xs := xs) hp (show 0 ≤ 60 by omega) rfl)
        go_enter Try.func14, Try.ntmps14
        go_wp2_with (go_at_call 50; refine (l01In_any _ _ _ _).mono ?_; rintro e w' ⟨rfl, rfl⟩)
        go_loop [5] (fun i => i = .int .i64 0) (fun _ => 0)
        case atStart => rfl
        case round =>
          subst hrel
          go_wp2
          go_ret
          exact ⟨ret_bool HY.out, Below.refl _ _⟩
      · obtain ⟨b, off, rfl, hb, hc0⟩ := h.2 (by omega)
        have hc := Lib.hid hc0
        clear h hc0
        have HP := Lib.hid hp
        go_enter Try.func14, Try.ntmps14
        go_wp2_with (go_at_call 50; refine (l01In_any _ _ _ _).mono ?_; rintro e w' ⟨rfl, rfl⟩)
        clear hp
        go_loopw [5] (fun i wr => ∃ k : Nat, k ≤ n ∧ i = .int .i64 k ∧ Below w.heap.size w wr ∧ Hid (allR p xs k = true)) (fun i _ => n - (intOf i).toNat)
        case atStart => exact ⟨0, Nat.zero_le _, rfl, Below.refl _ _, rfl⟩
        case round =>
          obtain ⟨k, hk, rfl, hbel, hall⟩ := hrel
          by_cases hlt : k < n
          · obtain ⟨x, y, z, hx0, hx1, hx2, ex, ey, ez⟩ := rec3_at (w := wr) (fun i hi => (hbel.cell (p := ⟨b, off + i, none⟩) hb).trans (hc.out i hi)) hlt
            cases hA : wB x 0 (p - 1)
            · have HN := Lib.hid (sesB_no (p := p) hlt (by rw [ex.out, ey.out, ez.out, okR, hA]; rfl))
              go_wp2_with (go_at_call 50; refine (l01In_any _ _ _ _).mono ?_; rintro e w' ⟨rfl, rfl⟩)
              go_ret
              exact ⟨ret_bool HN.out, hbel.alloc hbel.size _⟩
            · cases hB : wB y 0 (p - 1)
              · have HN := Lib.hid (sesB_no (p := p) hlt (by rw [ex.out, ey.out, ez.out, okR, hB, Bool.and_false]; rfl))
                go_wp2_with (go_at_call 50; refine (l01In_any _ _ _ _).mono ?_; rintro e w' ⟨rfl, rfl⟩)
                go_ret
                exact ⟨ret_bool HN.out, hbel.alloc hbel.size _⟩
              · by_cases hxy : x = y
                · have HN := Lib.hid (sesB_no (p := p) hlt (by rw [ex.out, ey.out, ez.out, okR, hxy]; simp))
                  have hxy' : (x == y) = true := by simpa using hxy
                  clear hxy
                  go_wp2_with (go_at_call 50; refine (l01In_any _ _ _ _).mono ?_; rintro e w' ⟨rfl, rfl⟩)
                  go_ret
                  exact ⟨ret_bool HN.out, hbel.alloc hbel.size _⟩
                · have hxy' : (x == y) = false := by simpa using hxy
                  cases hC : wB z 1 1000000
                  · have HN := Lib.hid (sesB_no (p := p) hlt (by rw [ex.out, ey.out, ez.out, okR, hC, Bool.and_false]))
                    go_wp2_with (go_at_call 50; refine (l01In_any _ _ _ _).mono ?_; rintro e w' ⟨rfl, rfl⟩)
                    go_ret
                    exact ⟨ret_bool HN.out, hbel.alloc hbel.size _⟩
                  · have HY := Lib.hid (show allR p xs (k + 1) = true by rw [allR_succ, hall.out, ex.out, ey.out, ez.out, okR, hA, hB, hxy', hC]; rfl)
                    go_wp2_with (go_at_call 50; refine (l01In_any _ _ _ _).mono ?_; rintro e w' ⟨rfl, rfl⟩)
                    go_roundw
                    case rel => exact ⟨k + 1, by omega, by go_num, hbel.alloc hbel.size _, HY⟩
                    case measure => simp [intOf]; omega
          · obtain rfl : k = n := by omega
            have HY := Lib.hid (sesB_yes (xs := xs) HP.out (show k ≤ 60 by omega) hall.out)
            go_wp2
            go_ret
            exact ⟨ret_bool HY.out, hbel⟩
end Go.Proofs.Ytocdiflkegbffaa
