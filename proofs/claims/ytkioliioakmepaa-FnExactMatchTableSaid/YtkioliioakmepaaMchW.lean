/-
  The walks of the checks of match models and states (both packages).
-/
import Derived.Test.YtkioliioakmepaaMchP
import Derived.Test.YtkioliioakmepaaBase
import Derived.Test.YtkioliioakmepaaEq
namespace Go.Proofs.Ytkioliioakmepaa
open Go.ChangeShapes Go.WideShapes Go.ChangeAt Go.RowKit
set_option linter.unusedVariables false

/-- the first k weights lie in 0 .. 16 -/
def wkK (xs : List Int) : Nat → Bool
  | 0 => true
  | k + 1 => wkK xs k && wB (xs.getD k 0) 0 16
theorem wkK_no {xs : List Int} {k : Nat} (hx : wB (xs.getD k 0) 0 16 = false) : ∀ n, k < n → wkK xs n = false
  | 0, h => absurd h (by omega)
  | n + 1, h => by
    by_cases e : k = n
    · subst e; rw [wkK, hx, Bool.and_false]
    · rw [wkK, wkK_no hx n (by omega), Bool.false_and]
theorem wkK_at {xs : List Int} : ∀ {n k : Nat}, wkK xs n = true → k < n → 0 ≤ xs.getD k 0 ∧ xs.getD k 0 ≤ 16
  | 0, k, _, h => absurd h (by omega)
  | n + 1, k, h, hk => by
    rw [wkK, Bool.and_eq_true] at h
    by_cases e : k = n
    · subst e; exact wB_true.1 h.2
    · exact wkK_at h.1 (by omega)
/-- what both packages ask of a list of weights -/
def wkB (n : Nat) (xs : List Int) : Bool := decide (n = 4) && (wkK xs 4 && pwB (psum xs 4) 16)
theorem psum4 (xs : List Int) : psum xs 4 = sum4 xs := by simp [psum, sum4]
theorem wkB_out {n : Nat} {xs : List Int} (h : wkB n xs = true) (hl : xs.length = n) : n = 4 ∧ wOk xs := by
  unfold wkB at h
  simp only [Bool.and_eq_true] at h
  obtain ⟨h1, h2, h3⟩ := h
  have h4 : n = 4 := of_decide_eq_true h1
  refine ⟨h4, by omega, wkK_at h2 (by omega), wkK_at h2 (by omega), wkK_at h2 (by omega), wkK_at h2 (by omega), ?_⟩
  rw [psum4] at h3
  unfold pwB at h3
  simp at h3
  unfold okM
  omega

set_option maxHeartbeats 800000 in
theorem isWeights_any (a : Option Addr) (n c B : Nat) (xs : List Int) (w : World) (h : Ints w B .i64 a n xs) (hn : n ≤ 1048576) :
    Calls Try.prog 99 #[.slice a n c] w fun e w' => e = .returned (.bool (wkB n xs)) ∧ w = w' := by
  by_cases h4 : n = 4
  · subst h4
    have HT := Lib.hid (fun (hw : wkK xs 4 = true) W (hW : W = w) => hW ▸ total_any a 4 c B xs w 16 h (fun i hi => by have := wkK_at hw hi; omega) (by omega) (by omega) (by omega))
    obtain ⟨b, off, rfl, hb, hc0⟩ := h.2 (by omega)
    have HC := Lib.hid hc0
    clear h hc0
    go_enter Try.func99, Try.ntmps99
    go_wp2_with fail
    go_loop [10] (fun i => ∃ k : Nat, k ≤ 4 ∧ i = .int .i64 k ∧ Hid (wkK xs k = true)) (fun i => 4 - (intOf i).toNat)
    case atStart => exact ⟨0, Nat.zero_le _, rfl, rfl⟩
    case round =>
      obtain ⟨k, hk, rfl, hf⟩ := hrel
      by_cases hlt : k < 4
      · have hcx := HC.out k hlt
        obtain ⟨x, hx⟩ : ∃ x, xs.getD k 0 = x := ⟨_, rfl⟩
        rw [hx] at hcx
        cases hw : wB x 0 16
        · have HV := Lib.hid (show wkB 4 xs = false by rw [wkB, wkK_no (k := k) (by rw [hx]; exact hw) 4 hlt, Bool.false_and, Bool.and_false])
          clear hx
          go_wp2_with fail
          refine (within_any _ _ _ _).mono ?_
          rintro e w' ⟨rfl, rfl⟩
          rw [hw]
          go_wp2_with fail
          go_ret
          exact ⟨ret_bool HV.out, rfl⟩
        · have HN := Lib.hid (show wkK xs (k + 1) = true by rw [wkK, hf.out, hx, hw]; rfl)
          clear hx
          go_wp2_with fail
          refine (within_any _ _ _ _).mono ?_
          rintro e w' ⟨rfl, rfl⟩
          rw [hw]
          go_wp2_with fail
          go_round
          case rel => exact ⟨k + 1, by omega, by go_num, HN⟩
          case measure => simp [intOf]; omega
      · obtain rfl : k = 4 := by omega
        have HV := Lib.hid (show wkB 4 xs = pwB (psum xs 4) 16 by rw [wkB, hf.out]; rfl)
        go_wp2_with fail
        refine (HT.out hf.out _ rfl).mono ?_
        rintro e w' ⟨rfl, rfl⟩
        go_wp2_with fail
        refine (powerUpTo_any _ _ _ (by omega)).mono ?_
        rintro e w' ⟨rfl, rfl⟩
        go_wp2_with fail
        go_ret
        exact ⟨ret_bool HV.out, rfl⟩
  · have h5 : ((n : Int) != 4) = true := by simp; omega
    have HV := Lib.hid (show wkB n xs = false by rw [wkB, decide_eq_false h4, Bool.false_and])
    clear h
    go_enter Try.func99, Try.ntmps99
    go_wp2_with fail
    go_ret
    exact ⟨ret_bool HV.out, rfl⟩

/-- what l18Sum returns -/
def wkS (n : Nat) (xs : List Int) : Int := if wkB n xs then sum4 xs else 0
set_option maxHeartbeats 1600000 in
theorem l18Sum_any (a : Option Addr) (n c B : Nat) (xs : List Int) (w : World) (h : Ints w B .i64 a n xs) (hn : n ≤ 1048576) :
    Calls Try.prog 95 #[.slice a n c] w fun e w' => e = .returned (.int .i64 (wkS n xs)) ∧ w = w' := by
  by_cases h4 : n = 4
  · subst h4
    obtain ⟨b, off, rfl, hb, hc0⟩ := h.2 (by omega)
    have HC := Lib.hid hc0
    clear h hc0
    go_enter Try.func95, Try.ntmps95
    go_wp2_with fail
    go_loop [3, 4] (fun s i => ∃ (k : Nat) (t : Int), k ≤ 4 ∧ s = .int .i64 t ∧ i = .int .i64 k ∧ 0 ≤ t ∧ t ≤ 64 ∧ Hid (t = psum xs k ∧ t ≤ 16 * k ∧ wkK xs k = true)) (fun _ i => 4 - (intOf i).toNat)
    case atStart => exact ⟨0, 0, Nat.zero_le _, rfl, rfl, by omega, by omega, rfl, by omega, rfl⟩
    case round =>
      obtain ⟨k, t, hk, rfl, rfl, t0, t1, hf⟩ := hrel
      by_cases hlt : k < 4
      · have hcx := HC.out k hlt
        obtain ⟨x, hx⟩ : ∃ x, xs.getD k 0 = x := ⟨_, rfl⟩
        rw [hx] at hcx
        cases hw : wB x 0 16
        · have HV := Lib.hid (show wkS 4 xs = 0 by rw [wkS, wkB, wkK_no (k := k) (by rw [hx]; exact hw) 4 hlt, Bool.false_and, Bool.and_false]; rfl)
          clear hx
          go_wp2_with fail
          refine (l01In_any _ _ _ _).mono ?_
          rintro e w' ⟨rfl, rfl⟩
          rw [hw]
          go_wp2_with fail
          go_ret
          exact ⟨ret_int HV.out, rfl⟩
        · obtain ⟨x0, x1⟩ := wB_true.1 hw
          have hle := hf.out.2.1
          have HN := Lib.hid (show t + x = psum xs (k + 1) ∧ t + x ≤ 16 * ((k + 1 : Nat) : Int) ∧ wkK xs (k + 1) = true from ⟨by rw [psum_succ, ← hf.out.1, hx], by omega, by rw [wkK, hf.out.2.2, hx, hw]; rfl⟩)
          have hle2 : t + x ≤ 64 := by omega
          clear hx hle
          go_wp2_with fail
          refine (l01In_any _ _ _ _).mono ?_
          rintro e w' ⟨rfl, rfl⟩
          rw [hw]
          go_wp2_with fail
          go_round
          case rel => exact ⟨k + 1, t + x, by omega, rfl, by go_num, by omega, by omega, HN⟩
          case measure => simp [intOf]; omega
      · obtain rfl : k = 4 := by omega
        have hw := hf.out.2.2
        have hs := hf.out.1
        by_cases p : t = 1 ∨ t = 2 ∨ t = 4 ∨ t = 8 ∨ t = 16
        · have HV := Lib.hid (show wkS 4 xs = t by
            have : pwB (psum xs 4) 16 = true := by rw [← hs]; unfold pwB; simp; omega
            rw [wkS, wkB, hw, this, ← psum4, ← hs]; rfl)
          clear hw hs hf
          rcases p with rfl | rfl | rfl | rfl | rfl
          all_goals
            go_wp2_with fail
            go_ret
            exact ⟨ret_int HV.out, rfl⟩
        · have HV := Lib.hid (show wkS 4 xs = 0 by
            have : pwB (psum xs 4) 16 = false := by rw [← hs]; unfold pwB; simp; omega
            rw [wkS, wkB, hw, this]; rfl)
          have e1 : (t == 1) = false := by simp; omega
          have e2 : (t == 2) = false := by simp; omega
          have e3 : (t == 4) = false := by simp; omega
          have e4 : (t == 8) = false := by simp; omega
          have e5 : (t == 16) = false := by simp; omega
          clear hw hs hf p
          go_wp2_with fail
          go_ret
          exact ⟨ret_int HV.out, rfl⟩
  · have h5 : ((n : Int) != 4) = true := by simp; omega
    have HV := Lib.hid (show wkS n xs = 0 by rw [wkS, wkB, decide_eq_false h4, Bool.false_and]; rfl)
    clear h
    go_enter Try.func95, Try.ntmps95
    go_wp2_with fail
    go_ret
    exact ⟨ret_int HV.out, rfl⟩

/-- a match model with its three lists -/
abbrev mmV (a : Option Addr) (n c : Nat) (b : Option Addr) (m d : Nat) (e : Option Addr) (p f : Nat) : Value := .agg #[.slice a n c, .slice b m d, .slice e p f]
def mmB (n : Nat) (xs : List Int) (m : Nat) (ys : List Int) (p : Nat) (zs : List Int) : Bool := wkB n xs && (wkB m ys && wkB p zs)
def wkS' (n : Nat) (xs : List Int) : Int := if wkB n xs then sum4 xs else 0
theorem wkS_no {n : Nat} {xs : List Int} (h : wkB n xs = false) : wkS n xs = 0 := by rw [wkS, h]; rfl
theorem wkS_yes {n : Nat} {xs : List Int} (h : wkB n xs = true) : ∃ s, wkS n xs = s ∧ 0 < s := by
  refine ⟨_, rfl, ?_⟩
  rw [wkS, h]
  unfold wkB at h
  simp only [Bool.and_eq_true] at h
  have := pwB_pos h.2.2
  rw [psum4] at this
  show 0 < sum4 xs
  omega

set_option maxHeartbeats 800000 in
theorem impl_IsMatchModel_any (a : Option Addr) (n c : Nat) (xs : List Int) (b : Option Addr) (m d : Nat) (ys : List Int) (e : Option Addr) (p f : Nat) (zs : List Int) (w : World)
    (h1 : Ints w w.heap.size .i64 a n xs) (h2 : Ints w w.heap.size .i64 b m ys) (h3 : Ints w w.heap.size .i64 e p zs) (hn : n ≤ 1048576) (hm : m ≤ 1048576) (hp : p ≤ 1048576) :
    Calls Try.prog 81 #[mmV a n c b m d e p f] w fun e' w' => e' = .returned (.bool (mmB n xs m ys p zs)) ∧ Below w.heap.size w w' := by
  have HB := (Below.refl w.heap.size w).alloc (Nat.le_refl _) (.cells #[.slice a n c, .slice b m d, .slice e p f] 26)
  have H1 := Lib.hid (isWeights_any a n c _ xs _ (h1.below HB) hn)
  have H2 := Lib.hid (isWeights_any b m d _ ys _ (h2.below HB) hm)
  have H3 := Lib.hid (isWeights_any e p f _ zs _ (h3.below HB) hp)
  clear h1 h2 h3
  cases k1 : wkB n xs
  · go_enter Try.func81, Try.ntmps81
    go_wp2_with fail
    refine H1.out.mono ?_
    rintro e1 w1 ⟨rfl, rfl⟩
    rw [k1]
    go_wp2_with fail
    go_ret
    exact ⟨ret_bool (by rw [mmB, k1]; rfl), HB⟩
  cases k2 : wkB m ys
  · go_enter Try.func81, Try.ntmps81
    go_wp2_with fail
    refine H1.out.mono ?_
    rintro e1 w1 ⟨rfl, rfl⟩
    rw [k1]
    go_wp2_with fail
    refine H2.out.mono ?_
    rintro e1 w1 ⟨rfl, rfl⟩
    rw [k2]
    go_wp2_with fail
    go_ret
    exact ⟨ret_bool (by rw [mmB, k1, k2]; rfl), HB⟩
  cases k3 : wkB p zs
  · go_enter Try.func81, Try.ntmps81
    go_wp2_with fail
    refine H1.out.mono ?_
    rintro e1 w1 ⟨rfl, rfl⟩
    rw [k1]
    go_wp2_with fail
    refine H2.out.mono ?_
    rintro e1 w1 ⟨rfl, rfl⟩
    rw [k2]
    go_wp2_with fail
    refine H3.out.mono ?_
    rintro e1 w1 ⟨rfl, rfl⟩
    rw [k3]
    go_wp2_with fail
    go_ret
    exact ⟨ret_bool (by rw [mmB, k1, k2, k3]; rfl), HB⟩
  · go_enter Try.func81, Try.ntmps81
    go_wp2_with fail
    refine H1.out.mono ?_
    rintro e1 w1 ⟨rfl, rfl⟩
    rw [k1]
    go_wp2_with fail
    refine H2.out.mono ?_
    rintro e1 w1 ⟨rfl, rfl⟩
    rw [k2]
    go_wp2_with fail
    refine H3.out.mono ?_
    rintro e1 w1 ⟨rfl, rfl⟩
    rw [k3]
    go_wp2_with fail
    go_ret
    exact ⟨ret_bool (by rw [mmB, k1, k2, k3]; rfl), HB⟩

set_option maxHeartbeats 800000 in
theorem spec_IsMatchModel_any (a : Option Addr) (n c : Nat) (xs : List Int) (b : Option Addr) (m d : Nat) (ys : List Int) (e : Option Addr) (p f : Nat) (zs : List Int) (w : World)
    (h1 : Ints w w.heap.size .i64 a n xs) (h2 : Ints w w.heap.size .i64 b m ys) (h3 : Ints w w.heap.size .i64 e p zs) (hn : n ≤ 1048576) (hm : m ≤ 1048576) (hp : p ≤ 1048576) :
    Calls Try.prog 64 #[mmV a n c b m d e p f] w fun e' w' => e' = .returned (.bool (mmB n xs m ys p zs)) ∧ Below w.heap.size w w' := by
  have HB := (Below.refl w.heap.size w).alloc (Nat.le_refl _) (.cells #[.slice a n c, .slice b m d, .slice e p f] 26)
  have H1 := Lib.hid (l18Sum_any a n c _ xs _ (h1.below HB) hn)
  have H2 := Lib.hid (l18Sum_any b m d _ ys _ (h2.below HB) hm)
  have H3 := Lib.hid (l18Sum_any e p f _ zs _ (h3.below HB) hp)
  clear h1 h2 h3
  cases k1 : wkB n xs
  · go_enter Try.func64, Try.ntmps64
    go_wp2_with fail
    refine H1.out.mono ?_
    rintro e1 w1 ⟨rfl, rfl⟩
    rw [wkS_no k1]
    go_wp2_with fail
    go_ret
    exact ⟨ret_bool (by rw [mmB, k1]; rfl), HB⟩
  cases k2 : wkB m ys
  · go_enter Try.func64, Try.ntmps64
    go_wp2_with fail
    refine H1.out.mono ?_
    rintro e1 w1 ⟨rfl, rfl⟩
    obtain ⟨sk1, hsk1, psk1⟩ := wkS_yes k1
    rw [hsk1]
    clear hsk1
    go_wp2_with fail
    refine H2.out.mono ?_
    rintro e1 w1 ⟨rfl, rfl⟩
    rw [wkS_no k2]
    go_wp2_with fail
    go_ret
    exact ⟨ret_bool (by rw [mmB, k1, k2]; rfl), HB⟩
  cases k3 : wkB p zs
  · go_enter Try.func64, Try.ntmps64
    go_wp2_with fail
    refine H1.out.mono ?_
    rintro e1 w1 ⟨rfl, rfl⟩
    obtain ⟨sk1, hsk1, psk1⟩ := wkS_yes k1
    rw [hsk1]
    clear hsk1
    go_wp2_with fail
    refine H2.out.mono ?_
    rintro e1 w1 ⟨rfl, rfl⟩
    obtain ⟨sk2, hsk2, psk2⟩ := wkS_yes k2
    rw [hsk2]
    clear hsk2
    go_wp2_with fail
    refine H3.out.mono ?_
    rintro e1 w1 ⟨rfl, rfl⟩
    rw [wkS_no k3]
    go_wp2_with fail
    go_ret
    exact ⟨ret_bool (by rw [mmB, k1, k2, k3]; rfl), HB⟩
  · go_enter Try.func64, Try.ntmps64
    go_wp2_with fail
    refine H1.out.mono ?_
    rintro e1 w1 ⟨rfl, rfl⟩
    obtain ⟨sk1, hsk1, psk1⟩ := wkS_yes k1
    rw [hsk1]
    clear hsk1
    go_wp2_with fail
    refine H2.out.mono ?_
    rintro e1 w1 ⟨rfl, rfl⟩
    obtain ⟨sk2, hsk2, psk2⟩ := wkS_yes k2
    rw [hsk2]
    clear hsk2
    go_wp2_with fail
    refine H3.out.mono ?_
    rintro e1 w1 ⟨rfl, rfl⟩
    obtain ⟨sk3, hsk3, psk3⟩ := wkS_yes k3
    rw [hsk3]
    clear hsk3
    go_wp2_with fail
    go_ret
    exact ⟨ret_bool (by rw [mmB, k1, k2, k3]; rfl), HB⟩

/-- whether a state of a match is valid -/
def stB (a b ph : Int) : Bool := wB a 0 9 && (wB b 0 9 && (decide (0 < a + b) && wB ph 0 2))

set_option maxHeartbeats 800000 in
theorem isMatchState_any (a b ph : Int) (w : World) : Calls Try.prog 79 #[.int .i64 a, .int .i64 b, .int .i64 ph] w fun e w' => e = .returned (.bool (stB a b ph)) ∧ w = w' := by
  cases k1 : wB a 0 9
  · go_enter Try.func79, Try.ntmps79
    go_wp2_with fail
    refine (within_any _ _ _ _).mono ?_
    rintro e1 w1 ⟨rfl, rfl⟩
    rw [k1]
    go_wp2_with fail
    go_ret
    exact ⟨ret_bool (by rw [stB, k1]; rfl), rfl⟩
  cases k2 : wB b 0 9
  · go_enter Try.func79, Try.ntmps79
    go_wp2_with fail
    refine (within_any _ _ _ _).mono ?_
    rintro e1 w1 ⟨rfl, rfl⟩
    rw [k1]
    go_wp2_with fail
    refine (within_any _ _ _ _).mono ?_
    rintro e1 w1 ⟨rfl, rfl⟩
    rw [k2]
    go_wp2_with fail
    go_ret
    exact ⟨ret_bool (by rw [stB, k1, k2]; rfl), rfl⟩
  obtain ⟨a0, a1⟩ := wB_true.1 k1
  obtain ⟨b0, b1⟩ := wB_true.1 k2
  have wab : IntKind.i64.wrap (a + b) = a + b := IntWalk.i64_in _ (by omega)
  by_cases hz : 0 < a + b
  · have hd : decide (0 < a + b) = true := decide_eq_true hz
    go_enter Try.func79, Try.ntmps79
    go_wp2_with fail
    refine (within_any _ _ _ _).mono ?_
    rintro e1 w1 ⟨rfl, rfl⟩
    rw [k1]
    go_wp2_with fail
    refine (within_any _ _ _ _).mono ?_
    rintro e1 w1 ⟨rfl, rfl⟩
    rw [k2]
    go_wp2_with fail
    refine (within_any _ _ _ _).mono ?_
    rintro e1 w1 ⟨rfl, rfl⟩
    go_wp2_with fail
    go_ret
    exact ⟨ret_bool (by rw [stB, k1, k2, hd]; rfl), rfl⟩
  · have hd : decide (0 < a + b) = false := decide_eq_false hz
    go_enter Try.func79, Try.ntmps79
    go_wp2_with fail
    refine (within_any _ _ _ _).mono ?_
    rintro e1 w1 ⟨rfl, rfl⟩
    rw [k1]
    go_wp2_with fail
    refine (within_any _ _ _ _).mono ?_
    rintro e1 w1 ⟨rfl, rfl⟩
    rw [k2]
    go_wp2_with fail
    go_ret
    exact ⟨ret_bool (by rw [stB, k1, k2, hd]; rfl), rfl⟩

set_option maxHeartbeats 800000 in
theorem l18State_any (a b ph : Int) (w : World) : Calls Try.prog 65 #[.int .i64 a, .int .i64 b, .int .i64 ph] w fun e w' => e = .returned (.bool (stB a b ph)) ∧ w = w' := by
  cases k1 : wB a 0 9
  · go_enter Try.func65, Try.ntmps65
    go_wp2_with fail
    refine (l01In_any _ _ _ _).mono ?_
    rintro e1 w1 ⟨rfl, rfl⟩
    rw [k1]
    go_wp2_with fail
    go_ret
    exact ⟨ret_bool (by rw [stB, k1]; rfl), rfl⟩
  cases k2 : wB b 0 9
  · go_enter Try.func65, Try.ntmps65
    go_wp2_with fail
    refine (l01In_any _ _ _ _).mono ?_
    rintro e1 w1 ⟨rfl, rfl⟩
    rw [k1]
    go_wp2_with fail
    refine (l01In_any _ _ _ _).mono ?_
    rintro e1 w1 ⟨rfl, rfl⟩
    rw [k2]
    go_wp2_with fail
    go_ret
    exact ⟨ret_bool (by rw [stB, k1, k2]; rfl), rfl⟩
  obtain ⟨a0, a1⟩ := wB_true.1 k1
  obtain ⟨b0, b1⟩ := wB_true.1 k2
  have wab : IntKind.i64.wrap (a + b) = a + b := IntWalk.i64_in _ (by omega)
  by_cases hz : 0 < a + b
  · have hd : decide (0 < a + b) = true := decide_eq_true hz
    go_enter Try.func65, Try.ntmps65
    go_wp2_with fail
    refine (l01In_any _ _ _ _).mono ?_
    rintro e1 w1 ⟨rfl, rfl⟩
    rw [k1]
    go_wp2_with fail
    refine (l01In_any _ _ _ _).mono ?_
    rintro e1 w1 ⟨rfl, rfl⟩
    rw [k2]
    go_wp2_with fail
    refine (l01In_any _ _ _ _).mono ?_
    rintro e1 w1 ⟨rfl, rfl⟩
    go_wp2_with fail
    go_ret
    exact ⟨ret_bool (by rw [stB, k1, k2, hd]; rfl), rfl⟩
  · have hd : decide (0 < a + b) = false := decide_eq_false hz
    go_enter Try.func65, Try.ntmps65
    go_wp2_with fail
    refine (l01In_any _ _ _ _).mono ?_
    rintro e1 w1 ⟨rfl, rfl⟩
    rw [k1]
    go_wp2_with fail
    refine (l01In_any _ _ _ _).mono ?_
    rintro e1 w1 ⟨rfl, rfl⟩
    rw [k2]
    go_wp2_with fail
    go_ret
    exact ⟨ret_bool (by rw [stB, k1, k2, hd]; rfl), rfl⟩

set_option maxHeartbeats 800000 in
theorem gamePhase_any (a b : Nat) (ph : Int) (w : World) : Calls Try.prog 80 #[.int .i64 a, .int .i64 b, .int .i64 ph] w fun e w' => e = .returned (.int .i64 (gp a b ph)) ∧ w = w' := by
  by_cases h0 : ph = 0
  · subst h0
    by_cases h1 : a = 1
    · subst h1
      by_cases h2 : 1 < b
      · have HV := Lib.hid (show gp 1 b 0 = 1 from if_pos ⟨rfl, .inl ⟨rfl, h2⟩⟩)
        have e2 : decide ((1 : Int) < (b : Int)) = true := by simp; omega
        go_enter Try.func80, Try.ntmps80
        go_wp2_with fail
        all_goals
          go_ret
          exact ⟨ret_int HV.out, rfl⟩
      · have HV := Lib.hid (show gp 1 b 0 = 0 from if_neg (by omega))
        have e2 : decide ((1 : Int) < (b : Int)) = false := by simp; omega
        go_enter Try.func80, Try.ntmps80
        go_wp2_with fail
        all_goals
          go_ret
          exact ⟨ret_int HV.out, rfl⟩
    · have e1 : ((a : Int) == 1) = false := by simp; omega
      by_cases h2 : b = 1
      · subst h2
        by_cases h3 : 1 < a
        · have HV := Lib.hid (show gp a 1 0 = 1 from if_pos ⟨rfl, .inr ⟨rfl, h3⟩⟩)
          have e2 : decide ((1 : Int) < (a : Int)) = true := by simp; omega
          go_enter Try.func80, Try.ntmps80
          go_wp2_with fail
          all_goals
            go_ret
            exact ⟨ret_int HV.out, rfl⟩
        · have HV := Lib.hid (show gp a 1 0 = 0 from if_neg (by omega))
          have e2 : decide ((1 : Int) < (a : Int)) = false := by simp; omega
          go_enter Try.func80, Try.ntmps80
          go_wp2_with fail
          all_goals
            go_ret
            exact ⟨ret_int HV.out, rfl⟩
      · have HV := Lib.hid (show gp a b 0 = 0 from if_neg (by omega))
        have e3 : ((b : Int) == 1) = false := by simp; omega
        go_enter Try.func80, Try.ntmps80
        go_wp2_with fail
        all_goals
          go_ret
          exact ⟨ret_int HV.out, rfl⟩
  · have HV := Lib.hid (show gp a b ph = ph from if_neg (by omega))
    have e0 : (ph == 0) = false := by simp; omega
    go_enter Try.func80, Try.ntmps80
    go_wp2_with fail
    all_goals
      go_ret
      exact ⟨ret_int HV.out, rfl⟩

set_option maxHeartbeats 800000 in
theorem l18Phase_any (a b : Nat) (ph : Int) (w : World) : Calls Try.prog 75 #[.int .i64 a, .int .i64 b, .int .i64 ph] w fun e w' => e = .returned (.int .i64 (gp a b ph)) ∧ w = w' := by
  by_cases h0 : ph = 0
  · subst h0
    by_cases h1 : a = 1
    · subst h1
      by_cases h2 : 1 < b
      · have HV := Lib.hid (show gp 1 b 0 = 1 from if_pos ⟨rfl, .inl ⟨rfl, h2⟩⟩)
        have e2 : decide ((1 : Int) < (b : Int)) = true := by simp; omega
        go_enter Try.func75, Try.ntmps75
        go_wp2_with fail
        all_goals
          go_ret
          exact ⟨ret_int HV.out, rfl⟩
      · have HV := Lib.hid (show gp 1 b 0 = 0 from if_neg (by omega))
        have e2 : decide ((1 : Int) < (b : Int)) = false := by simp; omega
        go_enter Try.func75, Try.ntmps75
        go_wp2_with fail
        all_goals
          go_ret
          exact ⟨ret_int HV.out, rfl⟩
    · have e1 : ((a : Int) == 1) = false := by simp; omega
      by_cases h2 : b = 1
      · subst h2
        by_cases h3 : 1 < a
        · have HV := Lib.hid (show gp a 1 0 = 1 from if_pos ⟨rfl, .inr ⟨rfl, h3⟩⟩)
          have e2 : decide ((1 : Int) < (a : Int)) = true := by simp; omega
          go_enter Try.func75, Try.ntmps75
          go_wp2_with fail
          all_goals
            go_ret
            exact ⟨ret_int HV.out, rfl⟩
        · have HV := Lib.hid (show gp a 1 0 = 0 from if_neg (by omega))
          have e2 : decide ((1 : Int) < (a : Int)) = false := by simp; omega
          go_enter Try.func75, Try.ntmps75
          go_wp2_with fail
          all_goals
            go_ret
            exact ⟨ret_int HV.out, rfl⟩
      · have HV := Lib.hid (show gp a b 0 = 0 from if_neg (by omega))
        have e3 : ((b : Int) == 1) = false := by simp; omega
        go_enter Try.func75, Try.ntmps75
        go_wp2_with fail
        all_goals
          go_ret
          exact ⟨ret_int HV.out, rfl⟩
  · have HV := Lib.hid (show gp a b ph = ph from if_neg (by omega))
    have e0 : (ph == 0) = false := by simp; omega
    go_enter Try.func75, Try.ntmps75
    go_wp2_with fail
    all_goals
      go_ret
      exact ⟨ret_int HV.out, rfl⟩
end Go.Proofs.Ytkioliioakmepaa
