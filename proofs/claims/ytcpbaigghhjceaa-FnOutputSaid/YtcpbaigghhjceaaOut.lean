/-
  The walks of HiddenOf and OutputOf (both packages).
-/
import Derived.Test.YtcpbaigghhjceaaHid
namespace Go.Proofs.Ytcpbaigghhjceaa
open Go.ChangeShapes Go.WideShapes Go.ChangeAt Go.RowKit Go.Joins Go.Deep

def inB (i : Int) (l : Nat) (vs : List Int) : Bool := ((l : Int) == i) && inP vs l
/-- the code of a network and inputs -/
def nC (nb ib : Bool) : Int := if nb then (if ib then 0 else 2) else 1

theorem isInputs_any (i h : Int) (a : Option Addr) (n c : Nat) (b : Option Addr) (m d : Nat) (q : Option Addr) (l r : Nat) (vs : List Int) (B : Nat) (w : World) (h3 : Ints w B .i64 q l vs) (hB : B ≤ w.heap.size) (hl : l ≤ 1048576) :
    Calls Try.prog 55 #[netV i h a n c b m d, .slice q l r] w fun e w' => e = .returned (.bool (inB i l vs)) ∧ Below w.heap.size w w' := by
  have HB0 := (Below.refl w.heap.size w).alloc (Nat.le_refl _) (.cells #[.int .i64 i, .int .i64 h, .slice a n c, .slice b m d] 27)
  have k3 := h3.below ((Below.refl B w).alloc hB (.cells #[.int .i64 i, .int .i64 h, .slice a n c, .slice b m d] 27))
  clear h3
  cases hA : (l : Int) == i
  · have H := Lib.hid (show inB i l vs = false by rw [inB, hA]; rfl)
    go_enter Try.func55, Try.ntmps55
    go_wp2_with fail
    go_ret
    exact ⟨ret_bool H.out, HB0⟩
  · have H := Lib.hid (show inB i l vs = allTo (fun x => wB x (-4096) 4096) vs l by rw [inB, hA]; rfl)
    go_enter Try.func55, Try.ntmps55
    go_wp2_with (go_at_call 37; refine (allWithin_any q l r _ vs _ _ _ k3 hl).mono ?_; rintro e w' ⟨rfl, rfl⟩)
    go_ret
    exact ⟨ret_bool H.out, HB0⟩
theorem l23Inputs_any (i h : Int) (a : Option Addr) (n c : Nat) (b : Option Addr) (m d : Nat) (q : Option Addr) (l r : Nat) (vs : List Int) (B : Nat) (w : World) (h3 : Ints w B .i64 q l vs) (hB : B ≤ w.heap.size) (hl : l ≤ 1048576) :
    Calls Try.prog 52 #[netV i h a n c b m d, .slice q l r] w fun e w' => e = .returned (.bool (inB i l vs)) ∧ Below w.heap.size w w' := by
  have HB0 := (Below.refl w.heap.size w).alloc (Nat.le_refl _) (.cells #[.int .i64 i, .int .i64 h, .slice a n c, .slice b m d] 27)
  have k3 := h3.below ((Below.refl B w).alloc hB (.cells #[.int .i64 i, .int .i64 h, .slice a n c, .slice b m d] 27))
  clear h3
  cases hA : (l : Int) == i
  · have H := Lib.hid (show inB i l vs = false by rw [inB, hA]; rfl)
    have hA' : ((l : Int) != i) = true := by simpa using hA
    clear hA
    go_enter Try.func52, Try.ntmps52
    go_wp2_with fail
    go_ret
    exact ⟨ret_bool H.out, HB0⟩
  · have H := Lib.hid (show inB i l vs = inP vs l by rw [inB, hA]; rfl)
    have hA' : ((l : Int) != i) = false := by simpa using hA
    clear hA
    by_cases hl0 : l = 0
    · subst hl0
      have hA2 : ((0 : Int) != i) = false := hA'
      go_enter Try.func52, Try.ntmps52
      go_wp2_with fail
      go_loop [5] (fun ix => ix = .int .i64 0) (fun _ => 0)
      case atStart => rfl
      case round =>
        subst hrel
        go_wp2
        go_ret
        exact ⟨ret_bool H.out, HB0⟩
    · obtain ⟨bb, bo, rfl, hbb, hcb⟩ := k3.2 (by omega)
      have HC := Lib.hid hcb
      clear k3 hcb
      go_enter Try.func52, Try.ntmps52
      go_wp2_with fail
      go_loop [5] (fun ix => ∃ k : Nat, k ≤ l ∧ ix = .int .i64 k ∧ Hid (inP vs k = true)) (fun ix => l - (intOf ix).toNat)
      case atStart => exact ⟨0, Nat.zero_le _, rfl, rfl⟩
      case round =>
        obtain ⟨k, hk, rfl, hall⟩ := hrel
        by_cases hlt : k < l
        · have hcx := HC.out k hlt
          obtain ⟨x, hx⟩ : ∃ x, vs.getD k 0 = x := ⟨_, rfl⟩
          rw [hx] at hcx
          have HX := Lib.hid hx
          clear hx
          cases hw : wB x (-4096) 4096
          · have HN := Lib.hid (show inP vs l = false from allTo_no (p := fun x => wB x (-4096) 4096) (xs := vs) hlt (by rw [HX.out]; exact hw))
            go_wp2_with (go_at_call 34; refine (l01In_any _ _ _ _).mono ?_; rintro e w' ⟨rfl, rfl⟩)
            go_ret
            exact ⟨ret_bool (by rw [H.out, HN.out]), HB0⟩
          · have HY := Lib.hid (show inP vs (k + 1) = true by rw [inP, allTo_succ, show allTo _ vs k = true from hall.out, HX.out, hw]; rfl)
            go_wp2_with (go_at_call 34; refine (l01In_any _ _ _ _).mono ?_; rintro e w' ⟨rfl, rfl⟩)
            go_round
            case rel => exact ⟨k + 1, by omega, by go_num, HY⟩
            case measure => simp [intOf]; omega
        · obtain rfl : k = l := by omega
          go_wp2
          go_ret
          exact ⟨ret_bool (by rw [H.out, hall.out]), HB0⟩

set_option maxHeartbeats 400000 in
theorem checkInputs_any (i h : Int) (a : Option Addr) (n c : Nat) (xs : List Int) (b : Option Addr) (m d : Nat) (ys : List Int) (q : Option Addr) (l r : Nat) (vs : List Int) (B : Nat) (w : World) (h1 : Ints w B .i64 a n xs) (h2 : Ints w B .i64 b m ys) (h3 : Ints w B .i64 q l vs) (hB : B ≤ w.heap.size) (hn : n ≤ 1048576) (hm : m ≤ 1048576) (hl : l ≤ 1048576) :
    Calls Try.prog 45 #[netV i h a n c b m d, .slice q l r] w fun e w' => e = .returned (.int .i64 (nC (netB i h n xs m ys) (inB i l vs))) ∧ Below w.heap.size w w' := by
  have HB0 := (Below.refl w.heap.size w).alloc (Nat.le_refl _) (.cells #[.int .i64 i, .int .i64 h, .slice a n c, .slice b m d] 27)
  have R0 := Lib.hid (four_new w (.int .i64 i) (.int .i64 h) (.slice a n c) (.slice b m d) 27)
  have HBB := (Below.refl B w).alloc hB (.cells #[.int .i64 i, .int .i64 h, .slice a n c, .slice b m d] 27)
  have k1 := h1.below HBB
  have k2 := h2.below HBB
  have k3 := h3.below HBB
  have hz0 : B ≤ (w.alloc (.cells #[.int .i64 i, .int .i64 h, .slice a n c, .slice b m d] 27)).heap.size := by simp; omega
  clear h1 h2 h3 HBB
  cases hA : netB i h n xs m ys
  · go_enter Try.func45, Try.ntmps45
    go_wp2_with fail
    refine (impl_IsNetwork_any _ _ _ _ _ _ _ _ _ _ _ _ k1 k2 hz0 hn hm).mono ?_
    rintro e w1 ⟨rfl, hb⟩
    rw [hA]
    go_wp2_with fail
    go_ret
    exact ⟨ret_int rfl, HB0.trans (hb.mono HB0.size)⟩
  · go_enter Try.func45, Try.ntmps45
    go_wp2_with fail
    refine (impl_IsNetwork_any _ _ _ _ _ _ _ _ _ _ _ _ k1 k2 hz0 hn hm).mono ?_
    rintro e w1 ⟨rfl, hb⟩
    rw [hA]
    have H1 := HB0.trans (hb.mono HB0.size)
    have k4 := k3.below (hb.mono hz0)
    have hz1 : B ≤ w1.heap.size := Nat.le_trans hz0 hb.size
    obtain ⟨c0, c1, c2, c3⟩ := four_cells (rowIs_below R0.out hb R0.out.lt)
    clear hb hA
    go_wp2_with fail
    refine (isInputs_any _ _ _ _ _ _ _ _ _ _ _ _ _ _ k4 hz1 hl).mono ?_
    rintro e w2 ⟨rfl, hb⟩
    have H2 := H1.trans (hb.mono H1.size)
    cases hI : inB i l vs
    all_goals
      go_wp2_with fail
      go_ret
      exact ⟨ret_int (by simp [nC, hI]), H2⟩
set_option maxHeartbeats 400000 in
theorem l23Code_any (i h : Int) (a : Option Addr) (n c : Nat) (xs : List Int) (b : Option Addr) (m d : Nat) (ys : List Int) (q : Option Addr) (l r : Nat) (vs : List Int) (B : Nat) (w : World) (h1 : Ints w B .i64 a n xs) (h2 : Ints w B .i64 b m ys) (h3 : Ints w B .i64 q l vs) (hB : B ≤ w.heap.size) (hn : n ≤ 1048576) (hm : m ≤ 1048576) (hl : l ≤ 1048576) :
    Calls Try.prog 43 #[netV i h a n c b m d, .slice q l r] w fun e w' => e = .returned (.int .i64 (nC (netB i h n xs m ys) (inB i l vs))) ∧ Below w.heap.size w w' := by
  have HB0 := (Below.refl w.heap.size w).alloc (Nat.le_refl _) (.cells #[.int .i64 i, .int .i64 h, .slice a n c, .slice b m d] 27)
  have R0 := Lib.hid (four_new w (.int .i64 i) (.int .i64 h) (.slice a n c) (.slice b m d) 27)
  have HBB := (Below.refl B w).alloc hB (.cells #[.int .i64 i, .int .i64 h, .slice a n c, .slice b m d] 27)
  have k1 := h1.below HBB
  have k2 := h2.below HBB
  have k3 := h3.below HBB
  have hz0 : B ≤ (w.alloc (.cells #[.int .i64 i, .int .i64 h, .slice a n c, .slice b m d] 27)).heap.size := by simp; omega
  clear h1 h2 h3 HBB
  cases hA : netB i h n xs m ys
  · go_enter Try.func43, Try.ntmps43
    go_wp2_with fail
    refine (spec_IsNetwork_any _ _ _ _ _ _ _ _ _ _ _ _ k1 k2 hz0 hn hm).mono ?_
    rintro e w1 ⟨rfl, hb⟩
    rw [hA]
    go_wp2_with fail
    go_ret
    exact ⟨ret_int rfl, HB0.trans (hb.mono HB0.size)⟩
  · go_enter Try.func43, Try.ntmps43
    go_wp2_with fail
    refine (spec_IsNetwork_any _ _ _ _ _ _ _ _ _ _ _ _ k1 k2 hz0 hn hm).mono ?_
    rintro e w1 ⟨rfl, hb⟩
    rw [hA]
    have H1 := HB0.trans (hb.mono HB0.size)
    have k4 := k3.below (hb.mono hz0)
    have hz1 : B ≤ w1.heap.size := Nat.le_trans hz0 hb.size
    obtain ⟨c0, c1, c2, c3⟩ := four_cells (rowIs_below R0.out hb R0.out.lt)
    clear hb hA
    go_wp2_with fail
    refine (l23Inputs_any _ _ _ _ _ _ _ _ _ _ _ _ _ _ k4 hz1 hl).mono ?_
    rintro e w2 ⟨rfl, hb⟩
    have H2 := H1.trans (hb.mono H1.size)
    cases hI : inB i l vs
    all_goals
      go_wp2_with fail
      go_ret
      exact ⟨ret_int (by simp [nC, hI]), H2⟩

/-- the values of the hidden units, and the output, where the arguments are valid -/
def hidV (i h : Int) (n : Nat) (xs : List Int) (m : Nat) (ys : List Int) (l : Nat) (vs : List Int) : List Int :=
  if netB i h n xs m ys && inB i l vs then actL (sumL xs vs i.toNat h.toNat) else []
def outV (i h : Int) (n : Nat) (xs : List Int) (m : Nat) (ys : List Int) (l : Nat) (vs : List Int) : Int :=
  if netB i h n xs m ys && inB i l vs then act (uS ys (actL (sumL xs vs i.toNat h.toNat)) h.toNat) else 0
def netC (i h : Int) (n : Nat) (xs : List Int) (m : Nat) (ys : List Int) (l : Nat) (vs : List Int) : Int := nC (netB i h n xs m ys) (inB i l vs)
theorem hidV_le {i h : Int} {n m l : Nat} {xs ys vs : List Int} : (hidV i h n xs m ys l vs).length ≤ 1048576 := by
  unfold hidV
  split
  · rename_i hk
    simp only [Bool.and_eq_true] at hk
    have hb := (netB_out hk.1).2.1
    rw [actL_len, sumL_len]
    omega
  · simp
theorem netC_yes {i h : Int} {n m l : Nat} {xs ys vs : List Int} (h1 : netB i h n xs m ys = true) (h2 : inB i l vs = true) : netC i h n xs m ys l vs = 0 := by rw [netC, h1, h2]; rfl
theorem netC_ne {i h : Int} {n m l : Nat} {xs ys vs : List Int} (h2 : (netB i h n xs m ys && inB i l vs) = false) : (netC i h n xs m ys l vs != 0) = true := by
  unfold netC
  cases h1 : netB i h n xs m ys
  · rfl
  · rw [h1, Bool.true_and] at h2; rw [h2]; rfl
/-- what valid arguments are -/
theorem net_ok {i h : Int} {n m l : Nat} {xs ys vs : List Int} (h1 : netB i h n xs m ys = true) (h2 : inB i l vs = true) :
    ∃ p q : Nat, i = p ∧ h = q ∧ l = p ∧ n = q * (p + 1) ∧ m = q + 1 ∧ 1 ≤ p ∧ p ≤ 32 ∧ 1 ≤ q ∧ q ≤ 12 ∧ wgt xs n = true ∧ wgt ys m = true ∧ inP vs l = true := by
  obtain ⟨⟨i1, i2⟩, ⟨g1, g2⟩, e1, e2, e3, e4⟩ := netB_out h1
  obtain ⟨p, rfl⟩ := Int.eq_ofNat_of_zero_le (show 0 ≤ i by omega)
  obtain ⟨q, rfl⟩ := Int.eq_ofNat_of_zero_le (show 0 ≤ h by omega)
  simp only [inB, Bool.and_eq_true, beq_iff_eq] at h2
  exact ⟨p, q, rfl, rfl, by omega, by exact_mod_cast e1, by exact_mod_cast e2, by omega, by omega, by omega, by omega, e3, e4, h2.2⟩
theorem actL_bd {ss : List Int} {k : Nat} (hk : k < ss.length) : -4096 ≤ (actL ss).getD k 0 ∧ (actL ss).getD k 0 ≤ 4096 := by
  rw [actL_at hk]
  have := act_bd (ss.getD k 0)
  omega

def HidPost (zs : List Int) (C : Int) (w : World) (e : Ending) (w' : World) : Prop :=
  ∃ a k c, e = .returned (.tuple #[.slice a k c, .int .i64 C]) ∧ zs.length = k ∧ k ≤ c ∧ c ≤ 9223372036854775807 ∧ RowN w' w.heap.size w'.heap.size 2 a k (icell .i64 zs) ∧ Below w.heap.size w w'
theorem hid_tup {a : Option Addr} {k c : Nat} {x y : Int} (h : y = x) : Ending.returned (.tuple #[.slice a k c, .int .i64 x]) = Ending.returned (.tuple #[.slice a k c, .int .i64 y]) := by rw [h]
theorem out_tup {u v x y : Int} (h : v = u) (h1 : y = x) : Ending.returned (.tuple #[.int .i64 x, .int .i64 u]) = Ending.returned (.tuple #[.int .i64 y, .int .i64 v]) := by rw [h, h1]

set_option maxHeartbeats 800000 in
theorem impl_HiddenOf_any (i h : Int) (a : Option Addr) (n c : Nat) (xs : List Int) (b : Option Addr) (m d : Nat) (ys : List Int) (q : Option Addr) (l r : Nat) (vs : List Int) (B : Nat) (w : World) (h1 : Ints w B .i64 a n xs) (h2 : Ints w B .i64 b m ys) (h3 : Ints w B .i64 q l vs) (hB : B ≤ w.heap.size) (hnc : n ≤ c) (hc : c ≤ 9223372036854775807) (hn : n ≤ 1048576) (hm : m ≤ 1048576) (hl : l ≤ 1048576) :
    Calls Try.prog 28 #[netV i h a n c b m d, .slice q l r] w fun e w' => HidPost (hidV i h n xs m ys l vs) (netC i h n xs m ys l vs) w e w' := by
  have HB0 := (Below.refl w.heap.size w).alloc (Nat.le_refl _) (.cells #[.int .i64 i, .int .i64 h, .slice a n c, .slice b m d] 27)
  have R0 := Lib.hid (four_new w (.int .i64 i) (.int .i64 h) (.slice a n c) (.slice b m d) 27)
  have HBB := (Below.refl B w).alloc hB (.cells #[.int .i64 i, .int .i64 h, .slice a n c, .slice b m d] 27)
  have k1 := h1.below HBB
  have k2 := h2.below HBB
  have k3 := h3.below HBB
  have hz0 : B ≤ (w.alloc (.cells #[.int .i64 i, .int .i64 h, .slice a n c, .slice b m d] 27)).heap.size := by simp; omega
  clear HBB
  cases hA : netB i h n xs m ys && inB i l vs
  · have HV := Lib.hid (show hidV i h n xs m ys l vs = [] by rw [hidV, hA]; rfl)
    have hne := netC_ne hA
    obtain ⟨C, hC⟩ : ∃ C, nC (netB i h n xs m ys) (inB i l vs) = C := ⟨_, rfl⟩
    have HC := Lib.hid (show netC i h n xs m ys l vs = C from hC)
    rw [HC.out] at hne
    clear hA h1 h2 h3
    go_enter Try.func28, Try.ntmps28
    go_wp2_with fail
    refine (checkInputs_any _ _ _ _ _ _ _ _ _ _ _ _ _ _ _ _ k1 k2 k3 hz0 hn hm hl).mono ?_
    rintro e w1 ⟨rfl, hb⟩
    rw [hC]
    clear hC
    go_wp2_with fail
    go_ret2
    exact ⟨none, 0, 0, hid_tup HC.out, by rw [HV.out]; rfl, Nat.le_refl _, by omega, .inl rfl, HB0.trans (hb.mono HB0.size)⟩
  · simp only [Bool.and_eq_true] at hA
    obtain ⟨hN, hI⟩ := hA
    have HV := Lib.hid (show hidV i h n xs m ys l vs = actL (sumL xs vs i.toNat h.toNat) by rw [hidV, hN, hI]; rfl)
    have HC := Lib.hid (netC_yes hN hI)
    have hC : nC (netB i h n xs m ys) (inB i l vs) = 0 := HC.out
    obtain ⟨p, u, rfl, rfl, rfl, hnn, hmm, p1, p2, u1, u2, wx, wy, hv⟩ := net_ok hN hI
    clear hN hI
    rw [Int.toNat_natCast, Int.toNat_natCast] at HV
    have n0 : 1 ≤ n := by rw [hnn]; exact Nat.mul_pos u1 (by omega)
    obtain ⟨ab, ao, rfl, _, _⟩ := h1.2 n0
    have HNN := Lib.hid hnn
    have HMM := Lib.hid hmm
    have HCH := Lib.hid hC
    clear h1 h2 h3 hnn hmm hC
    go_enter Try.func28, Try.ntmps28
    go_wp2_with fail
    refine (checkInputs_any _ _ _ _ _ _ _ _ _ _ _ _ _ _ _ _ k1 k2 k3 hz0 hn hm hl).mono ?_
    rintro e w1 ⟨rfl, hb⟩
    rw [HCH.out]
    have H1 := HB0.trans (hb.mono HB0.size)
    have j1 := k1.below (hb.mono hz0)
    have j2 := k2.below (hb.mono hz0)
    have j3 := k3.below (hb.mono hz0)
    have hz1 : B ≤ w1.heap.size := Nat.le_trans hz0 hb.size
    have z1 : w.heap.size < w1.heap.size := by have := hb.size; simp at this; omega
    obtain ⟨c0, c1, c2, c3⟩ := four_cells (rowIs_below R0.out hb R0.out.lt)
    clear hb k1 k2 k3
    go_wp2_with fail
    refine (hiddenSums_any _ _ _ _ _ _ _ _ _ _ _ _ _ _ _ j1 j3 hz1 hnc hc HNN.out p1 p2 u1 u2 wx hv).mono ?_
    rintro e w2 ⟨g2, c2', x1, x2, rfl, hr2, hb2⟩
    have H2 := H1.trans (hb2.mono H1.size)
    have zz := hb2.size
    clear hb2
    go_wp2_with fail
    refine (activations_any _ _ _ _ _ _ (hr2.ints (sumL_len _ _ _ _)) (Nat.le_refl _) u1 (by omega)).mono ?_
    rintro e w3 ⟨g3, c3', x3, x4, rfl, hr3, hb3⟩
    have H3 := H2.trans (hb3.mono H2.size)
    clear hb3
    go_wp2_with fail
    go_ret2
    exact ⟨_, _, _, hid_tup HC.out, by rw [HV.out, actL_len, sumL_len], x3, x4, by rw [HV.out]; exact hr3.wide (by omega) (Nat.le_refl _), H3⟩

set_option maxHeartbeats 800000 in
theorem spec_HiddenOf_any (i h : Int) (a : Option Addr) (n c : Nat) (xs : List Int) (b : Option Addr) (m d : Nat) (ys : List Int) (q : Option Addr) (l r : Nat) (vs : List Int) (B : Nat) (w : World) (h1 : Ints w B .i64 a n xs) (h2 : Ints w B .i64 b m ys) (h3 : Ints w B .i64 q l vs) (hB : B ≤ w.heap.size) (hnc : n ≤ c) (hc : c ≤ 9223372036854775807) (hn : n ≤ 1048576) (hm : m ≤ 1048576) (hl : l ≤ 1048576) :
    Calls Try.prog 27 #[netV i h a n c b m d, .slice q l r] w fun e w' => HidPost (hidV i h n xs m ys l vs) (netC i h n xs m ys l vs) w e w' := by
  have HB0 := (Below.refl w.heap.size w).alloc (Nat.le_refl _) (.cells #[.int .i64 i, .int .i64 h, .slice a n c, .slice b m d] 27)
  have R0 := Lib.hid (four_new w (.int .i64 i) (.int .i64 h) (.slice a n c) (.slice b m d) 27)
  have HBB := (Below.refl B w).alloc hB (.cells #[.int .i64 i, .int .i64 h, .slice a n c, .slice b m d] 27)
  have k1 := h1.below HBB
  have k2 := h2.below HBB
  have k3 := h3.below HBB
  have hz0 : B ≤ (w.alloc (.cells #[.int .i64 i, .int .i64 h, .slice a n c, .slice b m d] 27)).heap.size := by simp; omega
  clear HBB
  cases hA : netB i h n xs m ys && inB i l vs
  · have HV := Lib.hid (show hidV i h n xs m ys l vs = [] by rw [hidV, hA]; rfl)
    have hne := netC_ne hA
    obtain ⟨C, hC⟩ : ∃ C, nC (netB i h n xs m ys) (inB i l vs) = C := ⟨_, rfl⟩
    have HC := Lib.hid (show netC i h n xs m ys l vs = C from hC)
    rw [HC.out] at hne
    clear hA h1 h2 h3
    go_enter Try.func27, Try.ntmps27
    go_wp2_with fail
    refine (l23Code_any _ _ _ _ _ _ _ _ _ _ _ _ _ _ _ _ k1 k2 k3 hz0 hn hm hl).mono ?_
    rintro e w1 ⟨rfl, hb⟩
    rw [hC]
    clear hC
    go_wp2_with fail
    go_ret2
    exact ⟨none, 0, 0, hid_tup HC.out, by rw [HV.out]; rfl, Nat.le_refl _, by omega, .inl rfl, HB0.trans (hb.mono HB0.size)⟩
  · simp only [Bool.and_eq_true] at hA
    obtain ⟨hN, hI⟩ := hA
    have HV := Lib.hid (show hidV i h n xs m ys l vs = actL (sumL xs vs i.toNat h.toNat) by rw [hidV, hN, hI]; rfl)
    have HC := Lib.hid (netC_yes hN hI)
    have hC : nC (netB i h n xs m ys) (inB i l vs) = 0 := HC.out
    obtain ⟨p, u, rfl, rfl, rfl, hnn, hmm, p1, p2, u1, u2, wx, wy, hv⟩ := net_ok hN hI
    clear hN hI
    rw [Int.toNat_natCast, Int.toNat_natCast] at HV
    have n0 : 1 ≤ n := by rw [hnn]; exact Nat.mul_pos u1 (by omega)
    obtain ⟨ab, ao, rfl, _, _⟩ := h1.2 n0
    have HNN := Lib.hid hnn
    have HMM := Lib.hid hmm
    have HCH := Lib.hid hC
    clear h1 h2 h3 hnn hmm hC
    go_enter Try.func27, Try.ntmps27
    go_wp2_with fail
    refine (l23Code_any _ _ _ _ _ _ _ _ _ _ _ _ _ _ _ _ k1 k2 k3 hz0 hn hm hl).mono ?_
    rintro e w1 ⟨rfl, hb⟩
    rw [HCH.out]
    have H1 := HB0.trans (hb.mono HB0.size)
    have j1 := k1.below (hb.mono hz0)
    have j2 := k2.below (hb.mono hz0)
    have j3 := k3.below (hb.mono hz0)
    have hz1 : B ≤ w1.heap.size := Nat.le_trans hz0 hb.size
    have z1 : w.heap.size < w1.heap.size := by have := hb.size; simp at this; omega
    obtain ⟨c0, c1, c2, c3⟩ := four_cells (rowIs_below R0.out hb R0.out.lt)
    clear hb k1 k2 k3
    go_wp2_with fail
    refine (l23Hidden_any _ _ _ _ _ _ _ _ _ _ _ _ _ _ _ j1 j3 hz1 hnc hc HNN.out p1 p2 u1 u2 wx hv).mono ?_
    rintro e w3 ⟨g3, c3', x3, x4, rfl, hr3, hb3⟩
    have H3 := H1.trans (hb3.mono H1.size)
    clear hb3
    go_wp2_with fail
    go_ret2
    exact ⟨_, _, _, hid_tup HC.out, by rw [HV.out, actL_len, sumL_len], x3, x4, by rw [HV.out]; exact hr3.wide (by omega) (Nat.le_refl _), H3⟩

set_option maxHeartbeats 1600000 in
theorem output_any (p h : Nat) (ab ao n c : Nat) (xs : List Int) (b : Option Addr) (m d : Nat) (ys : List Int) (q : Option Addr) (r : Nat) (vs : List Int) (B : Nat) (w : World) (h1 : Ints w B .i64 (some ⟨ab, ao, none⟩) n xs) (h2 : Ints w B .i64 b m ys) (h3 : Ints w B .i64 q p vs) (hB : B ≤ w.heap.size) (hnc : n ≤ c) (hc : c ≤ 9223372036854775807) (hn : n = h * (p + 1)) (hm : m = h + 1) (hp : 1 ≤ p) (hp2 : p ≤ 32) (hh : 1 ≤ h) (hh2 : h ≤ 12) (hx : wgt xs n = true) (hy : wgt ys m = true) (hv : inP vs p = true) :
    Calls Try.prog 46 #[netV p h (some ⟨ab, ao, none⟩) n c b m d, .slice q p r] w fun e w' => e = .returned (.int .i64 (act (uS ys (actL (sumL xs vs p h)) h))) ∧ Below w.heap.size w w' := by
  have HB0 : Below w.heap.size w (w.alloc (.cells #[.int .i64 p, .int .i64 h, .slice (some ⟨ab, ao, none⟩) n c, .slice b m d] 27)).drew := below_drewN ((Below.refl w.heap.size w).alloc (Nat.le_refl _) (.cells #[.int .i64 p, .int .i64 h, .slice (some ⟨ab, ao, none⟩) n c, .slice b m d] 27)) 1
  have R0 : Hid ((w.alloc (.cells #[.int .i64 p, .int .i64 h, .slice (some ⟨ab, ao, none⟩) n c, .slice b m d] 27)).drew.rowIs w.heap.size 27 4 (four (.int .i64 p) (.int .i64 h) (.slice (some ⟨ab, ao, none⟩) n c) (.slice b m d))) := four_new w (.int .i64 p) (.int .i64 h) (.slice (some ⟨ab, ao, none⟩) n c) (.slice b m d) 27
  have HBB : Below B w (w.alloc (.cells #[.int .i64 p, .int .i64 h, .slice (some ⟨ab, ao, none⟩) n c, .slice b m d] 27)).drew := below_drewN ((Below.refl B w).alloc hB (.cells #[.int .i64 p, .int .i64 h, .slice (some ⟨ab, ao, none⟩) n c, .slice b m d] 27)) 1
  have hz0 : B ≤ (w.alloc (.cells #[.int .i64 p, .int .i64 h, .slice (some ⟨ab, ao, none⟩) n c, .slice b m d] 27)).drew.heap.size := by simp; omega
  have K1 := Lib.hid (h1.below HBB)
  have K2 := Lib.hid (h2.below HBB)
  have K3 := Lib.hid (h3.below HBB)
  have HY := Lib.hid (fun k (hk : k < m) => wgt_at hy hk)
  have HA := Lib.hid (fun k (hk : k < h) => actL_bd (ss := sumL xs vs p h) (k := k) (by rw [sumL_len]; exact hk))
  have HL := Lib.hid (show (actL (sumL xs vs p h)).length = h by rw [actL_len, sumL_len])
  have HX := Lib.hid (And.intro hx hv)
  have HN := Lib.hid hn
  have m1 : h < m := by omega
  have m2 : m ≤ 33 := by omega
  clear h1 h2 h3 HBB hn hm hx hy hv
  go_enter Try.func46, Try.ntmps46
  go_wp2_with fail
  go_region_held3 (fun w' => w'.cell? ⟨w.heap.size, 0, none⟩ = some (.int .i64 p) ∧ w'.cell? ⟨w.heap.size, 1, none⟩ = some (.int .i64 h) ∧ w'.cell? ⟨w.heap.size, 2, none⟩ = some (.slice (some ⟨ab, ao, none⟩) n c) ∧ w'.cell? ⟨w.heap.size, 3, none⟩ = some (.slice b m d))
    (go_keep)
    (first
      | (go_at_call 49; refine (hiddenSums_any _ _ _ _ _ _ _ _ _ _ _ _ _ _ _ K1.out K3.out hz0 hnc hc HN.out hp hp2 hh hh2 HX.out.1 HX.out.2).mono ?_; rintro e w2 ⟨g2, c2, x1, x2, rfl, hr2, hb2⟩; have H2 := HB0.trans (hb2.mono HB0.size); have R2 := Lib.hid (rowIs_below R0.out hb2 R0.out.lt); have K4 := Lib.hid (K2.out.below (hb2.mono hz0)); have hz2 := Nat.le_trans hz0 hb2.size; obtain ⟨d0, d1, d2, d3⟩ := four_cells R2.out; have hr2' := Lib.hid hr2; clear hr2 hb2)
      | (go_at_call 48; refine (activations_any _ _ _ _ _ _ (hr2'.out.ints (sumL_len _ _ _ _)) (Nat.le_refl _) hh (by omega)).mono ?_; rintro e w3 ⟨g3, c3, x3, x4, rfl, hr3, hb3⟩; have H3 := H2.trans (hb3.mono H2.size); have R3 := Lib.hid (rowIs_below R2.out hb3 R2.out.lt); have K5 := Lib.hid (K4.out.below (hb3.mono hz2)); obtain ⟨e0, e1, e2, e3⟩ := four_cells R3.out; have hr3' := Lib.hid hr3; clear hr3 hb3)
      | (go_at_call 57; refine (unitSum_any _ _ _ _ _ _ _ _ _ _ _ K5.out (hr3'.out.ints HL.out) m1 m2 hh HY.out HA.out).mono ?_; rintro e w4 ⟨rfl, rfl⟩)
      | (go_at_call 56; refine (impl_Activation_any _ _).mono ?_; rintro e w5 ⟨rfl, rfl⟩))
  go_wp2
  go_ret
  exact ⟨rfl, H3⟩

set_option maxHeartbeats 1600000 in
theorem l23Output_any (p h : Nat) (ab ao n c : Nat) (xs : List Int) (b : Option Addr) (m d : Nat) (ys : List Int) (q : Option Addr) (r : Nat) (vs : List Int) (B : Nat) (w : World) (h1 : Ints w B .i64 (some ⟨ab, ao, none⟩) n xs) (h2 : Ints w B .i64 b m ys) (h3 : Ints w B .i64 q p vs) (hB : B ≤ w.heap.size) (hnc : n ≤ c) (hc : c ≤ 9223372036854775807) (hn : n = h * (p + 1)) (hm : m = h + 1) (hp : 1 ≤ p) (hp2 : p ≤ 32) (hh : 1 ≤ h) (hh2 : h ≤ 12) (hx : wgt xs n = true) (hy : wgt ys m = true) (hv : inP vs p = true) :
    Calls Try.prog 44 #[netV p h (some ⟨ab, ao, none⟩) n c b m d, .slice q p r] w fun e w' => e = .returned (.int .i64 (act (uS ys (actL (sumL xs vs p h)) h))) ∧ Below w.heap.size w w' := by
  have HB0 : Below w.heap.size w (w.alloc (.cells #[.int .i64 p, .int .i64 h, .slice (some ⟨ab, ao, none⟩) n c, .slice b m d] 27)).drew := below_drewN ((Below.refl w.heap.size w).alloc (Nat.le_refl _) (.cells #[.int .i64 p, .int .i64 h, .slice (some ⟨ab, ao, none⟩) n c, .slice b m d] 27)) 1
  have R0 : Hid ((w.alloc (.cells #[.int .i64 p, .int .i64 h, .slice (some ⟨ab, ao, none⟩) n c, .slice b m d] 27)).drew.rowIs w.heap.size 27 4 (four (.int .i64 p) (.int .i64 h) (.slice (some ⟨ab, ao, none⟩) n c) (.slice b m d))) := four_new w (.int .i64 p) (.int .i64 h) (.slice (some ⟨ab, ao, none⟩) n c) (.slice b m d) 27
  have HBB : Below B w (w.alloc (.cells #[.int .i64 p, .int .i64 h, .slice (some ⟨ab, ao, none⟩) n c, .slice b m d] 27)).drew := below_drewN ((Below.refl B w).alloc hB (.cells #[.int .i64 p, .int .i64 h, .slice (some ⟨ab, ao, none⟩) n c, .slice b m d] 27)) 1
  have hz0 : B ≤ (w.alloc (.cells #[.int .i64 p, .int .i64 h, .slice (some ⟨ab, ao, none⟩) n c, .slice b m d] 27)).drew.heap.size := by simp; omega
  have K1 := Lib.hid (h1.below HBB)
  have K2 := Lib.hid (h2.below HBB)
  have K3 := Lib.hid (h3.below HBB)
  have HY := Lib.hid (fun k (hk : k < m) => wgt_at hy hk)
  have HA := Lib.hid (fun k (hk : k < h) => actL_bd (ss := sumL xs vs p h) (k := k) (by rw [sumL_len]; exact hk))
  have HL := Lib.hid (show (actL (sumL xs vs p h)).length = h by rw [actL_len, sumL_len])
  have HX := Lib.hid (And.intro hx hv)
  have HN := Lib.hid hn
  have m1 : h < m := by omega
  have m2 : m ≤ 33 := by omega
  clear h1 h2 h3 HBB hn hm hx hy hv
  go_enter Try.func44, Try.ntmps44
  go_wp2_with fail
  go_region_held3 (fun w' => w'.cell? ⟨w.heap.size, 0, none⟩ = some (.int .i64 p) ∧ w'.cell? ⟨w.heap.size, 1, none⟩ = some (.int .i64 h) ∧ w'.cell? ⟨w.heap.size, 2, none⟩ = some (.slice (some ⟨ab, ao, none⟩) n c) ∧ w'.cell? ⟨w.heap.size, 3, none⟩ = some (.slice b m d))
    (go_keep)
    (first
      | (go_at_call 47; refine (l23Hidden_any _ _ _ _ _ _ _ _ _ _ _ _ _ _ _ K1.out K3.out hz0 hnc hc HN.out hp hp2 hh hh2 HX.out.1 HX.out.2).mono ?_; rintro e w3 ⟨g3, c3, x3, x4, rfl, hr3, hb3⟩; have H3 := HB0.trans (hb3.mono HB0.size); have R3 := Lib.hid (rowIs_below R0.out hb3 R0.out.lt); have K5 := Lib.hid (K2.out.below (hb3.mono hz0)); obtain ⟨e0, e1, e2, e3⟩ := four_cells R3.out; have hr3' := Lib.hid hr3; clear hr3 hb3)
      | (go_at_call 54; refine (l23Sum_any _ _ _ _ _ _ _ _ _ _ _ K5.out (hr3'.out.ints HL.out) m1 m2 hh HY.out HA.out).mono ?_; rintro e w4 ⟨rfl, hb4⟩; have H4 := H3.trans (hb4.mono H3.size); have R4 := Lib.hid (rowIs_below R3.out hb4 R3.out.lt); obtain ⟨f0, f1, f2, f3⟩ := four_cells R4.out; clear hb4)
      | (go_at_call 53; refine (spec_Activation_any _ _).mono ?_; rintro e w5 ⟨rfl, rfl⟩))
  go_wp2
  go_ret
  exact ⟨rfl, H4⟩

set_option maxHeartbeats 800000 in
theorem impl_OutputOf_any (i h : Int) (a : Option Addr) (n c : Nat) (xs : List Int) (b : Option Addr) (m d : Nat) (ys : List Int) (q : Option Addr) (l r : Nat) (vs : List Int) (B : Nat) (w : World) (h1 : Ints w B .i64 a n xs) (h2 : Ints w B .i64 b m ys) (h3 : Ints w B .i64 q l vs) (hB : B ≤ w.heap.size) (hnc : n ≤ c) (hc : c ≤ 9223372036854775807) (hn : n ≤ 1048576) (hm : m ≤ 1048576) (hl : l ≤ 1048576) :
    Calls Try.prog 25 #[netV i h a n c b m d, .slice q l r] w fun e w' => e = .returned (.tuple #[.int .i64 (outV i h n xs m ys l vs), .int .i64 (netC i h n xs m ys l vs)]) ∧ Below w.heap.size w w' := by
  have HB0 := (Below.refl w.heap.size w).alloc (Nat.le_refl _) (.cells #[.int .i64 i, .int .i64 h, .slice a n c, .slice b m d] 27)
  have R0 := Lib.hid (four_new w (.int .i64 i) (.int .i64 h) (.slice a n c) (.slice b m d) 27)
  have HBB := (Below.refl B w).alloc hB (.cells #[.int .i64 i, .int .i64 h, .slice a n c, .slice b m d] 27)
  have k1 := h1.below HBB
  have k2 := h2.below HBB
  have k3 := h3.below HBB
  have hz0 : B ≤ (w.alloc (.cells #[.int .i64 i, .int .i64 h, .slice a n c, .slice b m d] 27)).heap.size := by simp; omega
  clear HBB
  cases hA : netB i h n xs m ys && inB i l vs
  · have HV := Lib.hid (show outV i h n xs m ys l vs = 0 by rw [outV, hA]; rfl)
    have hne := netC_ne hA
    obtain ⟨C, hC⟩ : ∃ C, nC (netB i h n xs m ys) (inB i l vs) = C := ⟨_, rfl⟩
    have HC := Lib.hid (show netC i h n xs m ys l vs = C from hC)
    rw [HC.out] at hne
    clear hA h1 h2 h3
    go_enter Try.func25, Try.ntmps25
    go_wp2_with fail
    refine (checkInputs_any _ _ _ _ _ _ _ _ _ _ _ _ _ _ _ _ k1 k2 k3 hz0 hn hm hl).mono ?_
    rintro e w1 ⟨rfl, hb⟩
    rw [hC]
    clear hC
    go_wp2_with fail
    go_ret2
    exact ⟨out_tup HC.out HV.out, HB0.trans (hb.mono HB0.size)⟩
  · simp only [Bool.and_eq_true] at hA
    obtain ⟨hN, hI⟩ := hA
    have HV := Lib.hid (show outV i h n xs m ys l vs = act (uS ys (actL (sumL xs vs i.toNat h.toNat)) h.toNat) by rw [outV, hN, hI]; rfl)
    have HC := Lib.hid (netC_yes hN hI)
    have hC : nC (netB i h n xs m ys) (inB i l vs) = 0 := HC.out
    obtain ⟨p, u, rfl, rfl, rfl, hnn, hmm, p1, p2, u1, u2, wx, wy, hv⟩ := net_ok hN hI
    clear hN hI
    rw [Int.toNat_natCast, Int.toNat_natCast] at HV
    have n0 : 1 ≤ n := by rw [hnn]; exact Nat.mul_pos u1 (by omega)
    obtain ⟨ab, ao, rfl, _, _⟩ := h1.2 n0
    have HNN := Lib.hid hnn
    have HMM := Lib.hid hmm
    have HCH := Lib.hid hC
    clear h1 h2 h3 hnn hmm hC
    go_enter Try.func25, Try.ntmps25
    go_wp2_with fail
    refine (checkInputs_any _ _ _ _ _ _ _ _ _ _ _ _ _ _ _ _ k1 k2 k3 hz0 hn hm hl).mono ?_
    rintro e w1 ⟨rfl, hb⟩
    rw [HCH.out]
    have H1 := HB0.trans (hb.mono HB0.size)
    have j1 := k1.below (hb.mono hz0)
    have j2 := k2.below (hb.mono hz0)
    have j3 := k3.below (hb.mono hz0)
    have hz1 : B ≤ w1.heap.size := Nat.le_trans hz0 hb.size
    have z1 : w.heap.size < w1.heap.size := by have := hb.size; simp at this; omega
    obtain ⟨c0, c1, c2, c3⟩ := four_cells (rowIs_below R0.out hb R0.out.lt)
    clear hb k1 k2 k3
    go_wp2_with fail
    refine (output_any _ _ _ _ _ _ _ _ _ _ _ _ _ _ _ _ j1 j2 j3 hz1 hnc hc HNN.out HMM.out p1 p2 u1 u2 wx wy hv).mono ?_
    rintro e w2 ⟨rfl, hb2⟩
    have H2 := H1.trans (hb2.mono H1.size)
    go_wp2_with fail
    go_ret2
    exact ⟨out_tup HC.out HV.out, H2⟩
set_option maxHeartbeats 800000 in
theorem spec_OutputOf_any (i h : Int) (a : Option Addr) (n c : Nat) (xs : List Int) (b : Option Addr) (m d : Nat) (ys : List Int) (q : Option Addr) (l r : Nat) (vs : List Int) (B : Nat) (w : World) (h1 : Ints w B .i64 a n xs) (h2 : Ints w B .i64 b m ys) (h3 : Ints w B .i64 q l vs) (hB : B ≤ w.heap.size) (hnc : n ≤ c) (hc : c ≤ 9223372036854775807) (hn : n ≤ 1048576) (hm : m ≤ 1048576) (hl : l ≤ 1048576) :
    Calls Try.prog 23 #[netV i h a n c b m d, .slice q l r] w fun e w' => e = .returned (.tuple #[.int .i64 (outV i h n xs m ys l vs), .int .i64 (netC i h n xs m ys l vs)]) ∧ Below w.heap.size w w' := by
  have HB0 := (Below.refl w.heap.size w).alloc (Nat.le_refl _) (.cells #[.int .i64 i, .int .i64 h, .slice a n c, .slice b m d] 27)
  have R0 := Lib.hid (four_new w (.int .i64 i) (.int .i64 h) (.slice a n c) (.slice b m d) 27)
  have HBB := (Below.refl B w).alloc hB (.cells #[.int .i64 i, .int .i64 h, .slice a n c, .slice b m d] 27)
  have k1 := h1.below HBB
  have k2 := h2.below HBB
  have k3 := h3.below HBB
  have hz0 : B ≤ (w.alloc (.cells #[.int .i64 i, .int .i64 h, .slice a n c, .slice b m d] 27)).heap.size := by simp; omega
  clear HBB
  cases hA : netB i h n xs m ys && inB i l vs
  · have HV := Lib.hid (show outV i h n xs m ys l vs = 0 by rw [outV, hA]; rfl)
    have hne := netC_ne hA
    obtain ⟨C, hC⟩ : ∃ C, nC (netB i h n xs m ys) (inB i l vs) = C := ⟨_, rfl⟩
    have HC := Lib.hid (show netC i h n xs m ys l vs = C from hC)
    rw [HC.out] at hne
    clear hA h1 h2 h3
    go_enter Try.func23, Try.ntmps23
    go_wp2_with fail
    refine (l23Code_any _ _ _ _ _ _ _ _ _ _ _ _ _ _ _ _ k1 k2 k3 hz0 hn hm hl).mono ?_
    rintro e w1 ⟨rfl, hb⟩
    rw [hC]
    clear hC
    go_wp2_with fail
    go_ret2
    exact ⟨out_tup HC.out HV.out, HB0.trans (hb.mono HB0.size)⟩
  · simp only [Bool.and_eq_true] at hA
    obtain ⟨hN, hI⟩ := hA
    have HV := Lib.hid (show outV i h n xs m ys l vs = act (uS ys (actL (sumL xs vs i.toNat h.toNat)) h.toNat) by rw [outV, hN, hI]; rfl)
    have HC := Lib.hid (netC_yes hN hI)
    have hC : nC (netB i h n xs m ys) (inB i l vs) = 0 := HC.out
    obtain ⟨p, u, rfl, rfl, rfl, hnn, hmm, p1, p2, u1, u2, wx, wy, hv⟩ := net_ok hN hI
    clear hN hI
    rw [Int.toNat_natCast, Int.toNat_natCast] at HV
    have n0 : 1 ≤ n := by rw [hnn]; exact Nat.mul_pos u1 (by omega)
    obtain ⟨ab, ao, rfl, _, _⟩ := h1.2 n0
    have HNN := Lib.hid hnn
    have HMM := Lib.hid hmm
    have HCH := Lib.hid hC
    clear h1 h2 h3 hnn hmm hC
    go_enter Try.func23, Try.ntmps23
    go_wp2_with fail
    refine (l23Code_any _ _ _ _ _ _ _ _ _ _ _ _ _ _ _ _ k1 k2 k3 hz0 hn hm hl).mono ?_
    rintro e w1 ⟨rfl, hb⟩
    rw [HCH.out]
    have H1 := HB0.trans (hb.mono HB0.size)
    have j1 := k1.below (hb.mono hz0)
    have j2 := k2.below (hb.mono hz0)
    have j3 := k3.below (hb.mono hz0)
    have hz1 : B ≤ w1.heap.size := Nat.le_trans hz0 hb.size
    have z1 : w.heap.size < w1.heap.size := by have := hb.size; simp at this; omega
    obtain ⟨c0, c1, c2, c3⟩ := four_cells (rowIs_below R0.out hb R0.out.lt)
    clear hb k1 k2 k3
    go_wp2_with fail
    refine (l23Output_any _ _ _ _ _ _ _ _ _ _ _ _ _ _ _ _ j1 j2 j3 hz1 hnc hc HNN.out HMM.out p1 p2 u1 u2 wx wy hv).mono ?_
    rintro e w2 ⟨rfl, hb2⟩
    have H2 := H1.trans (hb2.mono H1.size)
    go_wp2_with fail
    go_ret2
    exact ⟨out_tup HC.out HV.out, H2⟩
end Go.Proofs.Ytcpbaigghhjceaa
