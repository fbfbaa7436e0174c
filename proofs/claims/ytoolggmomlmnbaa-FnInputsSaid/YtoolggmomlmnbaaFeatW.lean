/-
  The walks of LongestPrime, OwnBlots and MadePoints (both packages).
-/
import Derived.Test.YtoolggmomlmnbaaBrdC
import Derived.Test.YtoolggmomlmnbaaGrow
import Derived.Test.YtoolggmomlmnbaaFeatP
namespace Go.Proofs.Ytoolggmomlmnbaa
open Go.ChangeShapes Go.WideShapes Go.ChangeAt Go.RowKit Go.Joins Go.Deep
set_option linter.unusedVariables false

section
variable {w v : World} {p c h s : Int} {a b : Option Addr} {n ca m cb B : Nat} {xs ys : List Int}
theorem vb_ints {o1 o2 : Obj} {k : IntKind} (h1 : Ints w B k a n xs) (hB : B ≤ w.heap.size) : Ints ((w.alloc o1).alloc o2) B k a n xs :=
  h1.below (((Below.refl B w).alloc hB o1).alloc (by simp; omega) o2)
theorem v_ints {o1 : Obj} {k : IntKind} (h1 : Ints w B k a n xs) (hB : B ≤ w.heap.size) : Ints (w.alloc o1) B k a n xs :=
  h1.below ((Below.refl B w).alloc hB o1)
theorem vb_size {o1 o2 : Obj} (hB : B ≤ w.heap.size) : B ≤ ((w.alloc o1).alloc o2).heap.size := by simp; omega
theorem v_size {o1 : Obj} (hB : B ≤ w.heap.size) : B ≤ (w.alloc o1).heap.size := by simp; omega
/-- behind the first call of a function of a variant and a board -/
theorem vb_after (hb : Below ((w.alloc (.cells #[.int .i64 p, .int .i64 c, .int .i64 h, .int .i64 s] 30)).alloc (.cells #[.slice a n ca, .slice b m cb] 32)).heap.size ((w.alloc (.cells #[.int .i64 p, .int .i64 c, .int .i64 h, .int .i64 s] 30)).alloc (.cells #[.slice a n ca, .slice b m cb] 32)) v) :
    v.rowIs w.heap.size 30 4 (vr4 (.int .i64 p) (.int .i64 c) (.int .i64 h) (.int .i64 s)) ∧ v.rowIs (w.heap.size + 1) 32 2 (pr (.slice a n ca) (.slice b m cb)) ∧ Below w.heap.size w v ∧ w.heap.size + 2 ≤ v.heap.size := by
  have HB0 := ((Below.refl w.heap.size w).alloc (Nat.le_refl _) (.cells #[.int .i64 p, .int .i64 c, .int .i64 h, .int .i64 s] 30)).alloc (by simp) (.cells #[.slice a n ca, .slice b m cb] 32)
  have r0 := (vr4_new w (.int .i64 p) (.int .i64 c) (.int .i64 h) (.int .i64 s) 30).alloc (.cells #[.slice a n ca, .slice b m cb] 32)
  have r1 := pr_new (w.alloc (.cells #[.int .i64 p, .int .i64 c, .int .i64 h, .int .i64 s] 30)) (.slice a n ca) (.slice b m cb) 32
  simp only [World.size_alloc] at r1
  have hz := hb.size
  simp only [World.size_alloc] at hz
  exact ⟨rowIs_below r0 hb r0.lt, rowIs_below r1 hb r1.lt, HB0.trans (hb.mono HB0.size), by omega⟩
end

theorem boardB_out {p c h s : Int} {n : Nat} {xs : List Int} {m : Nat} {ys : List Int} (hb : boardB p c h s n xs m ys = true) :
    ∃ P : Nat, p = (P : Int) ∧ (P < n ∧ n ≤ P + 1) ∧ (P < m ∧ m ≤ P + 1) ∧ n ≤ 25 ∧ m ≤ 25 ∧ (∀ i, i < n → 0 ≤ xs.getD i 0 ∧ xs.getD i 0 ≤ 15) ∧ (∀ i, i < m → 0 ≤ ys.getD i 0 ∧ ys.getD i 0 ≤ 15) := by
  simp only [boardB, Bool.and_eq_true] at hb
  obtain ⟨hv, ho, hu, _⟩ := hb
  obtain ⟨⟨p1, p2⟩, ⟨q1, q2⟩, _, _⟩ := vrB_true.1 hv
  obtain ⟨en, hx, _, _⟩ := sideB_out ho
  obtain ⟨em, hy, _, _⟩ := sideB_out hu
  obtain ⟨P, rfl⟩ := Int.eq_ofNat_of_zero_le (show 0 ≤ p by omega)
  exact ⟨P, rfl, ⟨by omega, by omega⟩, ⟨by omega, by omega⟩, by omega, by omega, fun i hi => ⟨(hx i hi).1, by have := (hx i hi).2; omega⟩, fun i hi => ⟨(hy i hi).1, by have := (hy i hi).2; omega⟩⟩

set_option maxHeartbeats 800000 in
theorem longestPrime_any (P : Nat) (c h s : Int) (a : Option Addr) (n ca : Nat) (xs : List Int) (B : Nat) (w : World) (h1 : Ints w B .i64 a n xs) (hB : B ≤ w.heap.size) (hn : P < n) (hn25 : n ≤ 25) :
    Calls Try.prog 50 #[vrV P c h s, .slice a n ca] w fun e w' => e = .returned (.tuple #[.int .i64 (prAt xs P), .int .i64 (prLong xs P)]) ∧ Below w.heap.size w w' := by
  have HB0 := (Below.refl w.heap.size w).alloc (Nat.le_refl _) (.cells #[.int .i64 P, .int .i64 c, .int .i64 h, .int .i64 s] 30)
  have k1 := v_ints (o1 := (.cells #[.int .i64 P, .int .i64 c, .int .i64 h, .int .i64 s] 30)) h1 hB
  clear h1
  go_enter Try.func50, Try.ntmps50
  obtain ⟨bb, off, rfl, hbb, hc0⟩ := k1.2 (by omega)
  have HC := Lib.hid hc0
  clear hc0 k1
  go_wp2_with fail
  go_loop [6, 7, 8, 12] (fun at' long run i => ∃ k : Nat, k ≤ P ∧ i = .int .i64 k ∧ ∃ r l t : Int, run = .int .i64 r ∧ long = .int .i64 l ∧ at' = .int .i64 t ∧ Hid (r = prRun xs k) ∧ Hid (l = prLong xs k) ∧ Hid (t = prAt xs k)) (fun at' long run i => P - (intOf i).toNat)
  case atStart => exact ⟨0, Nat.zero_le _, rfl, 0, 0, -1, rfl, rfl, rfl, rfl, rfl, rfl⟩
  case round =>
    obtain ⟨k, hk, rfl, r, l, t, rfl, rfl, rfl, hr, hl, ht⟩ := hrel
    have r1 := prRun_bd xs k
    have l1 := prLong_bd xs k
    rw [← hr.out] at r1
    rw [← hl.out] at l1
    obtain ⟨r1, r2⟩ := r1
    obtain ⟨l1, l2⟩ := l1
    by_cases hlt : k < P
    · have hcx := HC.out k (by omega)
      have hr2 := Lib.hid (prRun_0 (xs := xs) (k := k))
      have hr3 := Lib.hid (prRun_1 (xs := xs) (k := k))
      obtain ⟨x, hx⟩ : ∃ x, xs.getD k 0 = x := ⟨_, rfl⟩
      rw [hx] at hcx hr2 hr3
      clear hx
      by_cases hx2 : x < 2
      · have hq := Lib.hid (hr2.out hx2)
        go_wp2
        go_round
        case rel => exact ⟨k + 1, by omega, by go_num, 0, l, t, rfl, rfl, rfl, hq.out.symm, by show _ = _; rw [prLong_0 (by rw [hq.out, ← hl.out]; exact l1), hl.out], by show _ = _; rw [prAt_0 (by rw [hq.out, ← hl.out]; exact l1), ht.out]⟩
        case measure => simp [intOf]; omega
      · have hq := Lib.hid (hr3.out (by omega))
        by_cases hrl : l < r + 1
        · go_wp2
          go_round
          case rel => exact ⟨k + 1, by omega, by go_num, r + 1, r + 1, (k : Int) + 1 - (r + 1), rfl, rfl, by congr 1 <;> omega, by show _ = _; rw [hq.out, hr.out], by show _ = _; rw [prLong_1 (by rw [hq.out, ← hl.out, ← hr.out]; exact hrl), hq.out, hr.out], by show _ = _; rw [prAt_1 (by rw [hq.out, ← hl.out, ← hr.out]; exact hrl), hq.out, hr.out]⟩
          case measure => simp [intOf]; omega
        · go_wp2
          go_round
          case rel => exact ⟨k + 1, by omega, by go_num, r + 1, l, t, rfl, rfl, rfl, by show _ = _; rw [hq.out, hr.out], by show _ = _; rw [prLong_0 (by rw [hq.out, ← hl.out, ← hr.out]; omega), hl.out], by show _ = _; rw [prAt_0 (by rw [hq.out, ← hl.out, ← hr.out]; omega), ht.out]⟩
          case measure => simp [intOf]; omega
    · obtain rfl : k = P := by omega
      have HE := Lib.hid (show (Value.tuple #[.int .i64 t, .int .i64 l]) = .tuple #[.int .i64 (prAt xs k), .int .i64 (prLong xs k)] by rw [hl.out, ht.out])
      go_wp2
      go_ret2
      exact ⟨congrArg Ending.returned HE.out, HB0⟩

set_option maxHeartbeats 800000 in
theorem l22Prime_any (P : Nat) (a : Option Addr) (n ca : Nat) (xs : List Int) (B : Nat) (w : World) (k1 : Ints w B .i64 a n xs) (hn : P < n) (hn25 : n ≤ 25) :
    Calls Try.prog 47 #[.slice a n ca, .int .i64 (P : Int)] w fun e w' => e = .returned (.tuple #[.int .i64 (prAt xs P), .int .i64 (prLong xs P)]) ∧ w = w' := by
  go_enter Try.func47, Try.ntmps47
  obtain ⟨bb, off, rfl, hbb, hc0⟩ := k1.2 (by omega)
  have HC := Lib.hid hc0
  clear hc0 k1
  go_wp2_with fail
  go_loop [6, 7, 8, 9] (fun long at' run i => ∃ k : Nat, k ≤ P ∧ i = .int .i64 k ∧ ∃ r l t : Int, run = .int .i64 r ∧ long = .int .i64 l ∧ at' = .int .i64 t ∧ Hid (r = prRun xs k) ∧ Hid (l = prLong xs k) ∧ Hid (t = prAt xs k)) (fun long at' run i => P - (intOf i).toNat)
  case atStart => exact ⟨0, Nat.zero_le _, rfl, 0, 0, -1, rfl, rfl, rfl, rfl, rfl, rfl⟩
  case round =>
    obtain ⟨k, hk, rfl, r, l, t, rfl, rfl, rfl, hr, hl, ht⟩ := hrel
    have r1 := prRun_bd xs k
    have l1 := prLong_bd xs k
    rw [← hr.out] at r1
    rw [← hl.out] at l1
    obtain ⟨r1, r2⟩ := r1
    obtain ⟨l1, l2⟩ := l1
    by_cases hlt : k < P
    · have hcx := HC.out k (by omega)
      have hr2 := Lib.hid (prRun_0 (xs := xs) (k := k))
      have hr3 := Lib.hid (prRun_1 (xs := xs) (k := k))
      obtain ⟨x, hx⟩ : ∃ x, xs.getD k 0 = x := ⟨_, rfl⟩
      rw [hx] at hcx hr2 hr3
      clear hx
      by_cases hx2 : x < 2
      · have hq := Lib.hid (hr2.out hx2)
        go_wp2
        go_round
        case rel => exact ⟨k + 1, by omega, by go_num, 0, l, t, rfl, rfl, rfl, hq.out.symm, by show _ = _; rw [prLong_0 (by rw [hq.out, ← hl.out]; exact l1), hl.out], by show _ = _; rw [prAt_0 (by rw [hq.out, ← hl.out]; exact l1), ht.out]⟩
        case measure => simp [intOf]; omega
      · have hq := Lib.hid (hr3.out (by omega))
        by_cases hrl : l < r + 1
        · go_wp2
          go_round
          case rel => exact ⟨k + 1, by omega, by go_num, r + 1, r + 1, (k : Int) + 1 - (r + 1), rfl, rfl, by congr 1 <;> omega, by show _ = _; rw [hq.out, hr.out], by show _ = _; rw [prLong_1 (by rw [hq.out, ← hl.out, ← hr.out]; exact hrl), hq.out, hr.out], by show _ = _; rw [prAt_1 (by rw [hq.out, ← hl.out, ← hr.out]; exact hrl), hq.out, hr.out]⟩
          case measure => simp [intOf]; omega
        · go_wp2
          go_round
          case rel => exact ⟨k + 1, by omega, by go_num, r + 1, l, t, rfl, rfl, rfl, by show _ = _; rw [hq.out, hr.out], by show _ = _; rw [prLong_0 (by rw [hq.out, ← hl.out, ← hr.out]; omega), hl.out], by show _ = _; rw [prAt_0 (by rw [hq.out, ← hl.out, ← hr.out]; omega), ht.out]⟩
          case measure => simp [intOf]; omega
    · obtain rfl : k = P := by omega
      have HE := Lib.hid (show (Value.tuple #[.int .i64 t, .int .i64 l]) = .tuple #[.int .i64 (prAt xs k), .int .i64 (prLong xs k)] by rw [hl.out, ht.out])
      go_wp2
      go_ret2
      exact ⟨congrArg Ending.returned HE.out, rfl⟩

/-- what both packages' LongestPrime returns -/
def primeV (p c h s : Int) (n : Nat) (xs : List Int) (m : Nat) (ys : List Int) : Value :=
  if boardB p c h s n xs m ys = true then .tuple #[.int .i64 (prAt xs p.toNat), .int .i64 (prLong xs p.toNat), .int .i64 0] else .tuple #[.int .i64 0, .int .i64 0, .int .i64 1]
theorem primeV_no {p c h s : Int} {n : Nat} {xs : List Int} {m : Nat} {ys : List Int} (hv : boardB p c h s n xs m ys = false) : primeV p c h s n xs m ys = .tuple #[.int .i64 0, .int .i64 0, .int .i64 1] := by
  rw [primeV, hv]; rfl
theorem primeV_yes {P : Nat} {c h s : Int} {n : Nat} {xs : List Int} {m : Nat} {ys : List Int} (hv : boardB P c h s n xs m ys = true) : primeV P c h s n xs m ys = .tuple #[.int .i64 (prAt xs P), .int .i64 (prLong xs P), .int .i64 0] := by
  rw [primeV, hv, Int.toNat_natCast]; rfl

set_option maxHeartbeats 800000 in
theorem impl_LongestPrime_any (p c h s : Int) (a : Option Addr) (n ca : Nat) (xs : List Int) (b : Option Addr) (m cb : Nat) (ys : List Int) (B : Nat) (w : World) (h1 : Ints w B .i64 a n xs) (h2 : Ints w B .i64 b m ys) (hB : B ≤ w.heap.size) (hn : n ≤ 1048576) (hm : m ≤ 1048576) :
    Calls Try.prog 17 #[vrV p c h s, bdV a n ca b m cb] w fun e w' => e = .returned (primeV p c h s n xs m ys) ∧ Below w.heap.size w w' := by
  cases hv : boardB p c h s n xs m ys
  · rw [primeV_no hv]
    go_enter Try.func17, Try.ntmps17
    go_wp2_with fail
    refine (impl_IsBoard_any _ _ _ _ _ _ _ _ _ _ _ _ B _ (vb_ints h1 hB) (vb_ints h2 hB) (vb_size hB) hn hm).mono ?_
    rw [hv]
    rintro e v ⟨rfl, hb⟩
    obtain ⟨R0, R1, HB0, hz⟩ := vb_after hb
    go_wp2_with fail
    go_ret3
    exact ⟨rfl, HB0⟩
  · obtain ⟨P, hP, ⟨hPn, hPn2⟩, ⟨hPm, hPm2⟩, hn25, hm25, hX, hY⟩ := boardB_out hv
    subst hP
    replace hX := Lib.hid hX
    replace hY := Lib.hid hY
    rw [primeV_yes hv]
    go_enter Try.func17, Try.ntmps17
    go_wp2_with fail
    refine (impl_IsBoard_any _ _ _ _ _ _ _ _ _ _ _ _ B _ (vb_ints h1 hB) (vb_ints h2 hB) (vb_size hB) hn hm).mono ?_
    rw [hv]
    rintro e v ⟨rfl, hb⟩
    obtain ⟨R0, R1, HB0, hz⟩ := vb_after hb
    have hzB : B ≤ v.heap.size := by omega
    have k1 : Ints v B .i64 a n xs := (vb_ints h1 hB).below (hb.mono (vb_size hB))
    obtain ⟨c0, c1, c2, c3⟩ := vr4_cells R0
    obtain ⟨d0, d1⟩ := pr_cells R1
    clear hb R0 R1
    go_wp2_with fail
    refine (longestPrime_any P c h s _ _ _ xs B _ k1 hzB (by omega) hn25).mono ?_
    rintro e v2 ⟨rfl, hb2⟩
    go_wp2_with fail
    go_ret3
    exact ⟨rfl, HB0.trans (hb2.mono HB0.size)⟩

set_option maxHeartbeats 800000 in
theorem spec_LongestPrime_any (p c h s : Int) (a : Option Addr) (n ca : Nat) (xs : List Int) (b : Option Addr) (m cb : Nat) (ys : List Int) (B : Nat) (w : World) (h1 : Ints w B .i64 a n xs) (h2 : Ints w B .i64 b m ys) (hB : B ≤ w.heap.size) (hn : n ≤ 1048576) (hm : m ≤ 1048576) :
    Calls Try.prog 14 #[vrV p c h s, bdV a n ca b m cb] w fun e w' => e = .returned (primeV p c h s n xs m ys) ∧ Below w.heap.size w w' := by
  cases hv : boardB p c h s n xs m ys
  · rw [primeV_no hv]
    go_enter Try.func14, Try.ntmps14
    go_wp2_with fail
    refine (spec_IsBoard_any _ _ _ _ _ _ _ _ _ _ _ _ B _ (vb_ints h1 hB) (vb_ints h2 hB) (vb_size hB) hn hm).mono ?_
    rw [hv]
    rintro e v ⟨rfl, hb⟩
    obtain ⟨R0, R1, HB0, hz⟩ := vb_after hb
    go_wp2_with fail
    go_ret3
    exact ⟨rfl, HB0⟩
  · obtain ⟨P, hP, ⟨hPn, hPn2⟩, ⟨hPm, hPm2⟩, hn25, hm25, hX, hY⟩ := boardB_out hv
    subst hP
    replace hX := Lib.hid hX
    replace hY := Lib.hid hY
    rw [primeV_yes hv]
    go_enter Try.func14, Try.ntmps14
    go_wp2_with fail
    refine (spec_IsBoard_any _ _ _ _ _ _ _ _ _ _ _ _ B _ (vb_ints h1 hB) (vb_ints h2 hB) (vb_size hB) hn hm).mono ?_
    rw [hv]
    rintro e v ⟨rfl, hb⟩
    obtain ⟨R0, R1, HB0, hz⟩ := vb_after hb
    have hzB : B ≤ v.heap.size := by omega
    have k1 : Ints v B .i64 a n xs := (vb_ints h1 hB).below (hb.mono (vb_size hB))
    obtain ⟨c0, c1, c2, c3⟩ := vr4_cells R0
    obtain ⟨d0, d1⟩ := pr_cells R1
    clear hb R0 R1
    go_wp2_with fail
    refine (l22Prime_any P _ _ _ xs B _ k1 (by omega) hn25).mono ?_
    rintro e v2 ⟨rfl, rfl⟩
    go_wp2_with fail
    go_ret3
    exact ⟨rfl, HB0⟩

/-- the points that answer f, of a board; the code -/
def ptsB (f : Int → Bool) (p c h s : Int) (n : Nat) (xs : List Int) (m : Nat) (ys : List Int) : List Int := if boardB p c h s n xs m ys = true then ptsL f xs p.toNat else []
def bdC (p c h s : Int) (n : Nat) (xs : List Int) (m : Nat) (ys : List Int) : Int := if boardB p c h s n xs m ys = true then 0 else 1
section
variable {p c h s : Int} {n : Nat} {xs : List Int} {m : Nat} {ys : List Int} {f : Int → Bool} {P : Nat}
theorem ptsB_no (hv : boardB p c h s n xs m ys = false) : ptsB f p c h s n xs m ys = [] := by rw [ptsB, hv]; rfl
theorem ptsB_yes (hv : boardB P c h s n xs m ys = true) : ptsB f P c h s n xs m ys = ptsL f xs P := by rw [ptsB, hv, Int.toNat_natCast]; rfl
theorem bdC_no (hv : boardB p c h s n xs m ys = false) : bdC p c h s n xs m ys = 1 := by rw [bdC, hv]; rfl
theorem bdC_yes (hv : boardB p c h s n xs m ys = true) : bdC p c h s n xs m ys = 0 := by rw [bdC, hv]; rfl
theorem ptsB_le : (ptsB f p c h s n xs m ys).length ≤ 1048576 := by
  cases hv : boardB p c h s n xs m ys
  · rw [ptsB_no hv]; simp
  · obtain ⟨P, rfl, ⟨e, _⟩, _, h25, _⟩ := boardB_out hv
    rw [ptsB_yes hv]
    have := ptsL_le f xs P
    omega
end
def isOne (x : Int) : Bool := wB x 1 1
def isMade (x : Int) : Bool := wB x 2 99

set_option maxHeartbeats 1600000 in
theorem madePoints_any (P : Nat) (c h s : Int) (a : Option Addr) (n ca : Nat) (xs : List Int) (B : Nat) (w : World) (h1 : Ints w B .i64 a n xs) (hB : B ≤ w.heap.size) (hn : P < n) (hn25 : n ≤ 25) (hX : ∀ i, i < n → 0 ≤ xs.getD i 0 ∧ xs.getD i 0 ≤ 15) :
    Calls Try.prog 53 #[vrV P c h s, .slice a n ca] w fun e w' => ∃ v, e = .returned v ∧ Grows w' w.heap.size v (ptsL isMade xs P) ∧ Below w.heap.size w w' := by
  have HB0 := (Below.refl w.heap.size w).alloc (Nat.le_refl _) (.cells #[.int .i64 P, .int .i64 c, .int .i64 h, .int .i64 s] 30)
  have k1 := h1
  have XB := Lib.hid hX
  clear h1 hX
  go_enter Try.func53, Try.ntmps53
  obtain ⟨bb, off, rfl, hbb, hc0⟩ := k1.2 (by omega)
  have HC := Lib.hid hc0
  clear hc0 k1
  have HK := Lib.hid (fun (W : World) (k : Nat) => new_cell W #[.int .i64 (k : Int)] 2 0)
  go_wp2_with fail
  go_loopw [5, 9] (fun sl i wr => ∃ k : Nat, k ≤ P ∧ i = .int .i64 k ∧ Grows wr w.heap.size sl (ptsL isMade xs k) ∧ Below w.heap.size w wr) (fun _ i _ => P - (intOf i).toNat)
  case atStart => exact ⟨0, Nat.zero_le _, rfl, Grows.nil _ _, HB0⟩
  case round =>
    obtain ⟨k, hk, rfl, hg, hbw⟩ := hrel
    have hzw := hbw.size
    by_cases hlt : k < P
    · have hcx := (hbw.cell (p := ⟨bb, off + k, none⟩) (by have := hbb; show bb < _; omega)).trans (HC.out k (by omega))
      have hx1 := (XB.out k (by omega)).1
      have hx2 := (XB.out k (by omega)).2
      have LE := ptsL_le isMade xs k
      have HY := Lib.hid (ptsL_yes (f := isMade) (xs := xs) (k := k))
      have HN := Lib.hid (ptsL_no (f := isMade) (xs := xs) (k := k))
      have HKK := Lib.hid (HK.out wr k)
      obtain ⟨x, hx⟩ : ∃ x, xs.getD k 0 = x := ⟨_, rfl⟩
      rw [hx] at hcx hx1 hx2 HY HN
      clear hx
      have hg' := Lib.hid hg
      have hbw' := Lib.hid hbw
      clear hg hbw
      cases hf : isMade x
      · have HN2 := Lib.hid (HN.out hf)
        have hge : x < 2 := by rcases wB_false.1 hf with h | h <;> omega
        go_wp2
        go_roundw
        case rel => exact ⟨k + 1, by omega, by go_num, by rw [HN2.out]; exact hg'.out, hbw'.out⟩
        case measure => simp [intOf]; omega
      · have HY2 := Lib.hid (HY.out hf)
        have hge : 2 ≤ x := (wB_true.1 hf).1
        go_wp2_with (first | (at_builtin; refine app_grow rfl (.tmp 17) (.tmp 19) rfl rfl (hg'.out.alloc _) ⟨wr.heap.size, 0, none⟩ (k : Int) rfl HKK.out (by omega) (by simp; omega) ?_; intro v2 w2 hg2 hb2))
        have hb3 := hbw'.out.trans (((Below.refl w.heap.size wr).alloc hzw (.cells #[.int .i64 (k : Int)] 2)).trans hb2)
        go_roundw
        case rel => exact ⟨k + 1, by omega, by go_num, by rw [HY2.out]; exact hg2, hb3⟩
        case measure => simp [intOf]; omega
    · obtain rfl : k = P := by omega
      go_wp2
      go_ret
      exact ⟨_, rfl, hg, hbw⟩

set_option maxHeartbeats 1600000 in
theorem l22Where_any (P : Nat) (lo hi : Int) (a : Option Addr) (n ca : Nat) (xs : List Int) (B : Nat) (w : World) (k1 : Ints w B .i64 a n xs) (hB : B ≤ w.heap.size) (hn : P < n) (hn25 : n ≤ 25) :
    Calls Try.prog 51 #[.slice a n ca, .int .i64 (P : Int), .int .i64 lo, .int .i64 hi] w fun e w' => ∃ v, e = .returned v ∧ Grows w' w.heap.size v (ptsL (fun x => wB x lo hi) xs P) ∧ Below w.heap.size w w' := by
  have HB0 := (Below.refl w.heap.size w).alloc (Nat.le_refl _) (.cells #[] 2)
  have HG0 := Lib.hid (Grows.new w w.heap.size (Nat.le_refl _))
  go_enter Try.func51, Try.ntmps51
  obtain ⟨bb, off, rfl, hbb, hc0⟩ := k1.2 (by omega)
  have HC := Lib.hid hc0
  clear hc0 k1
  have HK := Lib.hid (fun (W : World) (k : Nat) => new_cell W #[.int .i64 (k : Int)] 2 0)
  go_wp2_with fail
  go_loopw [9, 10] (fun sl i wr => ∃ k : Nat, k ≤ P ∧ i = .int .i64 k ∧ Grows wr w.heap.size sl (ptsL (fun x => wB x lo hi) xs k) ∧ Below w.heap.size w wr) (fun _ i _ => P - (intOf i).toNat)
  case atStart => exact ⟨0, Nat.zero_le _, rfl, HG0.out, HB0⟩
  case round =>
    obtain ⟨k, hk, rfl, hg, hbw⟩ := hrel
    have hzw := hbw.size
    by_cases hlt : k < P
    · have hcx := (hbw.cell (p := ⟨bb, off + k, none⟩) (by have := hbb; show bb < _; omega)).trans (HC.out k (by omega))
      have LE := ptsL_le (fun x => wB x lo hi) xs k
      have HY := Lib.hid (ptsL_yes (f := (fun x => wB x lo hi)) (xs := xs) (k := k))
      have HN := Lib.hid (ptsL_no (f := (fun x => wB x lo hi)) (xs := xs) (k := k))
      have HKK := Lib.hid (HK.out wr k)
      obtain ⟨x, hx⟩ : ∃ x, xs.getD k 0 = x := ⟨_, rfl⟩
      rw [hx] at hcx HY HN
      clear hx
      have hg' := Lib.hid hg
      have hbw' := Lib.hid hbw
      clear hg hbw
      cases hf : wB x lo hi
      · have HN2 := Lib.hid (HN.out hf)
        go_wp2_with ((go_at_call 79; refine (l01In_any _ _ _ _).mono ?_; rw [hf]; rintro e w' ⟨rfl, rfl⟩))
        go_roundw
        case rel => exact ⟨k + 1, by omega, by go_num, by rw [HN2.out]; exact hg'.out, hbw'.out⟩
        case measure => simp [intOf]; omega
      · have HY2 := Lib.hid (HY.out hf)
        go_wp2_with (first | (go_at_call 79; refine (l01In_any _ _ _ _).mono ?_; rw [hf]; rintro e w' ⟨rfl, rfl⟩) | (at_builtin; refine app_grow rfl (.tmp 24) (.tmp 26) rfl rfl (hg'.out.alloc _) ⟨wr.heap.size, 0, none⟩ (k : Int) rfl HKK.out (by omega) (by simp; omega) ?_; intro v2 w2 hg2 hb2))
        have hb3 := hbw'.out.trans (((Below.refl w.heap.size wr).alloc hzw (.cells #[.int .i64 (k : Int)] 2)).trans hb2)
        go_roundw
        case rel => exact ⟨k + 1, by omega, by go_num, by rw [HY2.out]; exact hg2, hb3⟩
        case measure => simp [intOf]; omega
    · obtain rfl : k = P := by omega
      go_wp2
      go_ret
      exact ⟨_, rfl, hg, hbw⟩

set_option maxHeartbeats 1600000 in
theorem impl_BlotsOf_any (p c h s : Int) (a : Option Addr) (n ca : Nat) (xs : List Int) (b : Option Addr) (m cb : Nat) (ys : List Int) (B : Nat) (w : World) (h1 : Ints w B .i64 a n xs) (h2 : Ints w B .i64 b m ys) (hB : B ≤ w.heap.size) (hn : n ≤ 1048576) (hm : m ≤ 1048576) :
    Calls Try.prog 52 #[vrV p c h s, bdV a n ca b m cb] w fun e w' => LPost (ptsB isOne p c h s n xs m ys) (bdC p c h s n xs m ys) w e w' := by
  cases hv : boardB p c h s n xs m ys
  · rw [ptsB_no hv, bdC_no hv]
    go_enter Try.func52, Try.ntmps52
    go_wp2_with fail
    refine (impl_IsBoard_any _ _ _ _ _ _ _ _ _ _ _ _ B _ (vb_ints h1 hB) (vb_ints h2 hB) (vb_size hB) hn hm).mono ?_
    rw [hv]
    rintro e v ⟨rfl, hb⟩
    obtain ⟨R0, R1, HB0, hz⟩ := vb_after hb
    go_wp2_with fail
    go_ret2
    exact .of_nil rfl rfl HB0
  · obtain ⟨P, hP, ⟨hPn, hPn2⟩, ⟨hPm, hPm2⟩, hn25, hm25, hX, hY⟩ := boardB_out hv
    subst hP
    replace hX := Lib.hid hX
    replace hY := Lib.hid hY
    rw [ptsB_yes hv, bdC_yes hv]
    have XB := hX
    go_enter Try.func52, Try.ntmps52
    go_wp2_with fail
    refine (impl_IsBoard_any _ _ _ _ _ _ _ _ _ _ _ _ B _ (vb_ints h1 hB) (vb_ints h2 hB) (vb_size hB) hn hm).mono ?_
    rw [hv]
    rintro e v ⟨rfl, hb⟩
    obtain ⟨R0, R1, HB0, hz⟩ := vb_after hb
    have k1 : Ints v B .i64 a n xs := (vb_ints h1 hB).below (hb.mono (vb_size hB))
    have hzB : B ≤ v.heap.size := by omega
    obtain ⟨c0, c1, c2, c3⟩ := vr4_cells R0
    have RR := Lib.hid (pr_cells R1).1
    clear hb R0 R1 c1 c2 c3
    obtain ⟨bb, off, rfl, hbb, hc0⟩ := k1.2 (by omega)
    have HC := Lib.hid hc0
    clear hc0 k1
    have HK := Lib.hid (fun (W : World) (k : Nat) => new_cell W #[.int .i64 (k : Int)] 2 0)
    go_wp2_with fail
    go_loopw [6, 14] (fun sl i wr => ∃ k : Nat, k ≤ P ∧ i = .int .i64 k ∧ Grows wr v.heap.size sl (ptsL isOne xs k) ∧ Below v.heap.size v wr) (fun _ i _ => P - (intOf i).toNat)
    case atStart => exact ⟨0, Nat.zero_le _, rfl, Grows.nil _ _, Below.refl _ _⟩
    case round =>
      obtain ⟨k, hk, rfl, hg, hbw⟩ := hrel
      have hzw := hbw.size
      by_cases hlt : k < P
      · have hcx := (hbw.cell (p := ⟨bb, off + k, none⟩) (by have := hbb; show bb < _; omega)).trans (HC.out k (by omega))
        have hx1 := (XB.out k (by omega)).1
        have hx2 := (XB.out k (by omega)).2
        have LE := ptsL_le isOne xs k
        have HY := Lib.hid (ptsL_yes (f := isOne) (xs := xs) (k := k))
        have HN := Lib.hid (ptsL_no (f := isOne) (xs := xs) (k := k))
        have HKK := Lib.hid (HK.out wr k)
        obtain ⟨x, hx⟩ : ∃ x, xs.getD k 0 = x := ⟨_, rfl⟩
        rw [hx] at hcx hx1 hx2 HY HN
        clear hx
        have d0 := (hbw.cell (p := ⟨w.heap.size + 1, 0, none⟩) (by show w.heap.size + 1 < _; omega)).trans RR.out
        have hg' := Lib.hid hg
        have hbw' := Lib.hid hbw
        clear hg hbw
        cases hf : isOne x
        · have HN2 := Lib.hid (HN.out hf)
          have hge : (x == 1) = false := by have := wB_false.1 hf; simp; omega
          go_wp2
          go_roundw
          case rel => exact ⟨k + 1, by omega, by go_num, by rw [HN2.out]; exact hg'.out, hbw'.out⟩
          case measure => simp [intOf]; omega
        · have HY2 := Lib.hid (HY.out hf)
          have hge : (x == 1) = true := by have := wB_true.1 hf; simp; omega
          go_wp2_with (first | (at_builtin; refine app_grow rfl (.tmp 23) (.tmp 25) rfl rfl (hg'.out.alloc _) ⟨wr.heap.size, 0, none⟩ (k : Int) rfl HKK.out (by omega) (by simp; omega) ?_; intro v2 w2 hg2 hb2))
          have hb3 := hbw'.out.trans (((Below.refl v.heap.size wr).alloc hzw (.cells #[.int .i64 (k : Int)] 2)).trans hb2)
          go_roundw
          case rel => exact ⟨k + 1, by omega, by go_num, by rw [HY2.out]; exact hg2, hb3⟩
          case measure => simp [intOf]; omega
      · obtain rfl : k = P := by omega
        go_wp2
        go_ret2
        exact .of_grows rfl hg (by omega) (HB0.trans (hbw.mono HB0.size))

set_option maxHeartbeats 800000 in
theorem impl_OwnBlots_any (p c h s : Int) (a : Option Addr) (n ca : Nat) (xs : List Int) (b : Option Addr) (m cb : Nat) (ys : List Int) (B : Nat) (w : World) (h1 : Ints w B .i64 a n xs) (h2 : Ints w B .i64 b m ys) (hB : B ≤ w.heap.size) (hn : n ≤ 1048576) (hm : m ≤ 1048576) :
    Calls Try.prog 20 #[vrV p c h s, bdV a n ca b m cb] w fun e w' => LPost (ptsB isOne p c h s n xs m ys) (bdC p c h s n xs m ys) w e w' := by
  have HB0 := ((Below.refl w.heap.size w).alloc (Nat.le_refl _) (.cells #[.int .i64 p, .int .i64 c, .int .i64 h, .int .i64 s] 30)).alloc (by simp) (.cells #[.slice a n ca, .slice b m cb] 32)
  go_enter Try.func20, Try.ntmps20
  go_wp2_with fail
  refine (impl_BlotsOf_any _ _ _ _ _ _ _ _ _ _ _ _ B _ (vb_ints h1 hB) (vb_ints h2 hB) (vb_size hB) hn hm).mono ?_
  rintro e v ⟨a', k, c', rfl, hl, hr, hb⟩
  have hz := hb.size
  simp only [World.size_alloc] at hz hr
  have HL := Lib.hid hl
  clear hl
  go_wp2_with fail
  go_ret2
  exact ⟨a', k, c', rfl, HL.out, hr.wide (by omega) (Nat.le_refl _), HB0.trans (hb.mono HB0.size)⟩

set_option maxHeartbeats 800000 in
theorem spec_OwnBlots_any (p c h s : Int) (a : Option Addr) (n ca : Nat) (xs : List Int) (b : Option Addr) (m cb : Nat) (ys : List Int) (B : Nat) (w : World) (h1 : Ints w B .i64 a n xs) (h2 : Ints w B .i64 b m ys) (hB : B ≤ w.heap.size) (hn : n ≤ 1048576) (hm : m ≤ 1048576) :
    Calls Try.prog 19 #[vrV p c h s, bdV a n ca b m cb] w fun e w' => LPost (ptsB isOne p c h s n xs m ys) (bdC p c h s n xs m ys) w e w' := by
  cases hv : boardB p c h s n xs m ys
  · rw [ptsB_no hv, bdC_no hv]
    go_enter Try.func19, Try.ntmps19
    go_wp2_with fail
    refine (spec_IsBoard_any _ _ _ _ _ _ _ _ _ _ _ _ B _ (vb_ints h1 hB) (vb_ints h2 hB) (vb_size hB) hn hm).mono ?_
    rw [hv]
    rintro e v ⟨rfl, hb⟩
    obtain ⟨R0, R1, HB0, hz⟩ := vb_after hb
    go_wp2_with fail
    go_ret2
    exact .of_nil rfl rfl HB0
  · obtain ⟨P, hP, ⟨hPn, hPn2⟩, ⟨hPm, hPm2⟩, hn25, hm25, hX, hY⟩ := boardB_out hv
    subst hP
    replace hX := Lib.hid hX
    replace hY := Lib.hid hY
    rw [ptsB_yes hv, bdC_yes hv]
    go_enter Try.func19, Try.ntmps19
    go_wp2_with fail
    refine (spec_IsBoard_any _ _ _ _ _ _ _ _ _ _ _ _ B _ (vb_ints h1 hB) (vb_ints h2 hB) (vb_size hB) hn hm).mono ?_
    rw [hv]
    rintro e v ⟨rfl, hb⟩
    obtain ⟨R0, R1, HB0, hz⟩ := vb_after hb
    have hzB : B ≤ v.heap.size := by omega
    have k1 : Ints v B .i64 a n xs := (vb_ints h1 hB).below (hb.mono (vb_size hB))
    obtain ⟨c0, c1, c2, c3⟩ := vr4_cells R0
    obtain ⟨d0, d1⟩ := pr_cells R1
    clear hb R0 R1
    go_wp2_with fail
    refine (l22Where_any P 1 1 _ _ _ xs B _ k1 hzB (by omega) hn25).mono ?_
    rintro e v2 ⟨sl, rfl, hg, hb2⟩
    have HG := Lib.hid hg
    clear hg
    go_wp2_with fail
    go_ret2
    exact .of_grows rfl HG.out (by omega) (HB0.trans (hb2.mono HB0.size))

set_option maxHeartbeats 800000 in
theorem impl_MadePoints_any (p c h s : Int) (a : Option Addr) (n ca : Nat) (xs : List Int) (b : Option Addr) (m cb : Nat) (ys : List Int) (B : Nat) (w : World) (h1 : Ints w B .i64 a n xs) (h2 : Ints w B .i64 b m ys) (hB : B ≤ w.heap.size) (hn : n ≤ 1048576) (hm : m ≤ 1048576) :
    Calls Try.prog 26 #[vrV p c h s, bdV a n ca b m cb] w fun e w' => LPost (ptsB isMade p c h s n xs m ys) (bdC p c h s n xs m ys) w e w' := by
  cases hv : boardB p c h s n xs m ys
  · rw [ptsB_no hv, bdC_no hv]
    go_enter Try.func26, Try.ntmps26
    go_wp2_with fail
    refine (impl_IsBoard_any _ _ _ _ _ _ _ _ _ _ _ _ B _ (vb_ints h1 hB) (vb_ints h2 hB) (vb_size hB) hn hm).mono ?_
    rw [hv]
    rintro e v ⟨rfl, hb⟩
    obtain ⟨R0, R1, HB0, hz⟩ := vb_after hb
    go_wp2_with fail
    go_ret2
    exact .of_nil rfl rfl HB0
  · obtain ⟨P, hP, ⟨hPn, hPn2⟩, ⟨hPm, hPm2⟩, hn25, hm25, hX, hY⟩ := boardB_out hv
    subst hP
    replace hX := Lib.hid hX
    replace hY := Lib.hid hY
    rw [ptsB_yes hv, bdC_yes hv]
    go_enter Try.func26, Try.ntmps26
    go_wp2_with fail
    refine (impl_IsBoard_any _ _ _ _ _ _ _ _ _ _ _ _ B _ (vb_ints h1 hB) (vb_ints h2 hB) (vb_size hB) hn hm).mono ?_
    rw [hv]
    rintro e v ⟨rfl, hb⟩
    obtain ⟨R0, R1, HB0, hz⟩ := vb_after hb
    have hzB : B ≤ v.heap.size := by omega
    have k1 : Ints v B .i64 a n xs := (vb_ints h1 hB).below (hb.mono (vb_size hB))
    obtain ⟨c0, c1, c2, c3⟩ := vr4_cells R0
    obtain ⟨d0, d1⟩ := pr_cells R1
    clear hb R0 R1
    go_wp2_with fail
    refine (madePoints_any P c h s _ _ _ xs B _ k1 hzB (by omega) hn25 hX.out).mono ?_
    rintro e v2 ⟨sl, rfl, hg, hb2⟩
    have HG := Lib.hid hg
    clear hg
    go_wp2_with fail
    go_ret2
    exact .of_grows rfl HG.out (by omega) (HB0.trans (hb2.mono HB0.size))

set_option maxHeartbeats 800000 in
theorem spec_MadePoints_any (p c h s : Int) (a : Option Addr) (n ca : Nat) (xs : List Int) (b : Option Addr) (m cb : Nat) (ys : List Int) (B : Nat) (w : World) (h1 : Ints w B .i64 a n xs) (h2 : Ints w B .i64 b m ys) (hB : B ≤ w.heap.size) (hn : n ≤ 1048576) (hm : m ≤ 1048576) :
    Calls Try.prog 25 #[vrV p c h s, bdV a n ca b m cb] w fun e w' => LPost (ptsB isMade p c h s n xs m ys) (bdC p c h s n xs m ys) w e w' := by
  cases hv : boardB p c h s n xs m ys
  · rw [ptsB_no hv, bdC_no hv]
    go_enter Try.func25, Try.ntmps25
    go_wp2_with fail
    refine (spec_IsBoard_any _ _ _ _ _ _ _ _ _ _ _ _ B _ (vb_ints h1 hB) (vb_ints h2 hB) (vb_size hB) hn hm).mono ?_
    rw [hv]
    rintro e v ⟨rfl, hb⟩
    obtain ⟨R0, R1, HB0, hz⟩ := vb_after hb
    go_wp2_with fail
    go_ret2
    exact .of_nil rfl rfl HB0
  · obtain ⟨P, hP, ⟨hPn, hPn2⟩, ⟨hPm, hPm2⟩, hn25, hm25, hX, hY⟩ := boardB_out hv
    subst hP
    replace hX := Lib.hid hX
    replace hY := Lib.hid hY
    rw [ptsB_yes hv, bdC_yes hv]
    go_enter Try.func25, Try.ntmps25
    go_wp2_with fail
    refine (spec_IsBoard_any _ _ _ _ _ _ _ _ _ _ _ _ B _ (vb_ints h1 hB) (vb_ints h2 hB) (vb_size hB) hn hm).mono ?_
    rw [hv]
    rintro e v ⟨rfl, hb⟩
    obtain ⟨R0, R1, HB0, hz⟩ := vb_after hb
    have hzB : B ≤ v.heap.size := by omega
    have k1 : Ints v B .i64 a n xs := (vb_ints h1 hB).below (hb.mono (vb_size hB))
    obtain ⟨c0, c1, c2, c3⟩ := vr4_cells R0
    obtain ⟨d0, d1⟩ := pr_cells R1
    clear hb R0 R1
    go_wp2_with fail
    refine (l22Where_any P 2 99 _ _ _ xs B _ k1 hzB (by omega) hn25).mono ?_
    rintro e v2 ⟨sl, rfl, hg, hb2⟩
    have HG := Lib.hid hg
    clear hg
    go_wp2_with fail
    go_ret2
    exact .of_grows rfl HG.out (by omega) (HB0.trans (hb2.mono HB0.size))
end Go.Proofs.Ytoolggmomlmnbaa
