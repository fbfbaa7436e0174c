/-
  The walks of IsBoard (both packages) and of the copies and comparisons of boards.
-/
import Derived.Test.YtjfmpnkbocilpaaRegH
import Derived.Test.YtjfmpnkbocilpaaOpen
import Derived.Test.YtjfmpnkbocilpaaVr
import Derived.Deep.QuietTactic
import Derived.BigQuiet
import Derived.Deep.RegionHeld3
import Derived.IntWalk
namespace Go.Proofs.Ytjfmpnkbocilpaa
open Go.ChangeShapes Go.WideShapes Go.ChangeAt Go.RowKit Go.Joins Go.Deep

abbrev bdV (a : Option Addr) (n c : Nat) (b : Option Addr) (m d : Nat) : Value := .agg #[.slice a n c, .slice b m d]
section
variable {H : Type} {enc : TypeId × Value → H} {w : World} {spare : Nat → Bool} {held : Bool}
set_option maxRecDepth 100000 in
theorem open_board {r : Reach} {b0 base : Nat} {v : Value} {d : DataW H} {p : List MemPlace} (hv : Value.okWide Try.prog w r b0 26 v) (h : DataW.Trod enc Try.prog w base spare held 26 v d p) :
    ∃ a n c xs b m d' ys, v = bdV a n c b m d' ∧ IntsArg w .i64 a n xs ∧ IntsArg w .i64 b m ys := by
  obtain ⟨v0, v1, y0, y1, f, rfl, _, _, g0, g1⟩ := open_agg2 Try.underlying26 (by kernel_rfl) (by kernel_rfl) hv h
  obtain ⟨a, n, c, xs, e2, w2⟩ := ints_of_cell Try.underlying24 Try.underlying2 (by kernel_rfl) g0
  obtain ⟨b, m, d', ys, e3, w3⟩ := ints_of_cell Try.underlying24 Try.underlying2 (by kernel_rfl) g1
  subst e2 e3
  exact ⟨a, n, c, xs, b, m, d', ys, rfl, w2, w3⟩
end

theorem ints_drewN {w : World} {B n : Nat} {k : IntKind} {a : Option Addr} {xs : List Int} (h : Ints w B k a n xs) (j : Nat) : Ints (w.drewN j) B k a n xs := h
theorem quiet_add_left {P : Program} {f : FuncId} {args : Array Value} {w : World} {a n : Nat} {v : Value}
    (h : Calls P f args (w.drewN (a + n)) fun e w' => e = .returned v ∧ w.drewN (a + n) = w') :
    Calls P f args (w.drewN (a + n)) fun e w'' => e = .returned v ∧ ∃ m, w'' = w.drewN (a + m) :=
  h.mono fun _ _ ⟨he, hm⟩ => ⟨he, n, hm.symm⟩
/-- a block of two values -/
def pr (p q : Value) : Nat → Value
  | 0 => p
  | _ => q
theorem pr_new (w : World) (p q : Value) (t : TypeId) : (w.alloc (.cells #[p, q] t)).rowIs w.heap.size t 2 (pr p q) :=
  World.rowIs_alloc w _ _ _ (fun j hj => by
    match j, hj with
    | 0, _ => rfl
    | 1, _ => rfl)
theorem pr_cells {w : World} {g t : Nat} {p q : Value} (h : w.rowIs g t 2 (pr p q)) : w.cell? ⟨g, 0, none⟩ = some p ∧ w.cell? ⟨g, 1, none⟩ = some q :=
  ⟨h.cell (i := 0) (by omega), h.cell (i := 1) (by omega)⟩
theorem pr_set {w : World} {g t : Nat} {f : Nat → Value} (h : w.rowIs g t 2 f) (p q : Value) : ((w.setCell ⟨g, 0, none⟩ p).setCell ⟨g, 1, none⟩ q).rowIs g t 2 (pr p q) :=
  ((h.set 0 p).set 1 q).congr (fun j hj => by
    match j, hj with
    | 0, _ => rfl
    | 1, _ => rfl)

/-- a block of four values (a variant in memory) -/
def vr4 (p q r s : Value) : Nat → Value
  | 0 => p
  | 1 => q
  | 2 => r
  | _ => s
theorem vr4_new (w : World) (p q r s : Value) (t : TypeId) : (w.alloc (.cells #[p, q, r, s] t)).rowIs w.heap.size t 4 (vr4 p q r s) :=
  World.rowIs_alloc w _ _ _ (fun j hj => by
    match j, hj with
    | 0, _ => rfl
    | 1, _ => rfl
    | 2, _ => rfl
    | 3, _ => rfl)
theorem vr4_cells {w : World} {g t : Nat} {p q r s : Value} (h : w.rowIs g t 4 (vr4 p q r s)) : w.cell? ⟨g, 0, none⟩ = some p ∧ w.cell? ⟨g, 1, none⟩ = some q ∧ w.cell? ⟨g, 2, none⟩ = some r ∧ w.cell? ⟨g, 3, none⟩ = some s :=
  ⟨h.cell (i := 0) (by omega), h.cell (i := 1) (by omega), h.cell (i := 2) (by omega), h.cell (i := 3) (by omega)⟩

/-- what is a side of a board -/
def sideB (p c : Int) (n : Nat) (xs : List Int) : Bool := ((n : Int) == p + 1) && (allTo (fun x => wB x 0 c) xs n && decide (psum xs n ≤ c))
theorem sideB_len {p c : Int} {n : Nat} {xs : List Int} (h : ((n : Int) == p + 1) = false) : sideB p c n xs = false := by rw [sideB, h]; rfl
theorem sideB_no {p c : Int} {n k : Nat} {xs : List Int} (hk : k < n) (h : wB (xs.getD k 0) 0 c = false) : sideB p c n xs = false := by
  rw [sideB, allTo_no (p := fun x => wB x 0 c) hk h, Bool.false_and, Bool.and_false]
theorem psum_mono {xs : List Int} {j : Nat} : ∀ n, j ≤ n → (∀ i, i < n → 0 ≤ xs.getD i 0) → psum xs j ≤ psum xs n
  | 0, h, _ => by obtain rfl : j = 0 := by omega
                  exact Int.le_refl _
  | n + 1, h, hx => by
    by_cases e : j = n + 1
    · subst e; exact Int.le_refl _
    · have := psum_mono (xs := xs) (j := j) n (by omega) (fun i hi => hx i (by omega))
      rw [psum_succ]
      have := hx n (by omega)
      omega
theorem sideB_over {p c : Int} {n k : Nat} {xs : List Int} (hk : k ≤ n) (h : c < psum xs k) : sideB p c n xs = false := by
  cases e : sideB p c n xs with
  | false => rfl
  | true =>
    simp only [sideB, Bool.and_eq_true, decide_eq_true_eq] at e
    have := psum_mono (xs := xs) n hk (fun i hi => (wB_true.1 (allTo_at e.2.1 i hi)).1)
    omega
theorem sideB_yes {p c : Int} {n : Nat} {xs : List Int} (h1 : ((n : Int) == p + 1) = true) (h2 : allTo (fun x => wB x 0 c) xs n = true) : sideB p c n xs = decide (psum xs n ≤ c) := by rw [sideB, h1, h2]; rfl
theorem sideB_out {p c : Int} {n : Nat} {xs : List Int} (h : sideB p c n xs = true) : (n : Int) = p + 1 ∧ (∀ i, i < n → 0 ≤ xs.getD i 0 ∧ xs.getD i 0 ≤ c) ∧ 0 ≤ psum xs n ∧ psum xs n ≤ c := by
  simp only [sideB, Bool.and_eq_true, decide_eq_true_eq, beq_iff_eq] at h
  have hx := fun i hi => wB_true.1 (allTo_at h.2.1 i hi)
  exact ⟨h.1, hx, psum_mono (j := 0) n (Nat.zero_le _) (fun i hi => (hx i hi).1), h.2.2⟩
theorem allTo_nn {xs : List Int} {c : Int} : ∀ {k : Nat}, (∀ i, i < k → 0 ≤ xs.getD i 0) → psum xs k ≤ c → allTo (fun x => wB x 0 c) xs k = true
  | 0, _, _ => rfl
  | k + 1, h, hs => by
    have h0 := psum_mono (xs := xs) (j := 0) k (Nat.zero_le _) (fun i hi => h i (by omega))
    have h0' : psum xs 0 = 0 := rfl
    rw [psum_succ] at hs
    have hk := h k (by omega)
    rw [allTo_succ, allTo_nn (fun i hi => h i (by omega)) (by omega), show wB (xs.getD k 0) 0 c = true from wB_true.2 (by omega)]
    rfl
/-- no point below k holds checkers of both players (p points) -/
def apart (p : Nat) (xs ys : List Int) : Nat → Bool
  | 0 => true
  | k + 1 => apart p xs ys k && !(decide (0 < xs.getD k 0) && decide (0 < ys.getD (p - 1 - k) 0))
theorem apart_no {p : Nat} {xs ys : List Int} {k : Nat} (h1 : 0 < xs.getD k 0) (h2 : 0 < ys.getD (p - 1 - k) 0) : ∀ n, k < n → apart p xs ys n = false
  | 0, h => absurd h (by omega)
  | n + 1, h => by
    by_cases e : k = n
    · subst e
      show (apart p xs ys k && !(decide (0 < xs.getD k 0) && decide (0 < ys.getD (p - 1 - k) 0))) = false
      rw [decide_eq_true h1, decide_eq_true h2]
      simp
    · rw [apart, apart_no h1 h2 n (by omega)]; rfl
/-- what both packages' IsBoard returns -/
def boardB (p c h s : Int) (n : Nat) (xs : List Int) (m : Nat) (ys : List Int) : Bool :=
  vrB p c h s && (sideB p c n xs && (sideB p c m ys && (!(psum xs n == 0 && psum ys m == 0) && apart p.toNat xs ys p.toNat)))

set_option maxHeartbeats 800000 in
theorem isSide_any (p c h s : Int) (a : Option Addr) (n ca B : Nat) (xs : List Int) (w : World) (h1 : Ints w B .i64 a n xs) (hB : B ≤ w.heap.size) (hv : vrB p c h s = true) (hn : n ≤ 1048576) :
    Calls Try.prog 41 #[vrV p c h s, .slice a n ca] w fun e w' => e = .returned (.bool (sideB p c n xs)) ∧ Below w.heap.size w w' := by
  obtain ⟨⟨p1, p2⟩, ⟨q1, q2⟩, _, _⟩ := vrB_true.1 hv
  have HB0 := (Below.refl w.heap.size w).alloc (Nat.le_refl _) (.cells #[.int .i64 p, .int .i64 c, .int .i64 h, .int .i64 s] 30)
  have k1 := h1.below ((Below.refl B w).alloc hB (.cells #[.int .i64 p, .int .i64 c, .int .i64 h, .int .i64 s] 30))
  clear h1 hv
  cases hA : (n : Int) == p + 1
  · have H := Lib.hid (sideB_len (c := c) (xs := xs) hA)
    have hA' : ((n : Int) != p + 1) = true := by rw [bne, hA]; rfl
    clear hA
    go_enter Try.func41, Try.ntmps41
    go_wp2
    go_ret
    exact ⟨ret_bool H.out, HB0⟩
  · have H := Lib.hid (fun (h2 : allTo (fun x => wB x 0 c) xs n = true) => sideB_yes (c := c) (xs := xs) hA h2)
    have hA' : ((n : Int) != p + 1) = false := by rw [bne, hA]; rfl
    have n1 : 3 ≤ n := by have := beq_iff_eq.1 hA; omega
    have n2 : n ≤ 25 := by have := beq_iff_eq.1 hA; omega
    clear hA
    obtain ⟨b, off, rfl, hb, hc0⟩ := k1.2 (by omega)
    have hc := Lib.hid hc0
    clear hc0 k1
    go_enter Try.func41, Try.ntmps41
    go_wp2
    clear hA'
    go_loop [5, 18] (fun l i => ∃ (k : Nat) (S : Int), k ≤ n ∧ i = .int .i64 k ∧ l = .int .i64 (c - S) ∧ Hid (S = psum xs k) ∧ 0 ≤ S ∧ S ≤ c ∧ Hid (∀ i, i < k → 0 ≤ xs.getD i 0)) (fun _ i => n - (intOf i).toNat)
    case atStart => exact ⟨0, 0, Nat.zero_le _, rfl, by simp, rfl, by omega, by omega, fun i hi => absurd hi (by omega)⟩
    case round =>
      obtain ⟨k, S, hk, rfl, rfl, hS, s1, s2, hall⟩ := hrel
      by_cases hlt : k < n
      · have hcx := hc.out k hlt
        have hss := Lib.hid (psum_succ xs k)
        obtain ⟨x, hx⟩ : ∃ x, xs.getD k 0 = x := ⟨_, rfl⟩
        rw [hx] at hcx hss
        have HX := Lib.hid hx
        clear hx
        by_cases x1 : 0 ≤ x
        · by_cases x2 : x ≤ c - S
          · go_wp2
            go_round
            case rel =>
              refine ⟨k + 1, S + x, by omega, by go_num, by congr 1; omega, by show _ = _; rw [hss.out, hS.out], by omega, by omega, fun i hi => ?_⟩
              by_cases e : i = k
              · subst e; rw [HX.out]; exact x1
              · exact hall.out i (by omega)
            case measure => simp [intOf]; omega
          · have HN := Lib.hid (sideB_over (p := p) (c := c) (n := n) (xs := xs) (k := k + 1) hlt (by rw [hss.out, ← hS.out]; omega))
            go_wp2
            go_ret
            exact ⟨ret_bool HN.out, HB0⟩
        · have HN := Lib.hid (sideB_no (p := p) (c := c) (n := n) (xs := xs) hlt (by rw [HX.out]; exact wB_false.2 (by omega)))
          go_wp2
          go_ret
          exact ⟨ret_bool HN.out, HB0⟩
      · obtain rfl : k = n := by omega
        have HY := Lib.hid (H.out (allTo_nn hall.out (by rw [← hS.out]; exact s2)))
        go_wp2
        go_ret
        exact ⟨ret_bool (by rw [HY.out, ← hS.out]; simpa using s2), HB0⟩

theorem l02Sum_any (a : Option Addr) (n c B : Nat) (xs : List Int) (w : World) (M : Int) (h : Ints w B .i64 a n xs) (hM : ∀ i, i < n → 0 ≤ xs.getD i 0 ∧ xs.getD i 0 ≤ M) (hM1 : M ≤ 1000) (hn : 1 ≤ n) (hn2 : n ≤ 1048576) :
    Calls Try.prog 36 #[.slice a n c] w fun e w' => e = .returned (.int .i64 (psum xs n)) ∧ w = w' := by
  obtain ⟨b, off, rfl, hb, hc0⟩ := h.2 (by omega)
  have hc := Lib.hid hc0
  have HM := Lib.hid hM
  clear h hc0 hM
  go_enter Try.func36, Try.ntmps36
  go_wp2
  go_loop [3, 4] (fun t i => ∃ (k : Nat) (s : Int), k ≤ n ∧ i = .int .i64 k ∧ t = .int .i64 s ∧ Hid (s = psum xs k) ∧ 0 ≤ s ∧ s ≤ k * 1000) (fun _ i => n - (intOf i).toNat)
  case atStart => exact ⟨0, 0, Nat.zero_le _, rfl, rfl, rfl, by omega, by omega⟩
  case round =>
    obtain ⟨k, s, hk, rfl, rfl, hs, s1, s2⟩ := hrel
    by_cases hlt : k < n
    · have hcx := hc.out k hlt
      obtain ⟨x1, x2⟩ := HM.out k hlt
      have hss := Lib.hid (psum_succ xs k)
      obtain ⟨x, hx⟩ : ∃ x, xs.getD k 0 = x := ⟨_, rfl⟩
      rw [hx] at hcx x1 x2 hss
      clear hx
      go_wp2
      go_round
      case rel => exact ⟨k + 1, _, by omega, by go_num, rfl, by show _ = _; rw [hss.out, hs.out], by omega, by push_cast; omega⟩
      case measure => simp [intOf]; omega
    · obtain rfl : k = n := by omega
      go_wp2
      go_ret
      exact ⟨ret_int (by rw [hs.out]), rfl⟩

set_option maxHeartbeats 800000 in
theorem l02Side_any (p c h s : Int) (a : Option Addr) (n ca B : Nat) (xs : List Int) (w : World) (h1 : Ints w B .i64 a n xs) (hB : B ≤ w.heap.size) (hv : vrB p c h s = true) (hn : n ≤ 1048576) :
    Calls Try.prog 35 #[vrV p c h s, .slice a n ca] w fun e w' => e = .returned (.bool (sideB p c n xs)) ∧ Below w.heap.size w w' := by
  obtain ⟨⟨p1, p2⟩, ⟨q1, q2⟩, _, _⟩ := vrB_true.1 hv
  have HB0 := (Below.refl w.heap.size w).alloc (Nat.le_refl _) (.cells #[.int .i64 p, .int .i64 c, .int .i64 h, .int .i64 s] 30)
  have R0 := Lib.hid (vr4_new w (.int .i64 p) (.int .i64 c) (.int .i64 h) (.int .i64 s) 30)
  have k1 := h1.below ((Below.refl B w).alloc hB (.cells #[.int .i64 p, .int .i64 c, .int .i64 h, .int .i64 s] 30))
  clear h1 hv
  cases hA : (n : Int) == p + 1
  · have H := Lib.hid (sideB_len (c := c) (xs := xs) hA)
    have hA' : ((n : Int) != p + 1) = true := by rw [bne, hA]; rfl
    clear hA
    go_enter Try.func35, Try.ntmps35
    go_wp2
    go_ret
    exact ⟨ret_bool H.out, HB0⟩
  · have H := Lib.hid (fun (h2 : allTo (fun x => wB x 0 c) xs n = true) => sideB_yes (c := c) (xs := xs) hA h2)
    have hA' : ((n : Int) != p + 1) = false := by rw [bne, hA]; rfl
    have n1 : 3 ≤ n := by have := beq_iff_eq.1 hA; omega
    have n2 : n ≤ 25 := by have := beq_iff_eq.1 hA; omega
    clear hA
    have K1 := Lib.hid k1
    obtain ⟨b, off, rfl, hb, hc0⟩ := k1.2 (by omega)
    have hc := Lib.hid hc0
    clear hc0 k1
    go_enter Try.func35, Try.ntmps35
    go_wp2
    clear hA'
    go_loopw [5] (fun i wr => ∃ (k t : Nat), k ≤ n ∧ i = .int .i64 k ∧ Hid (allTo (fun x => wB x 0 c) xs k = true) ∧ wr = (w.alloc (.cells #[.int .i64 p, .int .i64 c, .int .i64 h, .int .i64 s] 30)).drewN t) (fun i _ => n - (intOf i).toNat)
    case atStart => exact ⟨0, 0, Nat.zero_le _, rfl, rfl, rfl⟩
    case round =>
      obtain ⟨k, t, hk, rfl, hall, rfl⟩ := hrel
      by_cases hlt : k < n
      · have hcx := hc.out k hlt
        obtain ⟨x, hx⟩ : ∃ x, xs.getD k 0 = x := ⟨_, rfl⟩
        rw [hx] at hcx
        have HX := Lib.hid hx
        clear hx
        obtain ⟨c0, c1, c2, c3⟩ := vr4_cells (rowIs_drewN R0.out t)
        have hk0 : (0 : Int) ≤ (k : Int) := by omega
        have hk1 : (k : Int) < (n : Int) := by omega
        cases hw : wB x 0 c
        · have HN := Lib.hid (sideB_no (p := p) (c := c) (n := n) (xs := xs) hlt (by rw [HX.out]; exact hw))
          go_wp2
          go_quiet ((go_at_call 55; exact quiet_add_left (l01In_any _ _ _ _)))
          go_wp2
          go_ret
          exact ⟨ret_bool HN.out, below_drewN (below_drewN HB0 _) _⟩
        · have HY := Lib.hid (show allTo (fun x => wB x 0 c) xs (k + 1) = true by rw [allTo_succ, hall.out, HX.out, hw]; rfl)
          go_wp2
          go_quiet ((go_at_call 55; exact quiet_add_left (l01In_any _ _ _ _)))
          go_wp2
          go_roundw
          case rel => exact ⟨k + 1, _, by omega, by go_num, HY, rfl⟩
          case measure => simp [intOf]; omega
      · obtain rfl : k = n := by omega
        have HY := Lib.hid (H.out hall.out)
        have HM := Lib.hid (fun i (hi : i < k) => wB_true.1 (allTo_at hall.out i hi))
        have HSS := Lib.hid (fun j => l02Sum_any _ _ ca _ _ ((w.alloc (.cells #[.int .i64 p, .int .i64 c, .int .i64 h, .int .i64 s] 30)).drewN j) c (ints_drewN K1.out j) HM.out (by omega) (by omega) hn)
        obtain ⟨c0, c1, c2, c3⟩ := vr4_cells (rowIs_drewN R0.out t)
        go_wp2
        go_quiet ((go_at_call 36; exact quiet_add_left (HSS.out _)))
        go_wp2
        go_ret
        exact ⟨ret_bool HY.out, below_drewN (below_drewN HB0 _) _⟩

set_option maxRecDepth 100000 in
set_option maxHeartbeats 1600000 in
theorem impl_IsBoard_any (p c h s : Int) (a : Option Addr) (n ca : Nat) (xs : List Int) (b : Option Addr) (m cb : Nat) (ys : List Int) (B : Nat) (w : World) (h1 : Ints w B .i64 a n xs) (h2 : Ints w B .i64 b m ys) (hB : B ≤ w.heap.size) (hn : n ≤ 1048576) (hm : m ≤ 1048576) :
    Calls Try.prog 23 #[vrV p c h s, bdV a n ca b m cb] w fun e w' => e = .returned (.bool (boardB p c h s n xs m ys)) ∧ Below w.heap.size w w' := by
  have HB0 := ((Below.refl w.heap.size w).alloc (Nat.le_refl _) (.cells #[.int .i64 p, .int .i64 c, .int .i64 h, .int .i64 s] 30)).alloc (by simp) (.cells #[.slice a n ca, .slice b m cb] 32)
  have HBB := ((Below.refl B w).alloc hB (.cells #[.int .i64 p, .int .i64 c, .int .i64 h, .int .i64 s] 30)).alloc (by simp; omega) (.cells #[.slice a n ca, .slice b m cb] 32)
  have R0 := Lib.hid ((vr4_new w (.int .i64 p) (.int .i64 c) (.int .i64 h) (.int .i64 s) 30).alloc (.cells #[.slice a n ca, .slice b m cb] 32))
  have r1 := pr_new (w.alloc (.cells #[.int .i64 p, .int .i64 c, .int .i64 h, .int .i64 s] 30)) (.slice a n ca) (.slice b m cb) 32
  have k1 := h1.below HBB
  have k2 := h2.below HBB
  have hz : B ≤ ((w.alloc (.cells #[.int .i64 p, .int .i64 c, .int .i64 h, .int .i64 s] 30)).alloc (.cells #[.slice a n ca, .slice b m cb] 32)).heap.size := by simp; omega
  simp only [World.size_alloc] at r1
  have R1 := Lib.hid r1
  clear h1 h2 HBB r1
  cases hv : vrB p c h s
  · have H := Lib.hid (show boardB p c h s n xs m ys = false by rw [boardB, hv]; rfl)
    go_enter Try.func23, Try.ntmps23
    go_wp2_with fail
    refine (impl_IsVariant_any _ _ _ _ _).mono ?_
    rintro e v ⟨rfl, hb⟩
    rw [hv]
    replace R0 := Lib.hid (rowIs_below R0.out hb R0.out.lt)
    replace R1 := Lib.hid (rowIs_below R1.out hb R1.out.lt)
    replace k1 := k1.below (hb.mono hz)
    replace k2 := k2.below (hb.mono hz)
    replace hz := Nat.le_trans hz hb.size
    replace HB0 := HB0.trans (hb.mono HB0.size)
    clear hb
    obtain ⟨c0, c1, c2, c3⟩ := vr4_cells R0.out
    obtain ⟨d0, d1⟩ := pr_cells R1.out
    go_wp2_with fail
    go_ret
    exact ⟨ret_bool H.out, HB0⟩
  · cases ho : sideB p c n xs
    · have H := Lib.hid (show boardB p c h s n xs m ys = false by rw [boardB, hv, ho]; rfl)
      go_enter Try.func23, Try.ntmps23
      go_wp2_with fail
      refine (impl_IsVariant_any _ _ _ _ _).mono ?_
      rintro e v ⟨rfl, hb⟩
      rw [hv]
      replace R0 := Lib.hid (rowIs_below R0.out hb R0.out.lt)
      replace R1 := Lib.hid (rowIs_below R1.out hb R1.out.lt)
      replace k1 := k1.below (hb.mono hz)
      replace k2 := k2.below (hb.mono hz)
      replace hz := Nat.le_trans hz hb.size
      replace HB0 := HB0.trans (hb.mono HB0.size)
      clear hb
      obtain ⟨c0, c1, c2, c3⟩ := vr4_cells R0.out
      obtain ⟨d0, d1⟩ := pr_cells R1.out
      go_wp2_with fail
      refine (isSide_any _ _ _ _ _ _ _ _ _ _ k1 hz hv hn).mono ?_
      rintro e v ⟨rfl, hb⟩
      rw [ho]
      replace R0 := Lib.hid (rowIs_below R0.out hb R0.out.lt)
      replace R1 := Lib.hid (rowIs_below R1.out hb R1.out.lt)
      replace k1 := k1.below (hb.mono hz)
      replace k2 := k2.below (hb.mono hz)
      replace hz := Nat.le_trans hz hb.size
      replace HB0 := HB0.trans (hb.mono HB0.size)
      clear hb
      obtain ⟨c0, c1, c2, c3⟩ := vr4_cells R0.out
      obtain ⟨d0, d1⟩ := pr_cells R1.out
      go_wp2_with fail
      go_ret
      exact ⟨ret_bool H.out, HB0⟩
    · cases hu : sideB p c m ys
      · have H := Lib.hid (show boardB p c h s n xs m ys = false by rw [boardB, hv, ho, hu]; rfl)
        go_enter Try.func23, Try.ntmps23
        go_wp2_with fail
        refine (impl_IsVariant_any _ _ _ _ _).mono ?_
        rintro e v ⟨rfl, hb⟩
        rw [hv]
        replace R0 := Lib.hid (rowIs_below R0.out hb R0.out.lt)
        replace R1 := Lib.hid (rowIs_below R1.out hb R1.out.lt)
        replace k1 := k1.below (hb.mono hz)
        replace k2 := k2.below (hb.mono hz)
        replace hz := Nat.le_trans hz hb.size
        replace HB0 := HB0.trans (hb.mono HB0.size)
        clear hb
        obtain ⟨c0, c1, c2, c3⟩ := vr4_cells R0.out
        obtain ⟨d0, d1⟩ := pr_cells R1.out
        go_wp2_with fail
        refine (isSide_any _ _ _ _ _ _ _ _ _ _ k1 hz hv hn).mono ?_
        rintro e v ⟨rfl, hb⟩
        rw [ho]
        replace R0 := Lib.hid (rowIs_below R0.out hb R0.out.lt)
        replace R1 := Lib.hid (rowIs_below R1.out hb R1.out.lt)
        replace k1 := k1.below (hb.mono hz)
        replace k2 := k2.below (hb.mono hz)
        replace hz := Nat.le_trans hz hb.size
        replace HB0 := HB0.trans (hb.mono HB0.size)
        clear hb
        obtain ⟨c0, c1, c2, c3⟩ := vr4_cells R0.out
        obtain ⟨d0, d1⟩ := pr_cells R1.out
        go_wp2_with fail
        refine (isSide_any _ _ _ _ _ _ _ _ _ _ k2 hz hv hm).mono ?_
        rintro e v ⟨rfl, hb⟩
        rw [hu]
        replace R0 := Lib.hid (rowIs_below R0.out hb R0.out.lt)
        replace R1 := Lib.hid (rowIs_below R1.out hb R1.out.lt)
        replace k1 := k1.below (hb.mono hz)
        replace k2 := k2.below (hb.mono hz)
        replace hz := Nat.le_trans hz hb.size
        replace HB0 := HB0.trans (hb.mono HB0.size)
        clear hb
        obtain ⟨c0, c1, c2, c3⟩ := vr4_cells R0.out
        obtain ⟨d0, d1⟩ := pr_cells R1.out
        go_wp2_with fail
        go_ret
        exact ⟨ret_bool H.out, HB0⟩
      · obtain ⟨⟨p1, p2⟩, ⟨q1, q2⟩, _, _⟩ := vrB_true.1 hv
        obtain ⟨en, hx, sx, sx2⟩ := sideB_out ho
        obtain ⟨em, hy, sy, sy2⟩ := sideB_out hu
        obtain ⟨P, rfl⟩ := Int.eq_ofNat_of_zero_le (show 0 ≤ p by omega)
        have n3 : P < n := by omega
        have m3 : P < m := by omega
        have n25 : n ≤ 25 := by omega
        have m25 : m ≤ 25 := by omega
        clear en em
        have HXB := Lib.hid hx
        have HYB := Lib.hid hy
        clear hx hy
        have HTX := Lib.hid (fun W (hI : Ints W B .i64 a n xs) => total_any _ _ ca _ _ W c hI (fun i hi => ⟨by have := HXB.out i hi; omega, (HXB.out i hi).2⟩) (by have : (n : Int) * c ≤ 25 * 15 := Int.mul_le_mul (by omega) (by omega) (by omega) (by omega); omega) hn (by omega))
        have HTY := Lib.hid (fun W (hI : Ints W B .i64 b m ys) => total_any _ _ cb _ _ W c hI (fun i hi => ⟨by have := HYB.out i hi; omega, (HYB.out i hi).2⟩) (by have : (m : Int) * c ≤ 25 * 15 := Int.mul_le_mul (by omega) (by omega) (by omega) (by omega); omega) hm (by omega))
        obtain ⟨X, hX⟩ : ∃ X, psum xs n = X := ⟨_, rfl⟩
        obtain ⟨Y, hY⟩ : ∃ Y, psum ys m = Y := ⟨_, rfl⟩
        have HX := Lib.hid hX
        have HY := Lib.hid hY
        rw [hX] at sx sx2
        rw [hY] at sy sy2
        have HF := Lib.hid (fun (hs : (X == 0 && Y == 0) = false) => show boardB P c h s n xs m ys = apart P xs ys P by rw [boardB, hv, ho, hu, hX, hY, hs, Int.toNat_natCast]; rfl)
        have HG := Lib.hid (fun (hs : (X == 0 && Y == 0) = true) => show boardB P c h s n xs m ys = false by rw [boardB, hv, ho, hu, hX, hY, hs]; rfl)
        clear hX hY
        cases hx0 : X == 0
        · have H := Lib.hid (HF.out (by rw [hx0]; rfl))
          go_enter Try.func23, Try.ntmps23
          go_wp2_with fail
          refine (impl_IsVariant_any _ _ _ _ _).mono ?_
          rintro e v ⟨rfl, hb⟩
          rw [hv]
          replace R0 := Lib.hid (rowIs_below R0.out hb R0.out.lt)
          replace R1 := Lib.hid (rowIs_below R1.out hb R1.out.lt)
          replace k1 := k1.below (hb.mono hz)
          replace k2 := k2.below (hb.mono hz)
          replace hz := Nat.le_trans hz hb.size
          replace HB0 := HB0.trans (hb.mono HB0.size)
          clear hb
          obtain ⟨c0, c1, c2, c3⟩ := vr4_cells R0.out
          obtain ⟨d0, d1⟩ := pr_cells R1.out
          go_wp2_with fail
          refine (isSide_any _ _ _ _ _ _ _ _ _ _ k1 hz hv hn).mono ?_
          rintro e v ⟨rfl, hb⟩
          rw [ho]
          replace R0 := Lib.hid (rowIs_below R0.out hb R0.out.lt)
          replace R1 := Lib.hid (rowIs_below R1.out hb R1.out.lt)
          replace k1 := k1.below (hb.mono hz)
          replace k2 := k2.below (hb.mono hz)
          replace hz := Nat.le_trans hz hb.size
          replace HB0 := HB0.trans (hb.mono HB0.size)
          clear hb
          obtain ⟨c0, c1, c2, c3⟩ := vr4_cells R0.out
          obtain ⟨d0, d1⟩ := pr_cells R1.out
          go_wp2_with fail
          refine (isSide_any _ _ _ _ _ _ _ _ _ _ k2 hz hv hm).mono ?_
          rintro e v ⟨rfl, hb⟩
          rw [hu]
          replace R0 := Lib.hid (rowIs_below R0.out hb R0.out.lt)
          replace R1 := Lib.hid (rowIs_below R1.out hb R1.out.lt)
          replace k1 := k1.below (hb.mono hz)
          replace k2 := k2.below (hb.mono hz)
          replace hz := Nat.le_trans hz hb.size
          replace HB0 := HB0.trans (hb.mono HB0.size)
          clear hb
          obtain ⟨c0, c1, c2, c3⟩ := vr4_cells R0.out
          obtain ⟨d0, d1⟩ := pr_cells R1.out
          go_wp2_with fail
          refine (HTX.out _ k1).mono ?_
          rintro e v ⟨rfl, rfl⟩
          rw [HX.out]
          go_wp2_with fail
          obtain ⟨ab, ao, rfl, hab, hca0⟩ := k1.2 (by omega)
          obtain ⟨bb, bo, rfl, hbb, hcb0⟩ := k2.2 (by omega)
          have HCA := Lib.hid hca0
          have HCB := Lib.hid hcb0
          clear hca0 hcb0 k1 k2
          go_loop [37] (fun i => ∃ k : Nat, k ≤ P ∧ i = .int .i64 k ∧ Hid (apart P xs ys k = true)) (fun i => P - (intOf i).toNat)
          case atStart => exact ⟨0, Nat.zero_le _, rfl, rfl⟩
          case round =>
            obtain ⟨k, hk, rfl, hall⟩ := hrel
            by_cases hlt : k < P
            · have hcx := HCA.out k (by omega)
              obtain ⟨j, hj⟩ : ∃ j : Nat, P - 1 - k = j := ⟨_, rfl⟩
              have hcy := HCB.out j (by omega)
              have hij : (P : Int) - 1 - (k : Int) = (j : Int) := by omega
              have hsucc := Lib.hid (show apart P xs ys (k + 1) = (apart P xs ys k && !(decide (0 < xs.getD k 0) && decide (0 < ys.getD (P - 1 - k) 0))) from rfl)
              have hno := Lib.hid (fun (h1 : 0 < xs.getD k 0) (h2 : 0 < ys.getD (P - 1 - k) 0) => apart_no h1 h2 P hlt)
              rw [hj] at hsucc hno
              have hj2 : j < m := by omega
              clear hj
              obtain ⟨x, hx⟩ : ∃ x, xs.getD k 0 = x := ⟨_, rfl⟩
              obtain ⟨y, hy⟩ : ∃ y, ys.getD j 0 = y := ⟨_, rfl⟩
              rw [hx] at hcx hsucc hno
              rw [hy] at hcy hsucc hno
              clear hx hy
              by_cases x1 : 0 < x
              · by_cases y1 : 0 < y
                · have HN := Lib.hid (hno.out x1 y1)
                  go_wp2
                  go_ret
                  exact ⟨ret_bool (by rw [H.out, HN.out]), HB0⟩
                · have HN := Lib.hid (show apart P xs ys (k + 1) = true by rw [hsucc.out, hall.out]; simp [y1])
                  go_wp2
                  go_round
                  case rel => exact ⟨k + 1, by omega, by go_num, HN⟩
                  case measure => simp [intOf]; omega
              · have HN := Lib.hid (show apart P xs ys (k + 1) = true by rw [hsucc.out, hall.out]; simp [x1])
                go_wp2
                go_round
                case rel => exact ⟨k + 1, by omega, by go_num, HN⟩
                case measure => simp [intOf]; omega
            · obtain rfl : k = P := by omega
              go_wp2
              go_ret
              exact ⟨ret_bool (by rw [H.out, hall.out]), HB0⟩
        · cases hy0 : Y == 0
          · have H := Lib.hid (HF.out (by rw [hx0, hy0]; rfl))
            go_enter Try.func23, Try.ntmps23
            go_wp2_with fail
            refine (impl_IsVariant_any _ _ _ _ _).mono ?_
            rintro e v ⟨rfl, hb⟩
            rw [hv]
            replace R0 := Lib.hid (rowIs_below R0.out hb R0.out.lt)
            replace R1 := Lib.hid (rowIs_below R1.out hb R1.out.lt)
            replace k1 := k1.below (hb.mono hz)
            replace k2 := k2.below (hb.mono hz)
            replace hz := Nat.le_trans hz hb.size
            replace HB0 := HB0.trans (hb.mono HB0.size)
            clear hb
            obtain ⟨c0, c1, c2, c3⟩ := vr4_cells R0.out
            obtain ⟨d0, d1⟩ := pr_cells R1.out
            go_wp2_with fail
            refine (isSide_any _ _ _ _ _ _ _ _ _ _ k1 hz hv hn).mono ?_
            rintro e v ⟨rfl, hb⟩
            rw [ho]
            replace R0 := Lib.hid (rowIs_below R0.out hb R0.out.lt)
            replace R1 := Lib.hid (rowIs_below R1.out hb R1.out.lt)
            replace k1 := k1.below (hb.mono hz)
            replace k2 := k2.below (hb.mono hz)
            replace hz := Nat.le_trans hz hb.size
            replace HB0 := HB0.trans (hb.mono HB0.size)
            clear hb
            obtain ⟨c0, c1, c2, c3⟩ := vr4_cells R0.out
            obtain ⟨d0, d1⟩ := pr_cells R1.out
            go_wp2_with fail
            refine (isSide_any _ _ _ _ _ _ _ _ _ _ k2 hz hv hm).mono ?_
            rintro e v ⟨rfl, hb⟩
            rw [hu]
            replace R0 := Lib.hid (rowIs_below R0.out hb R0.out.lt)
            replace R1 := Lib.hid (rowIs_below R1.out hb R1.out.lt)
            replace k1 := k1.below (hb.mono hz)
            replace k2 := k2.below (hb.mono hz)
            replace hz := Nat.le_trans hz hb.size
            replace HB0 := HB0.trans (hb.mono HB0.size)
            clear hb
            obtain ⟨c0, c1, c2, c3⟩ := vr4_cells R0.out
            obtain ⟨d0, d1⟩ := pr_cells R1.out
            go_wp2_with fail
            refine (HTX.out _ k1).mono ?_
            rintro e v ⟨rfl, rfl⟩
            rw [HX.out]
            go_wp2_with fail
            refine (HTY.out _ k2).mono ?_
            rintro e v ⟨rfl, rfl⟩
            rw [HY.out]
            go_wp2_with fail
            obtain ⟨ab, ao, rfl, hab, hca0⟩ := k1.2 (by omega)
            obtain ⟨bb, bo, rfl, hbb, hcb0⟩ := k2.2 (by omega)
            have HCA := Lib.hid hca0
            have HCB := Lib.hid hcb0
            clear hca0 hcb0 k1 k2
            go_loop [37] (fun i => ∃ k : Nat, k ≤ P ∧ i = .int .i64 k ∧ Hid (apart P xs ys k = true)) (fun i => P - (intOf i).toNat)
            case atStart => exact ⟨0, Nat.zero_le _, rfl, rfl⟩
            case round =>
              obtain ⟨k, hk, rfl, hall⟩ := hrel
              by_cases hlt : k < P
              · have hcx := HCA.out k (by omega)
                obtain ⟨j, hj⟩ : ∃ j : Nat, P - 1 - k = j := ⟨_, rfl⟩
                have hcy := HCB.out j (by omega)
                have hij : (P : Int) - 1 - (k : Int) = (j : Int) := by omega
                have hsucc := Lib.hid (show apart P xs ys (k + 1) = (apart P xs ys k && !(decide (0 < xs.getD k 0) && decide (0 < ys.getD (P - 1 - k) 0))) from rfl)
                have hno := Lib.hid (fun (h1 : 0 < xs.getD k 0) (h2 : 0 < ys.getD (P - 1 - k) 0) => apart_no h1 h2 P hlt)
                rw [hj] at hsucc hno
                have hj2 : j < m := by omega
                clear hj
                obtain ⟨x, hx⟩ : ∃ x, xs.getD k 0 = x := ⟨_, rfl⟩
                obtain ⟨y, hy⟩ : ∃ y, ys.getD j 0 = y := ⟨_, rfl⟩
                rw [hx] at hcx hsucc hno
                rw [hy] at hcy hsucc hno
                clear hx hy
                by_cases x1 : 0 < x
                · by_cases y1 : 0 < y
                  · have HN := Lib.hid (hno.out x1 y1)
                    go_wp2
                    go_ret
                    exact ⟨ret_bool (by rw [H.out, HN.out]), HB0⟩
                  · have HN := Lib.hid (show apart P xs ys (k + 1) = true by rw [hsucc.out, hall.out]; simp [y1])
                    go_wp2
                    go_round
                    case rel => exact ⟨k + 1, by omega, by go_num, HN⟩
                    case measure => simp [intOf]; omega
                · have HN := Lib.hid (show apart P xs ys (k + 1) = true by rw [hsucc.out, hall.out]; simp [x1])
                  go_wp2
                  go_round
                  case rel => exact ⟨k + 1, by omega, by go_num, HN⟩
                  case measure => simp [intOf]; omega
              · obtain rfl : k = P := by omega
                go_wp2
                go_ret
                exact ⟨ret_bool (by rw [H.out, hall.out]), HB0⟩
          · have H := Lib.hid (HG.out (by rw [hx0, hy0]; rfl))
            go_enter Try.func23, Try.ntmps23
            go_wp2_with fail
            refine (impl_IsVariant_any _ _ _ _ _).mono ?_
            rintro e v ⟨rfl, hb⟩
            rw [hv]
            replace R0 := Lib.hid (rowIs_below R0.out hb R0.out.lt)
            replace R1 := Lib.hid (rowIs_below R1.out hb R1.out.lt)
            replace k1 := k1.below (hb.mono hz)
            replace k2 := k2.below (hb.mono hz)
            replace hz := Nat.le_trans hz hb.size
            replace HB0 := HB0.trans (hb.mono HB0.size)
            clear hb
            obtain ⟨c0, c1, c2, c3⟩ := vr4_cells R0.out
            obtain ⟨d0, d1⟩ := pr_cells R1.out
            go_wp2_with fail
            refine (isSide_any _ _ _ _ _ _ _ _ _ _ k1 hz hv hn).mono ?_
            rintro e v ⟨rfl, hb⟩
            rw [ho]
            replace R0 := Lib.hid (rowIs_below R0.out hb R0.out.lt)
            replace R1 := Lib.hid (rowIs_below R1.out hb R1.out.lt)
            replace k1 := k1.below (hb.mono hz)
            replace k2 := k2.below (hb.mono hz)
            replace hz := Nat.le_trans hz hb.size
            replace HB0 := HB0.trans (hb.mono HB0.size)
            clear hb
            obtain ⟨c0, c1, c2, c3⟩ := vr4_cells R0.out
            obtain ⟨d0, d1⟩ := pr_cells R1.out
            go_wp2_with fail
            refine (isSide_any _ _ _ _ _ _ _ _ _ _ k2 hz hv hm).mono ?_
            rintro e v ⟨rfl, hb⟩
            rw [hu]
            replace R0 := Lib.hid (rowIs_below R0.out hb R0.out.lt)
            replace R1 := Lib.hid (rowIs_below R1.out hb R1.out.lt)
            replace k1 := k1.below (hb.mono hz)
            replace k2 := k2.below (hb.mono hz)
            replace hz := Nat.le_trans hz hb.size
            replace HB0 := HB0.trans (hb.mono HB0.size)
            clear hb
            obtain ⟨c0, c1, c2, c3⟩ := vr4_cells R0.out
            obtain ⟨d0, d1⟩ := pr_cells R1.out
            go_wp2_with fail
            refine (HTX.out _ k1).mono ?_
            rintro e v ⟨rfl, rfl⟩
            rw [HX.out]
            go_wp2_with fail
            refine (HTY.out _ k2).mono ?_
            rintro e v ⟨rfl, rfl⟩
            rw [HY.out]
            go_wp2_with fail
            go_ret
            exact ⟨ret_bool H.out, HB0⟩

set_option maxRecDepth 100000 in
set_option maxHeartbeats 1600000 in
theorem spec_IsBoard_any (p c h s : Int) (a : Option Addr) (n ca : Nat) (xs : List Int) (b : Option Addr) (m cb : Nat) (ys : List Int) (B : Nat) (w : World) (h1 : Ints w B .i64 a n xs) (h2 : Ints w B .i64 b m ys) (hB : B ≤ w.heap.size) (hn : n ≤ 1048576) (hm : m ≤ 1048576) :
    Calls Try.prog 17 #[vrV p c h s, bdV a n ca b m cb] w fun e w' => e = .returned (.bool (boardB p c h s n xs m ys)) ∧ Below w.heap.size w w' := by
  have HB0 := ((Below.refl w.heap.size w).alloc (Nat.le_refl _) (.cells #[.int .i64 p, .int .i64 c, .int .i64 h, .int .i64 s] 30)).alloc (by simp) (.cells #[.slice a n ca, .slice b m cb] 32)
  have HBB := ((Below.refl B w).alloc hB (.cells #[.int .i64 p, .int .i64 c, .int .i64 h, .int .i64 s] 30)).alloc (by simp; omega) (.cells #[.slice a n ca, .slice b m cb] 32)
  have R0 := Lib.hid ((vr4_new w (.int .i64 p) (.int .i64 c) (.int .i64 h) (.int .i64 s) 30).alloc (.cells #[.slice a n ca, .slice b m cb] 32))
  have r1 := pr_new (w.alloc (.cells #[.int .i64 p, .int .i64 c, .int .i64 h, .int .i64 s] 30)) (.slice a n ca) (.slice b m cb) 32
  have k1 := h1.below HBB
  have k2 := h2.below HBB
  have hz : B ≤ ((w.alloc (.cells #[.int .i64 p, .int .i64 c, .int .i64 h, .int .i64 s] 30)).alloc (.cells #[.slice a n ca, .slice b m cb] 32)).heap.size := by simp; omega
  simp only [World.size_alloc] at r1
  have R1 := Lib.hid r1
  clear h1 h2 HBB r1
  cases hv : vrB p c h s
  · have H := Lib.hid (show boardB p c h s n xs m ys = false by rw [boardB, hv]; rfl)
    go_enter Try.func17, Try.ntmps17
    go_wp2_with fail
    replace R0 := Lib.hid (rowIs_drewN R0.out 1)
    replace R1 := Lib.hid (rowIs_drewN R1.out 1)
    replace k1 := ints_drew k1
    replace k2 := ints_drew k2
    replace HB0 : Below w.heap.size w ((w.alloc (.cells #[.int .i64 p, .int .i64 c, .int .i64 h, .int .i64 s] 30)).alloc (.cells #[.slice a n ca, .slice b m cb] 32)).drew := below_drewN HB0 1
    replace hz : B ≤ ((w.alloc (.cells #[.int .i64 p, .int .i64 c, .int .i64 h, .int .i64 s] 30)).alloc (.cells #[.slice a n ca, .slice b m cb] 32)).drew.heap.size := hz
    obtain ⟨c0, c1, c2, c3⟩ := vr4_cells R0.out
    obtain ⟨d0, d1⟩ := pr_cells R1.out
    refine wp_region_held_drew (S := (fun w' => w'.cell? ⟨w.heap.size, 0, none⟩ = some (.int .i64 p) ∧ w'.cell? ⟨w.heap.size, 1, none⟩ = some (.int .i64 c) ∧ w'.cell? ⟨w.heap.size, 2, none⟩ = some (.int .i64 h) ∧ w'.cell? ⟨w.heap.size, 3, none⟩ = some (.int .i64 s) ∧ w'.cell? ⟨w.heap.size + 1, 0, none⟩ = some (.slice a n ca) ∧ w'.cell? ⟨w.heap.size + 1, 1, none⟩ = some (.slice b m cb))) (by kernel_rfl) ?_ (fun hHeld => ?_)
    · go_keep
    refine takeH (i := 0) (d := 6) (v := ?_) rfl rfl (by kernel_rfl) (by kernel_rfl) (by kernel_rfl) (fun _ _ _ h => h) (Or.inl ⟨by rfl, ?_⟩) (by assumption) ?_
    rotate_left
    · intro w hSw
      go_simp
      with_reducible rfl
    simp only [Act.put, List.setIfInBounds_toArray, List.set_cons_zero, List.set_cons_succ]
    refine wpAnyH_ready (rs := [1]) (by kernel_rfl) (by simp) ?_
    refine AllReadyH.cons rfl (fun K hK => ?_) AllReadyH.nil
    go_simp
    refine (spec_IsVariant_any _ _ _ _ _).mono ?_
    rw [hv]
    rintro e v ⟨rfl, hb⟩
    replace R0 := Lib.hid (rowIs_below R0.out hb R0.out.lt)
    replace R1 := Lib.hid (rowIs_below R1.out hb R1.out.lt)
    replace k1 := k1.below (hb.mono hz)
    replace k2 := k2.below (hb.mono hz)
    replace hz := Nat.le_trans hz hb.size
    replace HB0 := HB0.trans (hb.mono HB0.size)
    clear hb
    obtain ⟨c0, c1, c2, c3⟩ := vr4_cells R0.out
    obtain ⟨d0, d1⟩ := pr_cells R1.out
    go_wp2_with fail
    refine hK.out _ _ ?_ (fun hHeld => ?_)
    · go_keep
    clear hK K
    refine takeH (i := 2) (d := 8) (v := ?_) rfl rfl (by kernel_rfl) (by kernel_rfl) (by kernel_rfl) (fun _ _ _ h => h) (Or.inl ⟨by rfl, ?_⟩) (by assumption) ?_
    rotate_left
    · intro w hSw
      go_simp
      with_reducible rfl
    simp only [Act.put, List.setIfInBounds_toArray, List.set_cons_zero, List.set_cons_succ]
    refine takeH (i := 3) (d := 9) (v := ?_) rfl rfl (by kernel_rfl) (by kernel_rfl) (by kernel_rfl) (fun _ _ _ h => h) (Or.inl ⟨by rfl, ?_⟩) (by assumption) ?_
    rotate_left
    · intro w hSw
      go_simp
      with_reducible rfl
    simp only [Act.put, List.setIfInBounds_toArray, List.set_cons_zero, List.set_cons_succ]
    refine takeH (i := 4) (d := 10) (v := undef) rfl rfl (by kernel_rfl) (by kernel_rfl) (by kernel_rfl) (fun _ _ _ h => h) (Or.inr ⟨by rfl, rfl⟩) (by assumption) ?_
    simp only [Act.put, List.setIfInBounds_toArray, List.set_cons_zero, List.set_cons_succ]
    refine takeH (i := 5) (d := 11) (v := undef) rfl rfl (by kernel_rfl) (by kernel_rfl) (by kernel_rfl) (fun _ _ _ h => h) (Or.inr ⟨by rfl, rfl⟩) (by assumption) ?_
    simp only [Act.put, List.setIfInBounds_toArray, List.set_cons_zero, List.set_cons_succ]
    refine takeH (i := 6) (d := 12) (v := undef) rfl rfl (by kernel_rfl) (by kernel_rfl) (by kernel_rfl) (fun _ _ _ h => h) (Or.inr ⟨by rfl, rfl⟩) (by assumption) ?_
    simp only [Act.put, List.setIfInBounds_toArray, List.set_cons_zero, List.set_cons_succ]
    refine takeH (i := 7) (d := 13) (v := undef) rfl rfl (by kernel_rfl) (by kernel_rfl) (by kernel_rfl) (fun _ _ _ h => h) (Or.inr ⟨by rfl, rfl⟩) (by assumption) ?_
    simp only [Act.put, List.setIfInBounds_toArray, List.set_cons_zero, List.set_cons_succ]
    refine takeH (i := 8) (d := 14) (v := undef) rfl rfl (by kernel_rfl) (by kernel_rfl) (by kernel_rfl) (fun _ _ _ h => h) (Or.inr ⟨by rfl, rfl⟩) (by assumption) ?_
    simp only [Act.put, List.setIfInBounds_toArray, List.set_cons_zero, List.set_cons_succ]
    refine takeH (i := 9) (d := 15) (v := ?_) rfl rfl (by kernel_rfl) (by kernel_rfl) (by kernel_rfl) (fun _ _ _ h => h) (Or.inl ⟨by rfl, ?_⟩) (by assumption) ?_
    rotate_left
    · intro w hSw
      go_simp
      with_reducible rfl
    simp only [Act.put, List.setIfInBounds_toArray, List.set_cons_zero, List.set_cons_succ]
    refine takeH (i := 10) (d := 16) (v := ?_) rfl rfl (by kernel_rfl) (by kernel_rfl) (by kernel_rfl) (fun _ _ _ h => h) (Or.inl ⟨by rfl, ?_⟩) (by assumption) ?_
    rotate_left
    · intro w hSw
      go_simp
      with_reducible rfl
    simp only [Act.put, List.setIfInBounds_toArray, List.set_cons_zero, List.set_cons_succ]
    refine takeH (i := 11) (d := 17) (v := undef) rfl rfl (by kernel_rfl) (by kernel_rfl) (by kernel_rfl) (fun _ _ _ h => h) (Or.inr ⟨by rfl, rfl⟩) (by assumption) ?_
    simp only [Act.put, List.setIfInBounds_toArray, List.set_cons_zero, List.set_cons_succ]
    refine takeH (i := 12) (d := 18) (v := undef) rfl rfl (by kernel_rfl) (by kernel_rfl) (by kernel_rfl) (fun _ _ _ h => h) (Or.inr ⟨by rfl, rfl⟩) (by assumption) ?_
    simp only [Act.put, List.setIfInBounds_toArray, List.set_cons_zero, List.set_cons_succ]
    refine takeH (i := 13) (d := 19) (v := undef) rfl rfl (by kernel_rfl) (by kernel_rfl) (by kernel_rfl) (fun _ _ _ h => h) (Or.inr ⟨by rfl, rfl⟩) (by assumption) ?_
    simp only [Act.put, List.setIfInBounds_toArray, List.set_cons_zero, List.set_cons_succ]
    refine takeH (i := 14) (d := 20) (v := undef) rfl rfl (by kernel_rfl) (by kernel_rfl) (by kernel_rfl) (fun _ _ _ h => h) (Or.inr ⟨by rfl, rfl⟩) (by assumption) ?_
    simp only [Act.put, List.setIfInBounds_toArray, List.set_cons_zero, List.set_cons_succ]
    refine takeH (i := 15) (d := 21) (v := undef) rfl rfl (by kernel_rfl) (by kernel_rfl) (by kernel_rfl) (fun _ _ _ h => h) (Or.inr ⟨by rfl, rfl⟩) (by assumption) ?_
    simp only [Act.put, List.setIfInBounds_toArray, List.set_cons_zero, List.set_cons_succ]
    refine takeH (i := 16) (d := 22) (v := ?_) rfl rfl (by kernel_rfl) (by kernel_rfl) (by kernel_rfl) (fun _ _ _ h => h) (Or.inl ⟨by rfl, ?_⟩) (by assumption) ?_
    rotate_left
    · intro w hSw
      go_simp
      with_reducible rfl
    simp only [Act.put, List.setIfInBounds_toArray, List.set_cons_zero, List.set_cons_succ]
    refine takeH (i := 17) (d := 23) (v := ?_) rfl rfl (by kernel_rfl) (by kernel_rfl) (by kernel_rfl) (fun _ _ _ h => h) (Or.inl ⟨by rfl, ?_⟩) (by assumption) ?_
    rotate_left
    · intro w hSw
      go_simp
      with_reducible rfl
    simp only [Act.put, List.setIfInBounds_toArray, List.set_cons_zero, List.set_cons_succ]
    refine takeH (i := 18) (d := 24) (v := undef) rfl rfl (by kernel_rfl) (by kernel_rfl) (by kernel_rfl) (fun _ _ _ h => h) (Or.inr ⟨by rfl, rfl⟩) (by assumption) ?_
    simp only [Act.put, List.setIfInBounds_toArray, List.set_cons_zero, List.set_cons_succ]
    refine takeH (i := 19) (d := 25) (v := undef) rfl rfl (by kernel_rfl) (by kernel_rfl) (by kernel_rfl) (fun _ _ _ h => h) (Or.inr ⟨by rfl, rfl⟩) (by assumption) ?_
    simp only [Act.put, List.setIfInBounds_toArray, List.set_cons_zero, List.set_cons_succ]
    refine takeH (i := 20) (d := 26) (v := undef) rfl rfl (by kernel_rfl) (by kernel_rfl) (by kernel_rfl) (fun _ _ _ h => h) (Or.inr ⟨by rfl, rfl⟩) (by assumption) ?_
    simp only [Act.put, List.setIfInBounds_toArray, List.set_cons_zero, List.set_cons_succ]
    refine takeH (i := 21) (d := 27) (v := undef) rfl rfl (by kernel_rfl) (by kernel_rfl) (by kernel_rfl) (fun _ _ _ h => h) (Or.inr ⟨by rfl, rfl⟩) (by assumption) ?_
    simp only [Act.put, List.setIfInBounds_toArray, List.set_cons_zero, List.set_cons_succ]
    refine takeH (i := 22) (d := 28) (v := undef) rfl rfl (by kernel_rfl) (by kernel_rfl) (by kernel_rfl) (fun _ _ _ h => h) (Or.inr ⟨by rfl, rfl⟩) (by assumption) ?_
    simp only [Act.put, List.setIfInBounds_toArray, List.set_cons_zero, List.set_cons_succ]
    refine takeH (i := 23) (d := 29) (v := undef) rfl rfl (by kernel_rfl) (by kernel_rfl) (by kernel_rfl) (fun _ _ _ h => h) (Or.inr ⟨by rfl, rfl⟩) (by assumption) ?_
    simp only [Act.put, List.setIfInBounds_toArray, List.set_cons_zero, List.set_cons_succ]
    refine takeH (i := 24) (d := 30) (v := undef) rfl rfl (by kernel_rfl) (by kernel_rfl) (by kernel_rfl) (fun _ _ _ h => h) (Or.inr ⟨by rfl, rfl⟩) (by assumption) ?_
    simp only [Act.put, List.setIfInBounds_toArray, List.set_cons_zero, List.set_cons_succ]
    refine takeH (i := 25) (d := 31) (v := undef) rfl rfl (by kernel_rfl) (by kernel_rfl) (by kernel_rfl) (fun _ _ _ h => h) (Or.inr ⟨by rfl, rfl⟩) (by assumption) ?_
    simp only [Act.put, List.setIfInBounds_toArray, List.set_cons_zero, List.set_cons_succ]
    refine takeH (i := 26) (d := 32) (v := ?_) rfl rfl (by kernel_rfl) (by kernel_rfl) (by kernel_rfl) (fun _ _ _ h => h) (Or.inl ⟨by rfl, ?_⟩) (by assumption) ?_
    rotate_left
    · intro w hSw
      go_simp
      with_reducible rfl
    simp only [Act.put, List.setIfInBounds_toArray, List.set_cons_zero, List.set_cons_succ]
    refine wpAnyH_done (by kernel_rfl) ?_ _
    go_wp2_with fail
    go_ret
    exact ⟨ret_bool H.out, HB0⟩
  · cases ho : sideB p c n xs
    · have H := Lib.hid (show boardB p c h s n xs m ys = false by rw [boardB, hv, ho]; rfl)
      go_enter Try.func17, Try.ntmps17
      go_wp2_with fail
      replace R0 := Lib.hid (rowIs_drewN R0.out 1)
      replace R1 := Lib.hid (rowIs_drewN R1.out 1)
      replace k1 := ints_drew k1
      replace k2 := ints_drew k2
      replace HB0 : Below w.heap.size w ((w.alloc (.cells #[.int .i64 p, .int .i64 c, .int .i64 h, .int .i64 s] 30)).alloc (.cells #[.slice a n ca, .slice b m cb] 32)).drew := below_drewN HB0 1
      replace hz : B ≤ ((w.alloc (.cells #[.int .i64 p, .int .i64 c, .int .i64 h, .int .i64 s] 30)).alloc (.cells #[.slice a n ca, .slice b m cb] 32)).drew.heap.size := hz
      obtain ⟨c0, c1, c2, c3⟩ := vr4_cells R0.out
      obtain ⟨d0, d1⟩ := pr_cells R1.out
      refine wp_region_held_drew (S := (fun w' => w'.cell? ⟨w.heap.size, 0, none⟩ = some (.int .i64 p) ∧ w'.cell? ⟨w.heap.size, 1, none⟩ = some (.int .i64 c) ∧ w'.cell? ⟨w.heap.size, 2, none⟩ = some (.int .i64 h) ∧ w'.cell? ⟨w.heap.size, 3, none⟩ = some (.int .i64 s) ∧ w'.cell? ⟨w.heap.size + 1, 0, none⟩ = some (.slice a n ca) ∧ w'.cell? ⟨w.heap.size + 1, 1, none⟩ = some (.slice b m cb))) (by kernel_rfl) ?_ (fun hHeld => ?_)
      · go_keep
      refine takeH (i := 0) (d := 6) (v := ?_) rfl rfl (by kernel_rfl) (by kernel_rfl) (by kernel_rfl) (fun _ _ _ h => h) (Or.inl ⟨by rfl, ?_⟩) (by assumption) ?_
      rotate_left
      · intro w hSw
        go_simp
        with_reducible rfl
      simp only [Act.put, List.setIfInBounds_toArray, List.set_cons_zero, List.set_cons_succ]
      refine wpAnyH_ready (rs := [1]) (by kernel_rfl) (by simp) ?_
      refine AllReadyH.cons rfl (fun K hK => ?_) AllReadyH.nil
      go_simp
      refine (spec_IsVariant_any _ _ _ _ _).mono ?_
      rw [hv]
      rintro e v ⟨rfl, hb⟩
      replace R0 := Lib.hid (rowIs_below R0.out hb R0.out.lt)
      replace R1 := Lib.hid (rowIs_below R1.out hb R1.out.lt)
      replace k1 := k1.below (hb.mono hz)
      replace k2 := k2.below (hb.mono hz)
      replace hz := Nat.le_trans hz hb.size
      replace HB0 := HB0.trans (hb.mono HB0.size)
      clear hb
      obtain ⟨c0, c1, c2, c3⟩ := vr4_cells R0.out
      obtain ⟨d0, d1⟩ := pr_cells R1.out
      go_wp2_with fail
      refine hK.out _ _ ?_ (fun hHeld => ?_)
      · go_keep
      clear hK K
      refine takeH (i := 2) (d := 8) (v := ?_) rfl rfl (by kernel_rfl) (by kernel_rfl) (by kernel_rfl) (fun _ _ _ h => h) (Or.inl ⟨by rfl, ?_⟩) (by assumption) ?_
      rotate_left
      · intro w hSw
        go_simp
        with_reducible rfl
      simp only [Act.put, List.setIfInBounds_toArray, List.set_cons_zero, List.set_cons_succ]
      refine takeH (i := 3) (d := 9) (v := ?_) rfl rfl (by kernel_rfl) (by kernel_rfl) (by kernel_rfl) (fun _ _ _ h => h) (Or.inl ⟨by rfl, ?_⟩) (by assumption) ?_
      rotate_left
      · intro w hSw
        go_simp
        with_reducible rfl
      simp only [Act.put, List.setIfInBounds_toArray, List.set_cons_zero, List.set_cons_succ]
      refine takeH (i := 4) (d := 10) (v := ?_) rfl rfl (by kernel_rfl) (by kernel_rfl) (by kernel_rfl) (fun _ _ _ h => h) (Or.inl ⟨by rfl, ?_⟩) (by assumption) ?_
      rotate_left
      · intro w hSw
        go_simp
        with_reducible rfl
      simp only [Act.put, List.setIfInBounds_toArray, List.set_cons_zero, List.set_cons_succ]
      refine takeH (i := 5) (d := 11) (v := ?_) rfl rfl (by kernel_rfl) (by kernel_rfl) (by kernel_rfl) (fun _ _ _ h => h) (Or.inl ⟨by rfl, ?_⟩) (by assumption) ?_
      rotate_left
      · intro w hSw
        go_simp
        with_reducible rfl
      simp only [Act.put, List.setIfInBounds_toArray, List.set_cons_zero, List.set_cons_succ]
      refine takeH (i := 6) (d := 12) (v := ?_) rfl rfl (by kernel_rfl) (by kernel_rfl) (by kernel_rfl) (fun _ _ _ h => h) (Or.inl ⟨by rfl, ?_⟩) (by assumption) ?_
      rotate_left
      · intro w hSw
        go_simp
        with_reducible rfl
      simp only [Act.put, List.setIfInBounds_toArray, List.set_cons_zero, List.set_cons_succ]
      refine wpAnyH_ready (rs := [7]) (by kernel_rfl) (by simp) ?_
      refine AllReadyH.cons rfl (fun K hK => ?_) AllReadyH.nil
      go_simp
      refine (l02Side_any _ _ _ _ _ _ _ _ _ _ k1 hz hv hn).mono ?_
      rw [ho]
      rintro e v ⟨rfl, hb⟩
      replace R0 := Lib.hid (rowIs_below R0.out hb R0.out.lt)
      replace R1 := Lib.hid (rowIs_below R1.out hb R1.out.lt)
      replace k1 := k1.below (hb.mono hz)
      replace k2 := k2.below (hb.mono hz)
      replace hz := Nat.le_trans hz hb.size
      replace HB0 := HB0.trans (hb.mono HB0.size)
      clear hb
      obtain ⟨c0, c1, c2, c3⟩ := vr4_cells R0.out
      obtain ⟨d0, d1⟩ := pr_cells R1.out
      go_wp2_with fail
      refine hK.out _ _ ?_ (fun hHeld => ?_)
      · go_keep
      clear hK K
      refine takeH (i := 8) (d := 14) (v := ?_) rfl rfl (by kernel_rfl) (by kernel_rfl) (by kernel_rfl) (fun _ _ _ h => h) (Or.inl ⟨by rfl, ?_⟩) (by assumption) ?_
      rotate_left
      · intro w hSw
        go_simp
        with_reducible rfl
      simp only [Act.put, List.setIfInBounds_toArray, List.set_cons_zero, List.set_cons_succ]
      refine takeH (i := 9) (d := 15) (v := ?_) rfl rfl (by kernel_rfl) (by kernel_rfl) (by kernel_rfl) (fun _ _ _ h => h) (Or.inl ⟨by rfl, ?_⟩) (by assumption) ?_
      rotate_left
      · intro w hSw
        go_simp
        with_reducible rfl
      simp only [Act.put, List.setIfInBounds_toArray, List.set_cons_zero, List.set_cons_succ]
      refine takeH (i := 10) (d := 16) (v := ?_) rfl rfl (by kernel_rfl) (by kernel_rfl) (by kernel_rfl) (fun _ _ _ h => h) (Or.inl ⟨by rfl, ?_⟩) (by assumption) ?_
      rotate_left
      · intro w hSw
        go_simp
        with_reducible rfl
      simp only [Act.put, List.setIfInBounds_toArray, List.set_cons_zero, List.set_cons_succ]
      refine takeH (i := 11) (d := 17) (v := undef) rfl rfl (by kernel_rfl) (by kernel_rfl) (by kernel_rfl) (fun _ _ _ h => h) (Or.inr ⟨by rfl, rfl⟩) (by assumption) ?_
      simp only [Act.put, List.setIfInBounds_toArray, List.set_cons_zero, List.set_cons_succ]
      refine takeH (i := 12) (d := 18) (v := undef) rfl rfl (by kernel_rfl) (by kernel_rfl) (by kernel_rfl) (fun _ _ _ h => h) (Or.inr ⟨by rfl, rfl⟩) (by assumption) ?_
      simp only [Act.put, List.setIfInBounds_toArray, List.set_cons_zero, List.set_cons_succ]
      refine takeH (i := 13) (d := 19) (v := undef) rfl rfl (by kernel_rfl) (by kernel_rfl) (by kernel_rfl) (fun _ _ _ h => h) (Or.inr ⟨by rfl, rfl⟩) (by assumption) ?_
      simp only [Act.put, List.setIfInBounds_toArray, List.set_cons_zero, List.set_cons_succ]
      refine takeH (i := 14) (d := 20) (v := undef) rfl rfl (by kernel_rfl) (by kernel_rfl) (by kernel_rfl) (fun _ _ _ h => h) (Or.inr ⟨by rfl, rfl⟩) (by assumption) ?_
      simp only [Act.put, List.setIfInBounds_toArray, List.set_cons_zero, List.set_cons_succ]
      refine takeH (i := 15) (d := 21) (v := undef) rfl rfl (by kernel_rfl) (by kernel_rfl) (by kernel_rfl) (fun _ _ _ h => h) (Or.inr ⟨by rfl, rfl⟩) (by assumption) ?_
      simp only [Act.put, List.setIfInBounds_toArray, List.set_cons_zero, List.set_cons_succ]
      refine takeH (i := 16) (d := 22) (v := ?_) rfl rfl (by kernel_rfl) (by kernel_rfl) (by kernel_rfl) (fun _ _ _ h => h) (Or.inl ⟨by rfl, ?_⟩) (by assumption) ?_
      rotate_left
      · intro w hSw
        go_simp
        with_reducible rfl
      simp only [Act.put, List.setIfInBounds_toArray, List.set_cons_zero, List.set_cons_succ]
      refine takeH (i := 17) (d := 23) (v := ?_) rfl rfl (by kernel_rfl) (by kernel_rfl) (by kernel_rfl) (fun _ _ _ h => h) (Or.inl ⟨by rfl, ?_⟩) (by assumption) ?_
      rotate_left
      · intro w hSw
        go_simp
        with_reducible rfl
      simp only [Act.put, List.setIfInBounds_toArray, List.set_cons_zero, List.set_cons_succ]
      refine takeH (i := 18) (d := 24) (v := undef) rfl rfl (by kernel_rfl) (by kernel_rfl) (by kernel_rfl) (fun _ _ _ h => h) (Or.inr ⟨by rfl, rfl⟩) (by assumption) ?_
      simp only [Act.put, List.setIfInBounds_toArray, List.set_cons_zero, List.set_cons_succ]
      refine takeH (i := 19) (d := 25) (v := undef) rfl rfl (by kernel_rfl) (by kernel_rfl) (by kernel_rfl) (fun _ _ _ h => h) (Or.inr ⟨by rfl, rfl⟩) (by assumption) ?_
      simp only [Act.put, List.setIfInBounds_toArray, List.set_cons_zero, List.set_cons_succ]
      refine takeH (i := 20) (d := 26) (v := undef) rfl rfl (by kernel_rfl) (by kernel_rfl) (by kernel_rfl) (fun _ _ _ h => h) (Or.inr ⟨by rfl, rfl⟩) (by assumption) ?_
      simp only [Act.put, List.setIfInBounds_toArray, List.set_cons_zero, List.set_cons_succ]
      refine takeH (i := 21) (d := 27) (v := undef) rfl rfl (by kernel_rfl) (by kernel_rfl) (by kernel_rfl) (fun _ _ _ h => h) (Or.inr ⟨by rfl, rfl⟩) (by assumption) ?_
      simp only [Act.put, List.setIfInBounds_toArray, List.set_cons_zero, List.set_cons_succ]
      refine takeH (i := 22) (d := 28) (v := undef) rfl rfl (by kernel_rfl) (by kernel_rfl) (by kernel_rfl) (fun _ _ _ h => h) (Or.inr ⟨by rfl, rfl⟩) (by assumption) ?_
      simp only [Act.put, List.setIfInBounds_toArray, List.set_cons_zero, List.set_cons_succ]
      refine takeH (i := 23) (d := 29) (v := undef) rfl rfl (by kernel_rfl) (by kernel_rfl) (by kernel_rfl) (fun _ _ _ h => h) (Or.inr ⟨by rfl, rfl⟩) (by assumption) ?_
      simp only [Act.put, List.setIfInBounds_toArray, List.set_cons_zero, List.set_cons_succ]
      refine takeH (i := 24) (d := 30) (v := undef) rfl rfl (by kernel_rfl) (by kernel_rfl) (by kernel_rfl) (fun _ _ _ h => h) (Or.inr ⟨by rfl, rfl⟩) (by assumption) ?_
      simp only [Act.put, List.setIfInBounds_toArray, List.set_cons_zero, List.set_cons_succ]
      refine takeH (i := 25) (d := 31) (v := undef) rfl rfl (by kernel_rfl) (by kernel_rfl) (by kernel_rfl) (fun _ _ _ h => h) (Or.inr ⟨by rfl, rfl⟩) (by assumption) ?_
      simp only [Act.put, List.setIfInBounds_toArray, List.set_cons_zero, List.set_cons_succ]
      refine takeH (i := 26) (d := 32) (v := ?_) rfl rfl (by kernel_rfl) (by kernel_rfl) (by kernel_rfl) (fun _ _ _ h => h) (Or.inl ⟨by rfl, ?_⟩) (by assumption) ?_
      rotate_left
      · intro w hSw
        go_simp
        with_reducible rfl
      simp only [Act.put, List.setIfInBounds_toArray, List.set_cons_zero, List.set_cons_succ]
      refine wpAnyH_done (by kernel_rfl) ?_ _
      go_wp2_with fail
      go_ret
      exact ⟨ret_bool H.out, HB0⟩
    · cases hu : sideB p c m ys
      · have H := Lib.hid (show boardB p c h s n xs m ys = false by rw [boardB, hv, ho, hu]; rfl)
        go_enter Try.func17, Try.ntmps17
        go_wp2_with fail
        replace R0 := Lib.hid (rowIs_drewN R0.out 1)
        replace R1 := Lib.hid (rowIs_drewN R1.out 1)
        replace k1 := ints_drew k1
        replace k2 := ints_drew k2
        replace HB0 : Below w.heap.size w ((w.alloc (.cells #[.int .i64 p, .int .i64 c, .int .i64 h, .int .i64 s] 30)).alloc (.cells #[.slice a n ca, .slice b m cb] 32)).drew := below_drewN HB0 1
        replace hz : B ≤ ((w.alloc (.cells #[.int .i64 p, .int .i64 c, .int .i64 h, .int .i64 s] 30)).alloc (.cells #[.slice a n ca, .slice b m cb] 32)).drew.heap.size := hz
        obtain ⟨c0, c1, c2, c3⟩ := vr4_cells R0.out
        obtain ⟨d0, d1⟩ := pr_cells R1.out
        refine wp_region_held_drew (S := (fun w' => w'.cell? ⟨w.heap.size, 0, none⟩ = some (.int .i64 p) ∧ w'.cell? ⟨w.heap.size, 1, none⟩ = some (.int .i64 c) ∧ w'.cell? ⟨w.heap.size, 2, none⟩ = some (.int .i64 h) ∧ w'.cell? ⟨w.heap.size, 3, none⟩ = some (.int .i64 s) ∧ w'.cell? ⟨w.heap.size + 1, 0, none⟩ = some (.slice a n ca) ∧ w'.cell? ⟨w.heap.size + 1, 1, none⟩ = some (.slice b m cb))) (by kernel_rfl) ?_ (fun hHeld => ?_)
        · go_keep
        refine takeH (i := 0) (d := 6) (v := ?_) rfl rfl (by kernel_rfl) (by kernel_rfl) (by kernel_rfl) (fun _ _ _ h => h) (Or.inl ⟨by rfl, ?_⟩) (by assumption) ?_
        rotate_left
        · intro w hSw
          go_simp
          with_reducible rfl
        simp only [Act.put, List.setIfInBounds_toArray, List.set_cons_zero, List.set_cons_succ]
        refine wpAnyH_ready (rs := [1]) (by kernel_rfl) (by simp) ?_
        refine AllReadyH.cons rfl (fun K hK => ?_) AllReadyH.nil
        go_simp
        refine (spec_IsVariant_any _ _ _ _ _).mono ?_
        rw [hv]
        rintro e v ⟨rfl, hb⟩
        replace R0 := Lib.hid (rowIs_below R0.out hb R0.out.lt)
        replace R1 := Lib.hid (rowIs_below R1.out hb R1.out.lt)
        replace k1 := k1.below (hb.mono hz)
        replace k2 := k2.below (hb.mono hz)
        replace hz := Nat.le_trans hz hb.size
        replace HB0 := HB0.trans (hb.mono HB0.size)
        clear hb
        obtain ⟨c0, c1, c2, c3⟩ := vr4_cells R0.out
        obtain ⟨d0, d1⟩ := pr_cells R1.out
        go_wp2_with fail
        refine hK.out _ _ ?_ (fun hHeld => ?_)
        · go_keep
        clear hK K
        refine takeH (i := 2) (d := 8) (v := ?_) rfl rfl (by kernel_rfl) (by kernel_rfl) (by kernel_rfl) (fun _ _ _ h => h) (Or.inl ⟨by rfl, ?_⟩) (by assumption) ?_
        rotate_left
        · intro w hSw
          go_simp
          with_reducible rfl
        simp only [Act.put, List.setIfInBounds_toArray, List.set_cons_zero, List.set_cons_succ]
        refine takeH (i := 3) (d := 9) (v := ?_) rfl rfl (by kernel_rfl) (by kernel_rfl) (by kernel_rfl) (fun _ _ _ h => h) (Or.inl ⟨by rfl, ?_⟩) (by assumption) ?_
        rotate_left
        · intro w hSw
          go_simp
          with_reducible rfl
        simp only [Act.put, List.setIfInBounds_toArray, List.set_cons_zero, List.set_cons_succ]
        refine takeH (i := 4) (d := 10) (v := ?_) rfl rfl (by kernel_rfl) (by kernel_rfl) (by kernel_rfl) (fun _ _ _ h => h) (Or.inl ⟨by rfl, ?_⟩) (by assumption) ?_
        rotate_left
        · intro w hSw
          go_simp
          with_reducible rfl
        simp only [Act.put, List.setIfInBounds_toArray, List.set_cons_zero, List.set_cons_succ]
        refine takeH (i := 5) (d := 11) (v := ?_) rfl rfl (by kernel_rfl) (by kernel_rfl) (by kernel_rfl) (fun _ _ _ h => h) (Or.inl ⟨by rfl, ?_⟩) (by assumption) ?_
        rotate_left
        · intro w hSw
          go_simp
          with_reducible rfl
        simp only [Act.put, List.setIfInBounds_toArray, List.set_cons_zero, List.set_cons_succ]
        refine takeH (i := 6) (d := 12) (v := ?_) rfl rfl (by kernel_rfl) (by kernel_rfl) (by kernel_rfl) (fun _ _ _ h => h) (Or.inl ⟨by rfl, ?_⟩) (by assumption) ?_
        rotate_left
        · intro w hSw
          go_simp
          with_reducible rfl
        simp only [Act.put, List.setIfInBounds_toArray, List.set_cons_zero, List.set_cons_succ]
        refine wpAnyH_ready (rs := [7]) (by kernel_rfl) (by simp) ?_
        refine AllReadyH.cons rfl (fun K hK => ?_) AllReadyH.nil
        go_simp
        refine (l02Side_any _ _ _ _ _ _ _ _ _ _ k1 hz hv hn).mono ?_
        rw [ho]
        rintro e v ⟨rfl, hb⟩
        replace R0 := Lib.hid (rowIs_below R0.out hb R0.out.lt)
        replace R1 := Lib.hid (rowIs_below R1.out hb R1.out.lt)
        replace k1 := k1.below (hb.mono hz)
        replace k2 := k2.below (hb.mono hz)
        replace hz := Nat.le_trans hz hb.size
        replace HB0 := HB0.trans (hb.mono HB0.size)
        clear hb
        obtain ⟨c0, c1, c2, c3⟩ := vr4_cells R0.out
        obtain ⟨d0, d1⟩ := pr_cells R1.out
        go_wp2_with fail
        refine hK.out _ _ ?_ (fun hHeld => ?_)
        · go_keep
        clear hK K
        refine takeH (i := 8) (d := 14) (v := ?_) rfl rfl (by kernel_rfl) (by kernel_rfl) (by kernel_rfl) (fun _ _ _ h => h) (Or.inl ⟨by rfl, ?_⟩) (by assumption) ?_
        rotate_left
        · intro w hSw
          go_simp
          with_reducible rfl
        simp only [Act.put, List.setIfInBounds_toArray, List.set_cons_zero, List.set_cons_succ]
        refine takeH (i := 9) (d := 15) (v := ?_) rfl rfl (by kernel_rfl) (by kernel_rfl) (by kernel_rfl) (fun _ _ _ h => h) (Or.inl ⟨by rfl, ?_⟩) (by assumption) ?_
        rotate_left
        · intro w hSw
          go_simp
          with_reducible rfl
        simp only [Act.put, List.setIfInBounds_toArray, List.set_cons_zero, List.set_cons_succ]
        refine takeH (i := 10) (d := 16) (v := ?_) rfl rfl (by kernel_rfl) (by kernel_rfl) (by kernel_rfl) (fun _ _ _ h => h) (Or.inl ⟨by rfl, ?_⟩) (by assumption) ?_
        rotate_left
        · intro w hSw
          go_simp
          with_reducible rfl
        simp only [Act.put, List.setIfInBounds_toArray, List.set_cons_zero, List.set_cons_succ]
        refine takeH (i := 11) (d := 17) (v := ?_) rfl rfl (by kernel_rfl) (by kernel_rfl) (by kernel_rfl) (fun _ _ _ h => h) (Or.inl ⟨by rfl, ?_⟩) (by assumption) ?_
        rotate_left
        · intro w hSw
          go_simp
          with_reducible rfl
        simp only [Act.put, List.setIfInBounds_toArray, List.set_cons_zero, List.set_cons_succ]
        refine takeH (i := 12) (d := 18) (v := ?_) rfl rfl (by kernel_rfl) (by kernel_rfl) (by kernel_rfl) (fun _ _ _ h => h) (Or.inl ⟨by rfl, ?_⟩) (by assumption) ?_
        rotate_left
        · intro w hSw
          go_simp
          with_reducible rfl
        simp only [Act.put, List.setIfInBounds_toArray, List.set_cons_zero, List.set_cons_succ]
        refine takeH (i := 13) (d := 19) (v := ?_) rfl rfl (by kernel_rfl) (by kernel_rfl) (by kernel_rfl) (fun _ _ _ h => h) (Or.inl ⟨by rfl, ?_⟩) (by assumption) ?_
        rotate_left
        · intro w hSw
          go_simp
          with_reducible rfl
        simp only [Act.put, List.setIfInBounds_toArray, List.set_cons_zero, List.set_cons_succ]
        refine wpAnyH_ready (rs := [14]) (by kernel_rfl) (by simp) ?_
        refine AllReadyH.cons rfl (fun K hK => ?_) AllReadyH.nil
        go_simp
        refine (l02Side_any _ _ _ _ _ _ _ _ _ _ k2 hz hv hm).mono ?_
        rw [hu]
        rintro e v ⟨rfl, hb⟩
        replace R0 := Lib.hid (rowIs_below R0.out hb R0.out.lt)
        replace R1 := Lib.hid (rowIs_below R1.out hb R1.out.lt)
        replace k1 := k1.below (hb.mono hz)
        replace k2 := k2.below (hb.mono hz)
        replace hz := Nat.le_trans hz hb.size
        replace HB0 := HB0.trans (hb.mono HB0.size)
        clear hb
        obtain ⟨c0, c1, c2, c3⟩ := vr4_cells R0.out
        obtain ⟨d0, d1⟩ := pr_cells R1.out
        go_wp2_with fail
        refine hK.out _ _ ?_ (fun hHeld => ?_)
        · go_keep
        clear hK K
        refine takeH (i := 15) (d := 21) (v := ?_) rfl rfl (by kernel_rfl) (by kernel_rfl) (by kernel_rfl) (fun _ _ _ h => h) (Or.inl ⟨by rfl, ?_⟩) (by assumption) ?_
        rotate_left
        · intro w hSw
          go_simp
          with_reducible rfl
        simp only [Act.put, List.setIfInBounds_toArray, List.set_cons_zero, List.set_cons_succ]
        refine takeH (i := 16) (d := 22) (v := ?_) rfl rfl (by kernel_rfl) (by kernel_rfl) (by kernel_rfl) (fun _ _ _ h => h) (Or.inl ⟨by rfl, ?_⟩) (by assumption) ?_
        rotate_left
        · intro w hSw
          go_simp
          with_reducible rfl
        simp only [Act.put, List.setIfInBounds_toArray, List.set_cons_zero, List.set_cons_succ]
        refine takeH (i := 17) (d := 23) (v := ?_) rfl rfl (by kernel_rfl) (by kernel_rfl) (by kernel_rfl) (fun _ _ _ h => h) (Or.inl ⟨by rfl, ?_⟩) (by assumption) ?_
        rotate_left
        · intro w hSw
          go_simp
          with_reducible rfl
        simp only [Act.put, List.setIfInBounds_toArray, List.set_cons_zero, List.set_cons_succ]
        refine takeH (i := 18) (d := 24) (v := undef) rfl rfl (by kernel_rfl) (by kernel_rfl) (by kernel_rfl) (fun _ _ _ h => h) (Or.inr ⟨by rfl, rfl⟩) (by assumption) ?_
        simp only [Act.put, List.setIfInBounds_toArray, List.set_cons_zero, List.set_cons_succ]
        refine takeH (i := 19) (d := 25) (v := undef) rfl rfl (by kernel_rfl) (by kernel_rfl) (by kernel_rfl) (fun _ _ _ h => h) (Or.inr ⟨by rfl, rfl⟩) (by assumption) ?_
        simp only [Act.put, List.setIfInBounds_toArray, List.set_cons_zero, List.set_cons_succ]
        refine takeH (i := 20) (d := 26) (v := undef) rfl rfl (by kernel_rfl) (by kernel_rfl) (by kernel_rfl) (fun _ _ _ h => h) (Or.inr ⟨by rfl, rfl⟩) (by assumption) ?_
        simp only [Act.put, List.setIfInBounds_toArray, List.set_cons_zero, List.set_cons_succ]
        refine takeH (i := 21) (d := 27) (v := undef) rfl rfl (by kernel_rfl) (by kernel_rfl) (by kernel_rfl) (fun _ _ _ h => h) (Or.inr ⟨by rfl, rfl⟩) (by assumption) ?_
        simp only [Act.put, List.setIfInBounds_toArray, List.set_cons_zero, List.set_cons_succ]
        refine takeH (i := 22) (d := 28) (v := undef) rfl rfl (by kernel_rfl) (by kernel_rfl) (by kernel_rfl) (fun _ _ _ h => h) (Or.inr ⟨by rfl, rfl⟩) (by assumption) ?_
        simp only [Act.put, List.setIfInBounds_toArray, List.set_cons_zero, List.set_cons_succ]
        refine takeH (i := 23) (d := 29) (v := undef) rfl rfl (by kernel_rfl) (by kernel_rfl) (by kernel_rfl) (fun _ _ _ h => h) (Or.inr ⟨by rfl, rfl⟩) (by assumption) ?_
        simp only [Act.put, List.setIfInBounds_toArray, List.set_cons_zero, List.set_cons_succ]
        refine takeH (i := 24) (d := 30) (v := undef) rfl rfl (by kernel_rfl) (by kernel_rfl) (by kernel_rfl) (fun _ _ _ h => h) (Or.inr ⟨by rfl, rfl⟩) (by assumption) ?_
        simp only [Act.put, List.setIfInBounds_toArray, List.set_cons_zero, List.set_cons_succ]
        refine takeH (i := 25) (d := 31) (v := undef) rfl rfl (by kernel_rfl) (by kernel_rfl) (by kernel_rfl) (fun _ _ _ h => h) (Or.inr ⟨by rfl, rfl⟩) (by assumption) ?_
        simp only [Act.put, List.setIfInBounds_toArray, List.set_cons_zero, List.set_cons_succ]
        refine takeH (i := 26) (d := 32) (v := ?_) rfl rfl (by kernel_rfl) (by kernel_rfl) (by kernel_rfl) (fun _ _ _ h => h) (Or.inl ⟨by rfl, ?_⟩) (by assumption) ?_
        rotate_left
        · intro w hSw
          go_simp
          with_reducible rfl
        simp only [Act.put, List.setIfInBounds_toArray, List.set_cons_zero, List.set_cons_succ]
        refine wpAnyH_done (by kernel_rfl) ?_ _
        go_wp2_with fail
        go_ret
        exact ⟨ret_bool H.out, HB0⟩
      · obtain ⟨⟨p1, p2⟩, ⟨q1, q2⟩, _, _⟩ := vrB_true.1 hv
        obtain ⟨en, hx, sx, sx2⟩ := sideB_out ho
        obtain ⟨em, hy, sy, sy2⟩ := sideB_out hu
        obtain ⟨P, rfl⟩ := Int.eq_ofNat_of_zero_le (show 0 ≤ p by omega)
        have n3 : P < n := by omega
        have m3 : P < m := by omega
        have n25 : n ≤ 25 := by omega
        have m25 : m ≤ 25 := by omega
        clear en em
        have HXB := Lib.hid hx
        have HYB := Lib.hid hy
        clear hx hy
        have HTX := Lib.hid (fun W (hI : Ints W B .i64 a n xs) => l02Sum_any _ _ ca _ _ W c hI (fun i hi => HXB.out i hi) (by omega) (by omega) hn)
        have HTY := Lib.hid (fun W (hI : Ints W B .i64 b m ys) => l02Sum_any _ _ cb _ _ W c hI (fun i hi => HYB.out i hi) (by omega) (by omega) hm)
        obtain ⟨X, hX⟩ : ∃ X, psum xs n = X := ⟨_, rfl⟩
        obtain ⟨Y, hY⟩ : ∃ Y, psum ys m = Y := ⟨_, rfl⟩
        have HX := Lib.hid hX
        have HY := Lib.hid hY
        rw [hX] at sx sx2
        rw [hY] at sy sy2
        have HF := Lib.hid (fun (hs : (X == 0 && Y == 0) = false) => show boardB P c h s n xs m ys = apart P xs ys P by rw [boardB, hv, ho, hu, hX, hY, hs, Int.toNat_natCast]; rfl)
        have HG := Lib.hid (fun (hs : (X == 0 && Y == 0) = true) => show boardB P c h s n xs m ys = false by rw [boardB, hv, ho, hu, hX, hY, hs]; rfl)
        clear hX hY
        cases hx0 : X + Y == 0
        · have H := Lib.hid (HF.out (by have := beq_eq_false_iff_ne.1 hx0; by_cases e : X = 0 <;> simp [e]; omega))
          go_enter Try.func17, Try.ntmps17
          go_wp2_with fail
          replace R0 := Lib.hid (rowIs_drewN R0.out 1)
          replace R1 := Lib.hid (rowIs_drewN R1.out 1)
          replace k1 := ints_drew k1
          replace k2 := ints_drew k2
          replace HB0 : Below w.heap.size w ((w.alloc (.cells #[.int .i64 P, .int .i64 c, .int .i64 h, .int .i64 s] 30)).alloc (.cells #[.slice a n ca, .slice b m cb] 32)).drew := below_drewN HB0 1
          replace hz : B ≤ ((w.alloc (.cells #[.int .i64 P, .int .i64 c, .int .i64 h, .int .i64 s] 30)).alloc (.cells #[.slice a n ca, .slice b m cb] 32)).drew.heap.size := hz
          obtain ⟨c0, c1, c2, c3⟩ := vr4_cells R0.out
          obtain ⟨d0, d1⟩ := pr_cells R1.out
          refine wp_region_held_drew (S := (fun w' => w'.cell? ⟨w.heap.size, 0, none⟩ = some (.int .i64 P) ∧ w'.cell? ⟨w.heap.size, 1, none⟩ = some (.int .i64 c) ∧ w'.cell? ⟨w.heap.size, 2, none⟩ = some (.int .i64 h) ∧ w'.cell? ⟨w.heap.size, 3, none⟩ = some (.int .i64 s) ∧ w'.cell? ⟨w.heap.size + 1, 0, none⟩ = some (.slice a n ca) ∧ w'.cell? ⟨w.heap.size + 1, 1, none⟩ = some (.slice b m cb))) (by kernel_rfl) ?_ (fun hHeld => ?_)
          · go_keep
          refine takeH (i := 0) (d := 6) (v := ?_) rfl rfl (by kernel_rfl) (by kernel_rfl) (by kernel_rfl) (fun _ _ _ h => h) (Or.inl ⟨by rfl, ?_⟩) (by assumption) ?_
          rotate_left
          · intro w hSw
            go_simp
            with_reducible rfl
          simp only [Act.put, List.setIfInBounds_toArray, List.set_cons_zero, List.set_cons_succ]
          refine wpAnyH_ready (rs := [1]) (by kernel_rfl) (by simp) ?_
          refine AllReadyH.cons rfl (fun K hK => ?_) AllReadyH.nil
          go_simp
          refine (spec_IsVariant_any _ _ _ _ _).mono ?_
          rw [hv]
          rintro e v ⟨rfl, hb⟩
          replace R0 := Lib.hid (rowIs_below R0.out hb R0.out.lt)
          replace R1 := Lib.hid (rowIs_below R1.out hb R1.out.lt)
          replace k1 := k1.below (hb.mono hz)
          replace k2 := k2.below (hb.mono hz)
          replace hz := Nat.le_trans hz hb.size
          replace HB0 := HB0.trans (hb.mono HB0.size)
          clear hb
          obtain ⟨c0, c1, c2, c3⟩ := vr4_cells R0.out
          obtain ⟨d0, d1⟩ := pr_cells R1.out
          go_wp2_with fail
          refine hK.out _ _ ?_ (fun hHeld => ?_)
          · go_keep
          clear hK K
          refine takeH (i := 2) (d := 8) (v := ?_) rfl rfl (by kernel_rfl) (by kernel_rfl) (by kernel_rfl) (fun _ _ _ h => h) (Or.inl ⟨by rfl, ?_⟩) (by assumption) ?_
          rotate_left
          · intro w hSw
            go_simp
            with_reducible rfl
          simp only [Act.put, List.setIfInBounds_toArray, List.set_cons_zero, List.set_cons_succ]
          refine takeH (i := 3) (d := 9) (v := ?_) rfl rfl (by kernel_rfl) (by kernel_rfl) (by kernel_rfl) (fun _ _ _ h => h) (Or.inl ⟨by rfl, ?_⟩) (by assumption) ?_
          rotate_left
          · intro w hSw
            go_simp
            with_reducible rfl
          simp only [Act.put, List.setIfInBounds_toArray, List.set_cons_zero, List.set_cons_succ]
          refine takeH (i := 4) (d := 10) (v := ?_) rfl rfl (by kernel_rfl) (by kernel_rfl) (by kernel_rfl) (fun _ _ _ h => h) (Or.inl ⟨by rfl, ?_⟩) (by assumption) ?_
          rotate_left
          · intro w hSw
            go_simp
            with_reducible rfl
          simp only [Act.put, List.setIfInBounds_toArray, List.set_cons_zero, List.set_cons_succ]
          refine takeH (i := 5) (d := 11) (v := ?_) rfl rfl (by kernel_rfl) (by kernel_rfl) (by kernel_rfl) (fun _ _ _ h => h) (Or.inl ⟨by rfl, ?_⟩) (by assumption) ?_
          rotate_left
          · intro w hSw
            go_simp
            with_reducible rfl
          simp only [Act.put, List.setIfInBounds_toArray, List.set_cons_zero, List.set_cons_succ]
          refine takeH (i := 6) (d := 12) (v := ?_) rfl rfl (by kernel_rfl) (by kernel_rfl) (by kernel_rfl) (fun _ _ _ h => h) (Or.inl ⟨by rfl, ?_⟩) (by assumption) ?_
          rotate_left
          · intro w hSw
            go_simp
            with_reducible rfl
          simp only [Act.put, List.setIfInBounds_toArray, List.set_cons_zero, List.set_cons_succ]
          refine wpAnyH_ready (rs := [7]) (by kernel_rfl) (by simp) ?_
          refine AllReadyH.cons rfl (fun K hK => ?_) AllReadyH.nil
          go_simp
          refine (l02Side_any _ _ _ _ _ _ _ _ _ _ k1 hz hv hn).mono ?_
          rw [ho]
          rintro e v ⟨rfl, hb⟩
          replace R0 := Lib.hid (rowIs_below R0.out hb R0.out.lt)
          replace R1 := Lib.hid (rowIs_below R1.out hb R1.out.lt)
          replace k1 := k1.below (hb.mono hz)
          replace k2 := k2.below (hb.mono hz)
          replace hz := Nat.le_trans hz hb.size
          replace HB0 := HB0.trans (hb.mono HB0.size)
          clear hb
          obtain ⟨c0, c1, c2, c3⟩ := vr4_cells R0.out
          obtain ⟨d0, d1⟩ := pr_cells R1.out
          go_wp2_with fail
          refine hK.out _ _ ?_ (fun hHeld => ?_)
          · go_keep
          clear hK K
          refine takeH (i := 8) (d := 14) (v := ?_) rfl rfl (by kernel_rfl) (by kernel_rfl) (by kernel_rfl) (fun _ _ _ h => h) (Or.inl ⟨by rfl, ?_⟩) (by assumption) ?_
          rotate_left
          · intro w hSw
            go_simp
            with_reducible rfl
          simp only [Act.put, List.setIfInBounds_toArray, List.set_cons_zero, List.set_cons_succ]
          refine takeH (i := 9) (d := 15) (v := ?_) rfl rfl (by kernel_rfl) (by kernel_rfl) (by kernel_rfl) (fun _ _ _ h => h) (Or.inl ⟨by rfl, ?_⟩) (by assumption) ?_
          rotate_left
          · intro w hSw
            go_simp
            with_reducible rfl
          simp only [Act.put, List.setIfInBounds_toArray, List.set_cons_zero, List.set_cons_succ]
          refine takeH (i := 10) (d := 16) (v := ?_) rfl rfl (by kernel_rfl) (by kernel_rfl) (by kernel_rfl) (fun _ _ _ h => h) (Or.inl ⟨by rfl, ?_⟩) (by assumption) ?_
          rotate_left
          · intro w hSw
            go_simp
            with_reducible rfl
          simp only [Act.put, List.setIfInBounds_toArray, List.set_cons_zero, List.set_cons_succ]
          refine takeH (i := 11) (d := 17) (v := ?_) rfl rfl (by kernel_rfl) (by kernel_rfl) (by kernel_rfl) (fun _ _ _ h => h) (Or.inl ⟨by rfl, ?_⟩) (by assumption) ?_
          rotate_left
          · intro w hSw
            go_simp
            with_reducible rfl
          simp only [Act.put, List.setIfInBounds_toArray, List.set_cons_zero, List.set_cons_succ]
          refine takeH (i := 12) (d := 18) (v := ?_) rfl rfl (by kernel_rfl) (by kernel_rfl) (by kernel_rfl) (fun _ _ _ h => h) (Or.inl ⟨by rfl, ?_⟩) (by assumption) ?_
          rotate_left
          · intro w hSw
            go_simp
            with_reducible rfl
          simp only [Act.put, List.setIfInBounds_toArray, List.set_cons_zero, List.set_cons_succ]
          refine takeH (i := 13) (d := 19) (v := ?_) rfl rfl (by kernel_rfl) (by kernel_rfl) (by kernel_rfl) (fun _ _ _ h => h) (Or.inl ⟨by rfl, ?_⟩) (by assumption) ?_
          rotate_left
          · intro w hSw
            go_simp
            with_reducible rfl
          simp only [Act.put, List.setIfInBounds_toArray, List.set_cons_zero, List.set_cons_succ]
          refine wpAnyH_ready (rs := [14]) (by kernel_rfl) (by simp) ?_
          refine AllReadyH.cons rfl (fun K hK => ?_) AllReadyH.nil
          go_simp
          refine (l02Side_any _ _ _ _ _ _ _ _ _ _ k2 hz hv hm).mono ?_
          rw [hu]
          rintro e v ⟨rfl, hb⟩
          replace R0 := Lib.hid (rowIs_below R0.out hb R0.out.lt)
          replace R1 := Lib.hid (rowIs_below R1.out hb R1.out.lt)
          replace k1 := k1.below (hb.mono hz)
          replace k2 := k2.below (hb.mono hz)
          replace hz := Nat.le_trans hz hb.size
          replace HB0 := HB0.trans (hb.mono HB0.size)
          clear hb
          obtain ⟨c0, c1, c2, c3⟩ := vr4_cells R0.out
          obtain ⟨d0, d1⟩ := pr_cells R1.out
          go_wp2_with fail
          refine hK.out _ _ ?_ (fun hHeld => ?_)
          · go_keep
          clear hK K
          refine takeH (i := 15) (d := 21) (v := ?_) rfl rfl (by kernel_rfl) (by kernel_rfl) (by kernel_rfl) (fun _ _ _ h => h) (Or.inl ⟨by rfl, ?_⟩) (by assumption) ?_
          rotate_left
          · intro w hSw
            go_simp
            with_reducible rfl
          simp only [Act.put, List.setIfInBounds_toArray, List.set_cons_zero, List.set_cons_succ]
          refine takeH (i := 16) (d := 22) (v := ?_) rfl rfl (by kernel_rfl) (by kernel_rfl) (by kernel_rfl) (fun _ _ _ h => h) (Or.inl ⟨by rfl, ?_⟩) (by assumption) ?_
          rotate_left
          · intro w hSw
            go_simp
            with_reducible rfl
          simp only [Act.put, List.setIfInBounds_toArray, List.set_cons_zero, List.set_cons_succ]
          refine takeH (i := 17) (d := 23) (v := ?_) rfl rfl (by kernel_rfl) (by kernel_rfl) (by kernel_rfl) (fun _ _ _ h => h) (Or.inl ⟨by rfl, ?_⟩) (by assumption) ?_
          rotate_left
          · intro w hSw
            go_simp
            with_reducible rfl
          simp only [Act.put, List.setIfInBounds_toArray, List.set_cons_zero, List.set_cons_succ]
          refine takeH (i := 18) (d := 24) (v := ?_) rfl rfl (by kernel_rfl) (by kernel_rfl) (by kernel_rfl) (fun _ _ _ h => h) (Or.inl ⟨by rfl, ?_⟩) (by assumption) ?_
          rotate_left
          · intro w hSw
            go_simp
            with_reducible rfl
          simp only [Act.put, List.setIfInBounds_toArray, List.set_cons_zero, List.set_cons_succ]
          refine takeH (i := 19) (d := 25) (v := ?_) rfl rfl (by kernel_rfl) (by kernel_rfl) (by kernel_rfl) (fun _ _ _ h => h) (Or.inl ⟨by rfl, ?_⟩) (by assumption) ?_
          rotate_left
          · intro w hSw
            go_simp
            with_reducible rfl
          simp only [Act.put, List.setIfInBounds_toArray, List.set_cons_zero, List.set_cons_succ]
          refine takeH (i := 21) (d := 27) (v := ?_) rfl rfl (by kernel_rfl) (by kernel_rfl) (by kernel_rfl) (fun _ _ _ h => h) (Or.inl ⟨by rfl, ?_⟩) (by assumption) ?_
          rotate_left
          · intro w hSw
            go_simp
            with_reducible rfl
          simp only [Act.put, List.setIfInBounds_toArray, List.set_cons_zero, List.set_cons_succ]
          refine takeH (i := 22) (d := 28) (v := ?_) rfl rfl (by kernel_rfl) (by kernel_rfl) (by kernel_rfl) (fun _ _ _ h => h) (Or.inl ⟨by rfl, ?_⟩) (by assumption) ?_
          rotate_left
          · intro w hSw
            go_simp
            with_reducible rfl
          simp only [Act.put, List.setIfInBounds_toArray, List.set_cons_zero, List.set_cons_succ]
          refine wpAnyH_ready (rs := [20]) (by kernel_rfl) (by simp) ?_
          refine AllReadyH.cons rfl (fun K hK => ?_) AllReadyH.nil
          go_simp
          refine (HTX.out _ k1).mono ?_
          rw [HX.out]
          rintro e v ⟨rfl, rfl⟩
          go_wp2_with fail
          refine hK.out _ _ ?_ (fun hHeld => ?_)
          · go_keep
          clear hK K
          refine wpAnyH_ready (rs := [23]) (by kernel_rfl) (by simp) ?_
          refine AllReadyH.cons rfl (fun K hK => ?_) AllReadyH.nil
          go_simp
          refine (HTY.out _ k2).mono ?_
          rw [HY.out]
          rintro e v ⟨rfl, rfl⟩
          go_wp2_with fail
          refine hK.out _ _ ?_ (fun hHeld => ?_)
          · go_keep
          clear hK K
          have hwr : IntKind.i64.wrap (X + Y) = X + Y := IntWalk.i64_in _ (by omega)
          refine takeH (i := 24) (d := 30) (v := ?_) rfl rfl (by kernel_rfl) (by kernel_rfl) (by kernel_rfl) (fun _ _ _ h => h) (Or.inl ⟨by rfl, ?_⟩) (by assumption) ?_
          rotate_left
          · intro w hSw
            go_simp
            with_reducible rfl
          simp only [Act.put, List.setIfInBounds_toArray, List.set_cons_zero, List.set_cons_succ]
          refine takeH (i := 25) (d := 31) (v := ?_) rfl rfl (by kernel_rfl) (by kernel_rfl) (by kernel_rfl) (fun _ _ _ h => h) (Or.inl ⟨by rfl, ?_⟩) (by assumption) ?_
          rotate_left
          · intro w hSw
            go_simp
            with_reducible rfl
          simp only [Act.put, List.setIfInBounds_toArray, List.set_cons_zero, List.set_cons_succ]
          refine takeH (i := 26) (d := 32) (v := ?_) rfl rfl (by kernel_rfl) (by kernel_rfl) (by kernel_rfl) (fun _ _ _ h => h) (Or.inl ⟨by rfl, ?_⟩) (by assumption) ?_
          rotate_left
          · intro w hSw
            go_simp
            with_reducible rfl
          simp only [Act.put, List.setIfInBounds_toArray, List.set_cons_zero, List.set_cons_succ]
          refine wpAnyH_done (by kernel_rfl) ?_ _
          go_wp2_with fail
          obtain ⟨ab, ao, rfl, hab, hca0⟩ := k1.2 (by omega)
          obtain ⟨bb, bo, rfl, hbb, hcb0⟩ := k2.2 (by omega)
          have HCA := Lib.hid hca0
          have HCB := Lib.hid hcb0
          clear hca0 hcb0 k1 k2
          go_loop [5] (fun i => ∃ k : Nat, k ≤ P ∧ i = .int .i64 k ∧ Hid (apart P xs ys k = true)) (fun i => P - (intOf i).toNat)
          case atStart => exact ⟨0, Nat.zero_le _, rfl, rfl⟩
          case round =>
            obtain ⟨k, hk, rfl, hall⟩ := hrel
            by_cases hlt : k < P
            · have hcx := HCA.out k (by omega)
              obtain ⟨j, hj⟩ : ∃ j : Nat, P - 1 - k = j := ⟨_, rfl⟩
              have hcy := HCB.out j (by omega)
              have hij : (P : Int) - 1 - (k : Int) = (j : Int) := by omega
              have hsucc := Lib.hid (show apart P xs ys (k + 1) = (apart P xs ys k && !(decide (0 < xs.getD k 0) && decide (0 < ys.getD (P - 1 - k) 0))) from rfl)
              have hno := Lib.hid (fun (h1 : 0 < xs.getD k 0) (h2 : 0 < ys.getD (P - 1 - k) 0) => apart_no h1 h2 P hlt)
              rw [hj] at hsucc hno
              have hj2 : j < m := by omega
              clear hj
              obtain ⟨x, hx⟩ : ∃ x, xs.getD k 0 = x := ⟨_, rfl⟩
              obtain ⟨y, hy⟩ : ∃ y, ys.getD j 0 = y := ⟨_, rfl⟩
              rw [hx] at hcx hsucc hno
              rw [hy] at hcy hsucc hno
              clear hx hy
              by_cases x1 : 0 < x
              · by_cases y1 : 0 < y
                · have HN := Lib.hid (hno.out x1 y1)
                  go_wp2
                  go_ret
                  exact ⟨ret_bool (by rw [H.out, HN.out]), HB0⟩
                · have HN := Lib.hid (show apart P xs ys (k + 1) = true by rw [hsucc.out, hall.out]; simp [y1])
                  go_wp2
                  go_round
                  case rel => exact ⟨k + 1, by omega, by go_num, HN⟩
                  case measure => simp [intOf]; omega
              · have HN := Lib.hid (show apart P xs ys (k + 1) = true by rw [hsucc.out, hall.out]; simp [x1])
                go_wp2
                go_round
                case rel => exact ⟨k + 1, by omega, by go_num, HN⟩
                case measure => simp [intOf]; omega
            · obtain rfl : k = P := by omega
              go_wp2
              go_ret
              exact ⟨ret_bool (by rw [H.out, hall.out]), HB0⟩
        · have H := Lib.hid (HG.out (by have := beq_iff_eq.1 hx0; (have e1 : X = 0 := by omega); (have e2 : Y = 0 := by omega); subst e1 e2; rfl))
          go_enter Try.func17, Try.ntmps17
          go_wp2_with fail
          replace R0 := Lib.hid (rowIs_drewN R0.out 1)
          replace R1 := Lib.hid (rowIs_drewN R1.out 1)
          replace k1 := ints_drew k1
          replace k2 := ints_drew k2
          replace HB0 : Below w.heap.size w ((w.alloc (.cells #[.int .i64 P, .int .i64 c, .int .i64 h, .int .i64 s] 30)).alloc (.cells #[.slice a n ca, .slice b m cb] 32)).drew := below_drewN HB0 1
          replace hz : B ≤ ((w.alloc (.cells #[.int .i64 P, .int .i64 c, .int .i64 h, .int .i64 s] 30)).alloc (.cells #[.slice a n ca, .slice b m cb] 32)).drew.heap.size := hz
          obtain ⟨c0, c1, c2, c3⟩ := vr4_cells R0.out
          obtain ⟨d0, d1⟩ := pr_cells R1.out
          refine wp_region_held_drew (S := (fun w' => w'.cell? ⟨w.heap.size, 0, none⟩ = some (.int .i64 P) ∧ w'.cell? ⟨w.heap.size, 1, none⟩ = some (.int .i64 c) ∧ w'.cell? ⟨w.heap.size, 2, none⟩ = some (.int .i64 h) ∧ w'.cell? ⟨w.heap.size, 3, none⟩ = some (.int .i64 s) ∧ w'.cell? ⟨w.heap.size + 1, 0, none⟩ = some (.slice a n ca) ∧ w'.cell? ⟨w.heap.size + 1, 1, none⟩ = some (.slice b m cb))) (by kernel_rfl) ?_ (fun hHeld => ?_)
          · go_keep
          refine takeH (i := 0) (d := 6) (v := ?_) rfl rfl (by kernel_rfl) (by kernel_rfl) (by kernel_rfl) (fun _ _ _ h => h) (Or.inl ⟨by rfl, ?_⟩) (by assumption) ?_
          rotate_left
          · intro w hSw
            go_simp
            with_reducible rfl
          simp only [Act.put, List.setIfInBounds_toArray, List.set_cons_zero, List.set_cons_succ]
          refine wpAnyH_ready (rs := [1]) (by kernel_rfl) (by simp) ?_
          refine AllReadyH.cons rfl (fun K hK => ?_) AllReadyH.nil
          go_simp
          refine (spec_IsVariant_any _ _ _ _ _).mono ?_
          rw [hv]
          rintro e v ⟨rfl, hb⟩
          replace R0 := Lib.hid (rowIs_below R0.out hb R0.out.lt)
          replace R1 := Lib.hid (rowIs_below R1.out hb R1.out.lt)
          replace k1 := k1.below (hb.mono hz)
          replace k2 := k2.below (hb.mono hz)
          replace hz := Nat.le_trans hz hb.size
          replace HB0 := HB0.trans (hb.mono HB0.size)
          clear hb
          obtain ⟨c0, c1, c2, c3⟩ := vr4_cells R0.out
          obtain ⟨d0, d1⟩ := pr_cells R1.out
          go_wp2_with fail
          refine hK.out _ _ ?_ (fun hHeld => ?_)
          · go_keep
          clear hK K
          refine takeH (i := 2) (d := 8) (v := ?_) rfl rfl (by kernel_rfl) (by kernel_rfl) (by kernel_rfl) (fun _ _ _ h => h) (Or.inl ⟨by rfl, ?_⟩) (by assumption) ?_
          rotate_left
          · intro w hSw
            go_simp
            with_reducible rfl
          simp only [Act.put, List.setIfInBounds_toArray, List.set_cons_zero, List.set_cons_succ]
          refine takeH (i := 3) (d := 9) (v := ?_) rfl rfl (by kernel_rfl) (by kernel_rfl) (by kernel_rfl) (fun _ _ _ h => h) (Or.inl ⟨by rfl, ?_⟩) (by assumption) ?_
          rotate_left
          · intro w hSw
            go_simp
            with_reducible rfl
          simp only [Act.put, List.setIfInBounds_toArray, List.set_cons_zero, List.set_cons_succ]
          refine takeH (i := 4) (d := 10) (v := ?_) rfl rfl (by kernel_rfl) (by kernel_rfl) (by kernel_rfl) (fun _ _ _ h => h) (Or.inl ⟨by rfl, ?_⟩) (by assumption) ?_
          rotate_left
          · intro w hSw
            go_simp
            with_reducible rfl
          simp only [Act.put, List.setIfInBounds_toArray, List.set_cons_zero, List.set_cons_succ]
          refine takeH (i := 5) (d := 11) (v := ?_) rfl rfl (by kernel_rfl) (by kernel_rfl) (by kernel_rfl) (fun _ _ _ h => h) (Or.inl ⟨by rfl, ?_⟩) (by assumption) ?_
          rotate_left
          · intro w hSw
            go_simp
            with_reducible rfl
          simp only [Act.put, List.setIfInBounds_toArray, List.set_cons_zero, List.set_cons_succ]
          refine takeH (i := 6) (d := 12) (v := ?_) rfl rfl (by kernel_rfl) (by kernel_rfl) (by kernel_rfl) (fun _ _ _ h => h) (Or.inl ⟨by rfl, ?_⟩) (by assumption) ?_
          rotate_left
          · intro w hSw
            go_simp
            with_reducible rfl
          simp only [Act.put, List.setIfInBounds_toArray, List.set_cons_zero, List.set_cons_succ]
          refine wpAnyH_ready (rs := [7]) (by kernel_rfl) (by simp) ?_
          refine AllReadyH.cons rfl (fun K hK => ?_) AllReadyH.nil
          go_simp
          refine (l02Side_any _ _ _ _ _ _ _ _ _ _ k1 hz hv hn).mono ?_
          rw [ho]
          rintro e v ⟨rfl, hb⟩
          replace R0 := Lib.hid (rowIs_below R0.out hb R0.out.lt)
          replace R1 := Lib.hid (rowIs_below R1.out hb R1.out.lt)
          replace k1 := k1.below (hb.mono hz)
          replace k2 := k2.below (hb.mono hz)
          replace hz := Nat.le_trans hz hb.size
          replace HB0 := HB0.trans (hb.mono HB0.size)
          clear hb
          obtain ⟨c0, c1, c2, c3⟩ := vr4_cells R0.out
          obtain ⟨d0, d1⟩ := pr_cells R1.out
          go_wp2_with fail
          refine hK.out _ _ ?_ (fun hHeld => ?_)
          · go_keep
          clear hK K
          refine takeH (i := 8) (d := 14) (v := ?_) rfl rfl (by kernel_rfl) (by kernel_rfl) (by kernel_rfl) (fun _ _ _ h => h) (Or.inl ⟨by rfl, ?_⟩) (by assumption) ?_
          rotate_left
          · intro w hSw
            go_simp
            with_reducible rfl
          simp only [Act.put, List.setIfInBounds_toArray, List.set_cons_zero, List.set_cons_succ]
          refine takeH (i := 9) (d := 15) (v := ?_) rfl rfl (by kernel_rfl) (by kernel_rfl) (by kernel_rfl) (fun _ _ _ h => h) (Or.inl ⟨by rfl, ?_⟩) (by assumption) ?_
          rotate_left
          · intro w hSw
            go_simp
            with_reducible rfl
          simp only [Act.put, List.setIfInBounds_toArray, List.set_cons_zero, List.set_cons_succ]
          refine takeH (i := 10) (d := 16) (v := ?_) rfl rfl (by kernel_rfl) (by kernel_rfl) (by kernel_rfl) (fun _ _ _ h => h) (Or.inl ⟨by rfl, ?_⟩) (by assumption) ?_
          rotate_left
          · intro w hSw
            go_simp
            with_reducible rfl
          simp only [Act.put, List.setIfInBounds_toArray, List.set_cons_zero, List.set_cons_succ]
          refine takeH (i := 11) (d := 17) (v := ?_) rfl rfl (by kernel_rfl) (by kernel_rfl) (by kernel_rfl) (fun _ _ _ h => h) (Or.inl ⟨by rfl, ?_⟩) (by assumption) ?_
          rotate_left
          · intro w hSw
            go_simp
            with_reducible rfl
          simp only [Act.put, List.setIfInBounds_toArray, List.set_cons_zero, List.set_cons_succ]
          refine takeH (i := 12) (d := 18) (v := ?_) rfl rfl (by kernel_rfl) (by kernel_rfl) (by kernel_rfl) (fun _ _ _ h => h) (Or.inl ⟨by rfl, ?_⟩) (by assumption) ?_
          rotate_left
          · intro w hSw
            go_simp
            with_reducible rfl
          simp only [Act.put, List.setIfInBounds_toArray, List.set_cons_zero, List.set_cons_succ]
          refine takeH (i := 13) (d := 19) (v := ?_) rfl rfl (by kernel_rfl) (by kernel_rfl) (by kernel_rfl) (fun _ _ _ h => h) (Or.inl ⟨by rfl, ?_⟩) (by assumption) ?_
          rotate_left
          · intro w hSw
            go_simp
            with_reducible rfl
          simp only [Act.put, List.setIfInBounds_toArray, List.set_cons_zero, List.set_cons_succ]
          refine wpAnyH_ready (rs := [14]) (by kernel_rfl) (by simp) ?_
          refine AllReadyH.cons rfl (fun K hK => ?_) AllReadyH.nil
          go_simp
          refine (l02Side_any _ _ _ _ _ _ _ _ _ _ k2 hz hv hm).mono ?_
          rw [hu]
          rintro e v ⟨rfl, hb⟩
          replace R0 := Lib.hid (rowIs_below R0.out hb R0.out.lt)
          replace R1 := Lib.hid (rowIs_below R1.out hb R1.out.lt)
          replace k1 := k1.below (hb.mono hz)
          replace k2 := k2.below (hb.mono hz)
          replace hz := Nat.le_trans hz hb.size
          replace HB0 := HB0.trans (hb.mono HB0.size)
          clear hb
          obtain ⟨c0, c1, c2, c3⟩ := vr4_cells R0.out
          obtain ⟨d0, d1⟩ := pr_cells R1.out
          go_wp2_with fail
          refine hK.out _ _ ?_ (fun hHeld => ?_)
          · go_keep
          clear hK K
          refine takeH (i := 15) (d := 21) (v := ?_) rfl rfl (by kernel_rfl) (by kernel_rfl) (by kernel_rfl) (fun _ _ _ h => h) (Or.inl ⟨by rfl, ?_⟩) (by assumption) ?_
          rotate_left
          · intro w hSw
            go_simp
            with_reducible rfl
          simp only [Act.put, List.setIfInBounds_toArray, List.set_cons_zero, List.set_cons_succ]
          refine takeH (i := 16) (d := 22) (v := ?_) rfl rfl (by kernel_rfl) (by kernel_rfl) (by kernel_rfl) (fun _ _ _ h => h) (Or.inl ⟨by rfl, ?_⟩) (by assumption) ?_
          rotate_left
          · intro w hSw
            go_simp
            with_reducible rfl
          simp only [Act.put, List.setIfInBounds_toArray, List.set_cons_zero, List.set_cons_succ]
          refine takeH (i := 17) (d := 23) (v := ?_) rfl rfl (by kernel_rfl) (by kernel_rfl) (by kernel_rfl) (fun _ _ _ h => h) (Or.inl ⟨by rfl, ?_⟩) (by assumption) ?_
          rotate_left
          · intro w hSw
            go_simp
            with_reducible rfl
          simp only [Act.put, List.setIfInBounds_toArray, List.set_cons_zero, List.set_cons_succ]
          refine takeH (i := 18) (d := 24) (v := ?_) rfl rfl (by kernel_rfl) (by kernel_rfl) (by kernel_rfl) (fun _ _ _ h => h) (Or.inl ⟨by rfl, ?_⟩) (by assumption) ?_
          rotate_left
          · intro w hSw
            go_simp
            with_reducible rfl
          simp only [Act.put, List.setIfInBounds_toArray, List.set_cons_zero, List.set_cons_succ]
          refine takeH (i := 19) (d := 25) (v := ?_) rfl rfl (by kernel_rfl) (by kernel_rfl) (by kernel_rfl) (fun _ _ _ h => h) (Or.inl ⟨by rfl, ?_⟩) (by assumption) ?_
          rotate_left
          · intro w hSw
            go_simp
            with_reducible rfl
          simp only [Act.put, List.setIfInBounds_toArray, List.set_cons_zero, List.set_cons_succ]
          refine takeH (i := 21) (d := 27) (v := ?_) rfl rfl (by kernel_rfl) (by kernel_rfl) (by kernel_rfl) (fun _ _ _ h => h) (Or.inl ⟨by rfl, ?_⟩) (by assumption) ?_
          rotate_left
          · intro w hSw
            go_simp
            with_reducible rfl
          simp only [Act.put, List.setIfInBounds_toArray, List.set_cons_zero, List.set_cons_succ]
          refine takeH (i := 22) (d := 28) (v := ?_) rfl rfl (by kernel_rfl) (by kernel_rfl) (by kernel_rfl) (fun _ _ _ h => h) (Or.inl ⟨by rfl, ?_⟩) (by assumption) ?_
          rotate_left
          · intro w hSw
            go_simp
            with_reducible rfl
          simp only [Act.put, List.setIfInBounds_toArray, List.set_cons_zero, List.set_cons_succ]
          refine wpAnyH_ready (rs := [20]) (by kernel_rfl) (by simp) ?_
          refine AllReadyH.cons rfl (fun K hK => ?_) AllReadyH.nil
          go_simp
          refine (HTX.out _ k1).mono ?_
          rw [HX.out]
          rintro e v ⟨rfl, rfl⟩
          go_wp2_with fail
          refine hK.out _ _ ?_ (fun hHeld => ?_)
          · go_keep
          clear hK K
          refine wpAnyH_ready (rs := [23]) (by kernel_rfl) (by simp) ?_
          refine AllReadyH.cons rfl (fun K hK => ?_) AllReadyH.nil
          go_simp
          refine (HTY.out _ k2).mono ?_
          rw [HY.out]
          rintro e v ⟨rfl, rfl⟩
          go_wp2_with fail
          refine hK.out _ _ ?_ (fun hHeld => ?_)
          · go_keep
          clear hK K
          have hwr : IntKind.i64.wrap (X + Y) = X + Y := IntWalk.i64_in _ (by omega)
          refine takeH (i := 24) (d := 30) (v := ?_) rfl rfl (by kernel_rfl) (by kernel_rfl) (by kernel_rfl) (fun _ _ _ h => h) (Or.inl ⟨by rfl, ?_⟩) (by assumption) ?_
          rotate_left
          · intro w hSw
            go_simp
            with_reducible rfl
          simp only [Act.put, List.setIfInBounds_toArray, List.set_cons_zero, List.set_cons_succ]
          refine takeH (i := 25) (d := 31) (v := ?_) rfl rfl (by kernel_rfl) (by kernel_rfl) (by kernel_rfl) (fun _ _ _ h => h) (Or.inl ⟨by rfl, ?_⟩) (by assumption) ?_
          rotate_left
          · intro w hSw
            go_simp
            with_reducible rfl
          simp only [Act.put, List.setIfInBounds_toArray, List.set_cons_zero, List.set_cons_succ]
          refine takeH (i := 26) (d := 32) (v := ?_) rfl rfl (by kernel_rfl) (by kernel_rfl) (by kernel_rfl) (fun _ _ _ h => h) (Or.inl ⟨by rfl, ?_⟩) (by assumption) ?_
          rotate_left
          · intro w hSw
            go_simp
            with_reducible rfl
          simp only [Act.put, List.setIfInBounds_toArray, List.set_cons_zero, List.set_cons_succ]
          refine wpAnyH_done (by kernel_rfl) ?_ _
          go_wp2_with fail
          go_ret
          exact ⟨ret_bool H.out, HB0⟩
end Go.Proofs.Ytjfmpnkbocilpaa
