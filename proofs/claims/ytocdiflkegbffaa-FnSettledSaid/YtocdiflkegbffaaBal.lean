/-
  The walks of BalancesOf (both packages).
-/
import Derived.Test.YtocdiflkegbffaaPt
import Derived.Test.YtocdiflkegbffaaGrow
import Derived.RegionTactic
import Derived.BigRegion
namespace Go.Proofs.Ytocdiflkegbffaa
open Go.ChangeShapes Go.WideShapes Go.ChangeAt Go.RowKit

theorem ret_slice {a : Option Addr} {n c : Nat} {x y : Int} (h : y = x) : Ending.returned (.tuple #[.slice a n c, .int .i64 x]) = Ending.returned (.tuple #[.slice a n c, .int .i64 y]) := by rw [h]
/-- the balance of player j after k games -/
def balK (xs : List Int) : Nat → Nat → Int
  | 0, _ => 0
  | k + 1, j => balK xs k j + (if xs.getD (k * 3) 0 = j then xs.getD (k * 3 + 2) 0 else 0) - (if xs.getD (k * 3 + 1) 0 = j then xs.getD (k * 3 + 2) 0 else 0)
theorem balK_succ (xs : List Int) (k j : Nat) : balK xs (k + 1) j = balK xs k j + (if xs.getD (k * 3) 0 = j then xs.getD (k * 3 + 2) 0 else 0) - (if xs.getD (k * 3 + 1) 0 = j then xs.getD (k * 3 + 2) 0 else 0) := rfl
theorem balK_bd {p : Int} {xs : List Int} (j : Nat) : ∀ k : Nat, (∀ i, i < k → okR p (xs.getD (i * 3) 0) (xs.getD (i * 3 + 1) 0) (xs.getD (i * 3 + 2) 0) = true) → -((k : Int) * 1000000) ≤ balK xs k j ∧ balK xs k j ≤ (k : Int) * 1000000
  | 0, _ => by simp [balK]
  | k + 1, h => by
    have h1 := balK_bd j k (fun i hi => h i (by omega))
    have h2 := okR_z (h k (by omega))
    rw [balK_succ]
    have e : ((k + 1 : Nat) : Int) * 1000000 = (k : Int) * 1000000 + 1000000 := by omega
    split <;> split <;> omega
theorem bal_step {xs : List Int} {k X Y j : Nat} {z bX bY : Int} {f : Nat → Value} (hs : ∀ j, balK xs (k + 1) j = balK xs k j + (if xs.getD (k * 3) 0 = j then xs.getD (k * 3 + 2) 0 else 0) - (if xs.getD (k * 3 + 1) 0 = j then xs.getD (k * 3 + 2) 0 else 0))
    (ex : xs.getD (k * 3) 0 = X) (ey : xs.getD (k * 3 + 1) 0 = Y) (ez : xs.getD (k * 3 + 2) 0 = z) (hX : balK xs k X = bX) (hY : balK xs k Y = bY) (hXY : X ≠ Y) (hf : f j = .int .i64 (balK xs k j)) :
    (fun i => if i = Y then (Value.int .i64 (bY - z)) else (fun i => if i = X then (Value.int .i64 (bX + z)) else f i) i) j = .int .i64 (balK xs (k + 1) j) := by
  rw [hs j, ex, ey, ez]
  by_cases e1 : j = Y
  · subst e1
    simp only [if_true]
    rw [if_neg (by omega), hY, Int.add_zero]
  · by_cases e2 : j = X
    · subst e2
      simp only [if_neg e1, if_true]
      rw [if_neg (by omega), hX, Int.sub_zero]
    · simp only [if_neg e1, if_neg e2]
      rw [if_neg (by omega), if_neg (by omega), hf, Int.add_zero, Int.sub_zero]
/-- the balances of a session; empty if it is none -/
def balL (p : Int) (n : Nat) (xs : List Int) : List Int := if sesB p n xs then (List.range p.toNat).map (balK xs n) else []
def sesC (p : Int) (n : Nat) (xs : List Int) : Int := if sesB p n xs then 0 else 1
theorem balL_s {p : Int} {n : Nat} {xs : List Int} (h : sesB p n xs = false) : balL p n xs = [] := by rw [balL, h]; rfl
theorem balL_y {p : Int} {n : Nat} {xs : List Int} (h : sesB p n xs = true) : balL p n xs = (List.range p.toNat).map (balK xs n) := by rw [balL, h]; rfl
theorem sesC_s {p : Int} {n : Nat} {xs : List Int} (h : sesB p n xs = false) : sesC p n xs = 1 := by rw [sesC, h]; rfl
theorem sesC_y {p : Int} {n : Nat} {xs : List Int} (h : sesB p n xs = true) : sesC p n xs = 0 := by rw [sesC, h]; rfl
theorem bal_cell {q : Nat} (xs : List Int) (k : Nat) {i : Nat} (hi : i < q) : icell .i64 ((List.range (q : Int).toNat).map (balK xs k)) i = .int .i64 (balK xs k i) := by
  rw [icell, List.getD_eq_getElem?_getD, List.getElem?_map, List.getElem?_range (by simpa using hi)]
  rfl
theorem balL_len {p : Int} {n : Nat} {xs : List Int} : (balL p n xs).length ≤ 8 := by
  unfold balL
  split
  · rename_i h
    have := (sesB_out h).1
    simp
    omega
  · simp
theorem grows_row {w : World} {base g n : Nat} {f : Nat → Value} {xs : List Int} (h : w.rowIs g 2 n f) (hl : xs.length = n) (hf : ∀ i, i < n → f i = icell .i64 xs i) (hb : base ≤ g) (hn : n ≤ maxLen) : Grows w base (.slice (some ⟨g, 0, none⟩) n n) xs := by
  obtain ⟨cur, h1, h2, h3⟩ := h
  subst hl
  refine ⟨by simp, .inr ⟨g, xs.length, cur, rfl, hb, h1, Nat.le_refl _, hn, by simp [h2], ?_⟩⟩
  apply List.ext_getElem?
  intro i
  rw [List.getElem?_take, List.getElem?_map]
  by_cases hi : i < xs.length
  · rw [if_pos (by omega), Array.getElem?_toList, h3 i hi, hf i hi, icell, List.getD_eq_getElem?_getD, List.getElem?_eq_getElem hi]
    rfl
  · rw [if_neg (by omega), List.getElem?_eq_none (by omega)]
    rfl
/-- the same, with the list's memory its own -/
def BalG (p : Int) (n : Nat) (xs : List Int) (w : World) (e : Ending) (w' : World) : Prop :=
  ∃ v, e = .returned (.tuple #[v, .int .i64 (sesC p n xs)]) ∧ Grows w' w.heap.size v (balL p n xs) ∧ Below w.heap.size w w'
def BalPost (p : Int) (n : Nat) (xs : List Int) (w : World) (e : Ending) (w' : World) : Prop :=
  ∃ a m c, e = .returned (.tuple #[.slice a m c, .int .i64 (sesC p n xs)]) ∧ (balL p n xs).length = m ∧ RowN w' w.heap.size w'.heap.size 2 a m (icell .i64 (balL p n xs)) ∧ Below w.heap.size w w'

set_option maxHeartbeats 1600000 in
theorem impl_BalancesOf_any (p : Int) (ad : Option Addr) (n c : Nat) (xs : List Int) (w : World) (h : Ints w w.heap.size .i64 ad (n * 3) xs) (hn : n ≤ 1048576) :
    Calls Try.prog 24 #[.int .i64 p, .slice ad n c] w fun e w' => BalPost p n xs w e w' := by
  cases hs : sesB p n xs
  · have HL := Lib.hid (balL_s hs)
    have HC := Lib.hid (sesC_s hs)
    go_enter Try.func24, Try.ntmps24
    go_wp2_with (go_at_call 16; refine (impl_IsSession_any _ _ _ _ _ _ h hn).mono ?_; rintro e w1 ⟨rfl, hb1⟩)
    go_ret2
    exact ⟨none, 0, 0, ret_slice HC.out, by rw [HL.out]; rfl, .inl rfl, hb1⟩
  · obtain ⟨⟨p1, p2⟩, hn60, hall0⟩ := sesB_out hs
    have hall := Lib.hid hall0
    clear hall0
    have HC := Lib.hid (sesC_y hs)
    have HL := Lib.hid (balL_y hs)
    obtain ⟨q, rfl⟩ := Int.eq_ofNat_of_zero_le (show 0 ≤ p by omega)
    have hmk := make_i64 q (by omega)
    go_enter Try.func24, Try.ntmps24
    go_wp2_with (go_at_call 16; refine (impl_IsSession_any _ _ _ _ _ _ h hn).mono ?_; rintro e w1 ⟨rfl, hb1⟩)
    have hnew := World.rowIs_made w1 (.int .i64 0) q 2
    have hz1 := hb1.size
    have hbel0 : Below w.heap.size w (w1.alloc (.cells (madeCells #[.int .i64 0] q) 2)) := hb1.alloc hz1 _
    clear hs hmk
    by_cases hn0 : n = 0
    · subst hn0
      go_loop [17] (fun i => i = .int .i64 0) (fun _ => 0)
      case atStart => rfl
      case round =>
        subst hrel
        go_wp2
        go_ret2
        exact ⟨_, q, _, ret_slice HC.out, by rw [HL.out]; simp, .of_row (hnew.congr (fun i hi => by rw [HL.out]; exact (bal_cell _ 0 hi).symm)) hz1 (by simp), hbel0⟩
    · obtain ⟨bl, off, rfl, hbk, hc0⟩ := h.2 (by omega)
      have hc := Lib.hid hc0
      clear h hc0
      go_loopw [17] (fun i wr => ∃ k : Nat, k ≤ n ∧ i = .int .i64 k ∧ (∃ f, wr.rowIs w1.heap.size 2 q f ∧ ∀ j, j < q → f j = .int .i64 (balK xs k j)) ∧ Below w.heap.size w wr ∧ w1.heap.size < wr.heap.size) (fun i _ => n - (intOf i).toNat)
      case atStart => exact ⟨0, Nat.zero_le _, rfl, ⟨_, hnew, fun j _ => rfl⟩, hbel0, hnew.lt⟩
      case round =>
        obtain ⟨k, hk, rfl, ⟨f, hrow, hf⟩, hbel, hzr⟩ := hrel
        by_cases hlt : k < n
        · obtain ⟨x, y, z, hx0, hx1, hx2, ex, ey, ez⟩ := rec3_at (w := wr) (fun i hi => (hbel.cell (p := ⟨bl, off + i, none⟩) hbk).trans (hc.out i hi)) hlt
          have hok := allR_at hall.out k hlt
          rw [ex.out, ey.out, ez.out] at hok
          obtain ⟨z1, z2⟩ := okR_z hok
          obtain ⟨xa, xb, ya, yb, hxy⟩ := okR_xy hok
          obtain ⟨X, rfl⟩ := Int.eq_ofNat_of_zero_le xa
          obtain ⟨Y, rfl⟩ := Int.eq_ofNat_of_zero_le ya
          clear hok xa ya
          have hX : X < q := by omega
          have hY : Y < q := by omega
          have hXY : X ≠ Y := by omega
          have hYX : Y ≠ X := by omega
          have hstep := Lib.hid (fun j => balK_succ xs k j)
          obtain ⟨bX, hbX⟩ : ∃ b, balK xs k X = b := ⟨_, rfl⟩
          obtain ⟨bY, hbY⟩ : ∃ b, balK xs k Y = b := ⟨_, rfl⟩
          have bd1 := balK_bd X k (fun i hi => allR_at hall.out i (by omega))
          have bd2 := balK_bd Y k (fun i hi => allR_at hall.out i (by omega))
          rw [hbX] at bd1
          rw [hbY] at bd2
          obtain ⟨bd1a, bd1b⟩ := bd1
          obtain ⟨bd2a, bd2b⟩ := bd2
          have cX := (hrow.alloc (.cells #[.int .i64 ↑X, .int .i64 ↑Y, .int .i64 z] 65)).cell hX
          have cY := (hrow.alloc (.cells #[.int .i64 ↑X, .int .i64 ↑Y, .int .i64 z] 65)).cell hY
          have fX := (hrow.alloc (.cells #[.int .i64 ↑X, .int .i64 ↑Y, .int .i64 z] 65)).frozen X
          have fY := (hrow.alloc (.cells #[.int .i64 ↑X, .int .i64 ↑Y, .int .i64 z] 65)).frozen Y
          rw [hf X hX, hbX] at cX
          rw [hf Y hY, hbY] at cY
          have HX := Lib.hid hbX
          have HY := Lib.hid hbY
          have Hf := Lib.hid hf
          clear hbX hbY hf hxy
          go_wp2
          go_region
          go_wp2
          have cY2 := ((hrow.set X (.int .i64 (bX + z))).alloc (.cells #[.int .i64 ↑X, .int .i64 ↑Y, .int .i64 z] 65)).cell hY
          have fY2 := ((hrow.set X (.int .i64 (bX + z))).alloc (.cells #[.int .i64 ↑X, .int .i64 ↑Y, .int .i64 z] 65)).frozen Y
          simp only [if_neg hYX] at cY2
          rw [Hf.out Y hY, HY.out] at cY2
          go_region
          go_wp2
          go_roundw
          case rel =>
            refine ⟨k + 1, by omega, by go_num, ⟨_, ((((hrow.set X (.int .i64 (bX + z))).set Y (.int .i64 (bY - z))).alloc _)).drew.drew, fun j hj => ?_⟩, (((hbel.setCell hz1 _).setCell hz1 _).alloc (by simpa [World.setCell] using hbel.size) _).drew.drew, by simp [World.setCell]; omega⟩
            exact bal_step hstep.out ex.out ey.out ez.out HX.out HY.out hXY (Hf.out j hj)
          case measure => simp [intOf]; omega
        · obtain rfl : k = n := by omega
          go_wp2
          go_ret2
          exact ⟨_, q, _, ret_slice HC.out, by rw [HL.out]; simp, .of_row (hrow.congr (fun i hi => by rw [HL.out, hf i hi]; exact (bal_cell _ _ hi).symm)) hz1 hzr, hbel⟩

set_option maxHeartbeats 1600000 in
theorem spec_BalancesOf_g (p : Int) (ad : Option Addr) (n c : Nat) (xs : List Int) (w : World) (h : Ints w w.heap.size .i64 ad (n * 3) xs) (hn : n ≤ 1048576) :
    Calls Try.prog 27 #[.int .i64 p, .slice ad n c] w fun e w' => BalG p n xs w e w' := by
  cases hs : sesB p n xs
  · have HL := Lib.hid (balL_s hs)
    have HC := Lib.hid (sesC_s hs)
    go_enter Try.func27, Try.ntmps27
    go_wp2_with (go_at_call 14; refine (spec_IsSession_any _ _ _ _ _ _ h hn).mono ?_; rintro e w1 ⟨rfl, hb1⟩)
    go_ret2
    exact ⟨_, ret_slice HC.out, by rw [HL.out]; exact Grows.nil _ _, hb1⟩
  · obtain ⟨⟨p1, p2⟩, hn60, hall0⟩ := sesB_out hs
    have hall := Lib.hid hall0
    clear hall0
    have HC := Lib.hid (sesC_y hs)
    have HL := Lib.hid (balL_y hs)
    obtain ⟨q, rfl⟩ := Int.eq_ofNat_of_zero_le (show 0 ≤ p by omega)
    have hmk := make_i64 q (by omega)
    go_enter Try.func27, Try.ntmps27
    go_wp2_with (go_at_call 14; refine (spec_IsSession_any _ _ _ _ _ _ h hn).mono ?_; rintro e w1 ⟨rfl, hb1⟩)
    have hnew := World.rowIs_made w1 (.int .i64 0) q 2
    have hz1 := hb1.size
    have hbel0 : Below w.heap.size w (w1.alloc (.cells (madeCells #[.int .i64 0] q) 2)) := hb1.alloc hz1 _
    clear hs hmk
    by_cases hn0 : n = 0
    · subst hn0
      go_loop [7] (fun i => i = .int .i64 0) (fun _ => 0)
      case atStart => rfl
      case round =>
        subst hrel
        go_wp2
        go_ret2
        exact ⟨_, ret_slice HC.out, by rw [HL.out]; exact grows_row hnew (by simp) (fun i hi => (bal_cell _ 0 hi).symm) hz1 (by unfold maxLen; omega), hbel0⟩
    · obtain ⟨bl, off, rfl, hbk, hc0⟩ := h.2 (by omega)
      have hc := Lib.hid hc0
      clear h hc0
      go_loopw [7] (fun i wr => ∃ k : Nat, k ≤ n ∧ i = .int .i64 k ∧ (∃ f, wr.rowIs w1.heap.size 2 q f ∧ ∀ j, j < q → f j = .int .i64 (balK xs k j)) ∧ Below w.heap.size w wr ∧ w1.heap.size < wr.heap.size) (fun i _ => n - (intOf i).toNat)
      case atStart => exact ⟨0, Nat.zero_le _, rfl, ⟨_, hnew, fun j _ => rfl⟩, hbel0, hnew.lt⟩
      case round =>
        obtain ⟨k, hk, rfl, ⟨f, hrow, hf⟩, hbel, hzr⟩ := hrel
        by_cases hlt : k < n
        · obtain ⟨x, y, z, hx0, hx1, hx2, ex, ey, ez⟩ := rec3_at (w := wr) (fun i hi => (hbel.cell (p := ⟨bl, off + i, none⟩) hbk).trans (hc.out i hi)) hlt
          have hok := allR_at hall.out k hlt
          rw [ex.out, ey.out, ez.out] at hok
          obtain ⟨z1, z2⟩ := okR_z hok
          obtain ⟨xa, xb, ya, yb, hxy⟩ := okR_xy hok
          obtain ⟨X, rfl⟩ := Int.eq_ofNat_of_zero_le xa
          obtain ⟨Y, rfl⟩ := Int.eq_ofNat_of_zero_le ya
          clear hok xa ya
          have hX : X < q := by omega
          have hY : Y < q := by omega
          have hXY : X ≠ Y := by omega
          have hYX : Y ≠ X := by omega
          have hstep := Lib.hid (fun j => balK_succ xs k j)
          obtain ⟨bX, hbX⟩ : ∃ b, balK xs k X = b := ⟨_, rfl⟩
          obtain ⟨bY, hbY⟩ : ∃ b, balK xs k Y = b := ⟨_, rfl⟩
          have bd1 := balK_bd X k (fun i hi => allR_at hall.out i (by omega))
          have bd2 := balK_bd Y k (fun i hi => allR_at hall.out i (by omega))
          rw [hbX] at bd1
          rw [hbY] at bd2
          obtain ⟨bd1a, bd1b⟩ := bd1
          obtain ⟨bd2a, bd2b⟩ := bd2
          have cX := (hrow).cell hX
          have cY := (hrow).cell hY
          have fX := (hrow).frozen X
          have fY := (hrow).frozen Y
          rw [hf X hX, hbX] at cX
          rw [hf Y hY, hbY] at cY
          have HX := Lib.hid hbX
          have HY := Lib.hid hbY
          have Hf := Lib.hid hf
          clear hbX hbY hf hxy
          go_wp2
          go_region
          go_wp2
          go_region
          go_wp2
          go_roundw
          case rel =>
            refine ⟨k + 1, by omega, by go_num, ⟨_, ((hrow.set X (.int .i64 (bX + z))).set Y (.int .i64 (bY - z))).drew.drew, fun j hj => ?_⟩, ((hbel.setCell hz1 _).setCell hz1 _).drew.drew, by simp [World.setCell]; omega⟩
            exact bal_step hstep.out ex.out ey.out ez.out HX.out HY.out hXY (Hf.out j hj)
          case measure => simp [intOf]; omega
        · obtain rfl : k = n := by omega
          go_wp2
          go_ret2
          exact ⟨_, ret_slice HC.out, by rw [HL.out]; exact grows_row hrow (by simp) (fun i hi => by rw [hf i hi]; exact (bal_cell _ _ hi).symm) hz1 (by unfold maxLen; omega), hbel⟩
theorem spec_BalancesOf_any (p : Int) (ad : Option Addr) (n c : Nat) (xs : List Int) (w : World) (h : Ints w w.heap.size .i64 ad (n * 3) xs) (hn : n ≤ 1048576) :
    Calls Try.prog 27 #[.int .i64 p, .slice ad n c] w fun e w' => BalPost p n xs w e w' :=
  (spec_BalancesOf_g p ad n c xs w h hn).mono fun e w' ⟨v, h1, h2, h3⟩ => by
    obtain ⟨a, k, rfl, _, hr⟩ := h2.out
    exact ⟨a, _, k, h1, rfl, hr, h3⟩
end Go.Proofs.Ytocdiflkegbffaa
