/-
  Slices of exact numbers: copied, compared, marked (printed by gen_exs.py).
-/
import Derived.Test.YtmhmhbiihcdgiaaRec
import Derived.Test.YtmhmhbiihcdgiaaRes
import Derived.Deep.RegionWith
import Derived.StillTailTactics
namespace Go.Proofs.Ytmhmhbiihcdgiaa
set_option linter.unusedVariables false
open Go.ChangeShapes Go.WideShapes Go.ChangeAt Go.RowKit

theorem row_set2 {w : World} {g t N : Nat} {f : Nat → Value} {xs : List Int} {k : Nat} {x y : Int} (h : w.rowIs g t N f) (hf : ∀ j, j < k * 2 → f j = icell .i64 xs j) (hx : Hid (xs.getD (k * 2) 0 = x)) (hy : Hid (xs.getD (k * 2 + 1) 0 = y)) :
    ∃ f', ((w.setCell ⟨g, k * 2, none⟩ (.int .i64 x)).setCell ⟨g, k * 2 + 1, none⟩ (.int .i64 y)).rowIs g t N f' ∧ ∀ j, j < (k + 1) * 2 → f' j = icell .i64 xs j := by
  refine ⟨_, (h.set (k * 2) _).set (k * 2 + 1) _, fun j hj => ?_⟩
  by_cases e1 : j = k * 2 + 1
  · subst e1; show (if _ then _ else _) = _; rw [if_pos rfl, icell, hy.out]
  · by_cases e0 : j = k * 2
    · subst e0; show (if _ then _ else (if _ then _ else _)) = _; rw [if_neg e1, if_pos rfl, icell, hx.out]
    · simp only [if_neg e1, if_neg e0]; exact hf j (by omega)
section
variable {H : Type} {enc : TypeId × Value → H} {w : World} {spare : Nat → Bool} {held : Bool}
theorem open_ex {r : Reach} {b0 base : Nat} {v : Value} {d : DataW H} {p : List MemPlace} (hv : Value.okWide Try.prog w r b0 24 v) (h : DataW.Trod enc Try.prog w base spare held 24 v d p) :
    ∃ a n c xs, v = .slice a n c ∧ RecsArg w 2 a n xs :=
  open_recs Try.underlying24 Try.underlying49 (by kernel_rfl) (by kernel_rfl) (by decide) (fun j f hf => by
    rcases j with _ | _ | j
    · simp at hf; subst hf; exact Try.underlying2
    · simp at hf; subst hf; exact Try.underlying2
    · simp at hf) hv h
end

theorem szExactS_no (a : Option Addr) (n c : Nat) (left : Int) (w : World) (hl : left ≤ 1048576) (hl0 : 0 ≤ left) (hn : n ≤ maxLen) (h : left < n) :
    Calls Try.prog 5 #[.slice a n c, .int .i64 left] w fun e w' => e = .returned (.int .i64 (-1)) ∧ w = w' := by
  unfold maxLen at hn
  go_enter Try.func5, Try.ntmps5
  go_wp2
  go_ret
  exact ⟨rfl, rfl⟩
theorem szExactS_yes (a : Option Addr) (n c : Nat) (left : Int) (w : World) (hl : left ≤ 1048576) (hl0 : 0 ≤ left) (h : n ≤ left) :
    Calls Try.prog 5 #[.slice a n c, .int .i64 left] w fun e w' => e = .returned (.int .i64 (left - n)) ∧ w = w' := by
  go_enter Try.func5, Try.ntmps5
  go_wp2
  go_ret
  exact ⟨rfl, rfl⟩

theorem toExact_any (x y : Int) (w : World) :
    Calls Try.prog 22 #[.agg #[.int .i64 x, .int .i64 y]] w fun e w' => e = .returned (.agg #[.int .i64 x, .int .i64 y]) ∧ Below w.heap.size w w' := by
  go_enter Try.func22, Try.ntmps22
  go_wp2
  refine bodyPost_ret (v := .agg #[.int .i64 x, .int .i64 y]) (by simp [results, Try.results22, go_sem]) rfl ⟨rfl, ?_⟩
  exact (((Below.refl _ _).alloc (Nat.le_refl _) _).alloc (by simp) _).alloc (by simp; omega) _

theorem info_ex : (Try.prog.info? 45).map (fun i => (i.zero, i.size, i.bytes)) = some (some (.agg #[.int .i64 0, .int .i64 0]), 2, 16) := by kernel_rfl
theorem make_ex (n : Nat) (hn : n ≤ 1048576) (W : World) : (Instr.makeSlice 31 (.int .i64 (n : Int)) (.int .i64 (n : Int))).run Try.prog W = .ok (.slice (some ⟨W.heap.size, 0, none⟩) n n) (W.alloc (.cells (madeCells #[.int .i64 0, .int .i64 0] (n * 2)) 45)) :=
  make_recs (P := Try.prog) 31 45 (.agg #[.int .i64 0, .int .i64 0]) 2 16 Try.underlying31 info_ex n (by omega) (by omega) W
theorem make_ex_0 (W : World) : (Instr.makeSlice 31 (.int .i64 0) (.int .i64 0)).run Try.prog W = .ok (.slice (some ⟨W.heap.size, 0, none⟩) 0 0) (W.alloc (.cells (madeCells #[.int .i64 0, .int .i64 0] 0) 45)) :=
  make_ex 0 (by omega) W
theorem made_ex (w : World) (n : Nat) (t : TypeId) : (w.alloc (.cells (madeCells #[.int .i64 0, .int .i64 0] n) t)).rowIs w.heap.size t n (fun _ => .int .i64 0) :=
  made_rowIs w _ _ t n (fun i hi => by
    match i, hi with
    | 0, _ => rfl
    | 1, _ => rfl) (by decide)

set_option maxHeartbeats 800000 in
theorem toExactS_any (a : Option Addr) (n c : Nat) (xs : List Int) (w : World) (h : Ints w w.heap.size .i64 a (n * 2) xs) (hn : n ≤ 1048576) :
    Calls Try.prog 8 #[.slice a n c] w fun e w' => e = .returned (.slice (some ⟨w.heap.size, 0, none⟩) n n) ∧ w'.rowIs w.heap.size 45 (n * 2) (icell .i64 xs) ∧ Below w.heap.size w w' := by
  by_cases hn0 : n = 0
  · subst hn0
    have hmk := make_ex_0
    go_enter Try.func8, Try.ntmps8
    go_wp2
    go_loop [4] (fun i => i = .int .i64 0) (fun _ => 0)
    case atStart => rfl
    case round =>
      subst hrel
      go_wp2
      go_ret
      exact ⟨rfl, (made_ex w _ _).congr (fun i hi => absurd hi (by omega)), (Below.refl _ _).alloc (Nat.le_refl _) _⟩
  · obtain ⟨b, off, rfl, hb, hc0⟩ := h.2 (by omega)
    have hc := Lib.hid hc0
    have hmk := make_ex n hn
    clear h hc0
    go_enter Try.func8, Try.ntmps8
    go_wp2
    go_loopw [4] (fun i wr => ∃ k : Nat, k ≤ n ∧ i = .int .i64 k ∧ ∃ f, wr.rowIs w.heap.size 45 (n * 2) f ∧ (∀ j, j < k * 2 → f j = icell .i64 xs j) ∧ Below w.heap.size w wr) (fun i _ => n - (intOf i).toNat)
    case atStart => exact ⟨0, Nat.zero_le _, rfl, _, made_ex w _ _, fun j hj => absurd hj (by omega), (Below.refl _ _).alloc (Nat.le_refl _) _⟩
    case round =>
      obtain ⟨k, hk, rfl, f, hrow, hf, hbel⟩ := hrel
      by_cases hlt : k < n
      · obtain ⟨x, y, hx0, hx1, ex, ey⟩ := rec2_at (w := wr) (fun i hi => (hbel.cell (p := ⟨b, off + i, none⟩) hb).trans (hc.out i hi)) hlt
        go_wp2_with fail
        refine (toExact_any _ _ _).mono ?_
        rintro e w1 ⟨rfl, hb1⟩
        have hrow1 := rowIs_below hrow hb1 hrow.lt
        have c0 := hrow1.cell (i := k * 2) (by omega)
        have c1 := hrow1.cell (i := k * 2 + 1) (by omega)
        have f0 := hrow1.frozen (k * 2)
        have f1 := hrow1.frozen (k * 2 + 1)
        have hbel1 := hbel.trans (hb1.mono hbel.size)
        go_wp2_with fail
        go_roundw
        case rel =>
          obtain ⟨f', h1, h2⟩ := row_set2 hrow1 hf ex ey
          exact ⟨k + 1, by omega, by go_num, f', h1, h2, (hbel1.setCell (Nat.le_refl _) _).setCell (Nat.le_refl _) _⟩
        case measure => simp [intOf]; omega
      · go_wp2
        go_ret
        exact ⟨rfl, hrow.congr (fun i hi => hf i (by omega)), hbel⟩

theorem eqExact_same (x y : Int) (w : World) :
    Calls Try.prog 28 #[.agg #[.int .i64 x, .int .i64 y], .agg #[.int .i64 x, .int .i64 y]] w fun e w' => e = .returned (.bool true) ∧ Below w.heap.size w w' := by
  go_enter Try.func28, Try.ntmps28
  go_wp2
  go_ret
  exact ⟨rfl, ((Below.refl _ _).alloc (Nat.le_refl _) _).alloc (by simp) _⟩

set_option maxHeartbeats 800000 in
theorem eqExactS_same (a a' : Option Addr) (n c c' B B' : Nat) (xs : List Int) (w : World) (h : Ints w B .i64 a (n * 2) xs) (h' : Ints w B' .i64 a' (n * 2) xs) (hB : B ≤ w.heap.size) (hB' : B' ≤ w.heap.size) (hn : n ≤ 1048576) :
    Calls Try.prog 11 #[.slice a n c, .slice a' n c'] w fun e w' => e = .returned (.bool true) ∧ Below w.heap.size w w' := by
  by_cases hn0 : n = 0
  · subst hn0
    go_enter Try.func11, Try.ntmps11
    go_wp2
    go_loop [5] (fun i => i = .int .i64 0) (fun _ => 0)
    case atStart => rfl
    case round =>
      subst hrel
      go_wp2
      go_ret
      exact ⟨rfl, Below.refl _ _⟩
  · obtain ⟨b, off, rfl, hb, hc0⟩ := h.2 (by omega)
    obtain ⟨b', off', rfl, hb', hc0'⟩ := h'.2 (by omega)
    have hc := Lib.hid hc0
    have hc' := Lib.hid hc0'
    clear h h' hc0 hc0'
    go_enter Try.func11, Try.ntmps11
    go_wp2
    go_loopw [5] (fun i wr => ∃ k : Nat, k ≤ n ∧ i = .int .i64 k ∧ Below w.heap.size w wr) (fun i _ => n - (intOf i).toNat)
    case atStart => exact ⟨0, Nat.zero_le _, rfl, Below.refl _ _⟩
    case round =>
      obtain ⟨k, hk, rfl, hbel⟩ := hrel
      by_cases hlt : k < n
      · obtain ⟨x, y, hx0, hx1, ex, ey⟩ := rec2_at (w := wr) (fun i hi => (hbel.cell (p := ⟨b, off + i, none⟩) (by show b < _; omega)).trans (hc.out i hi)) hlt
        obtain ⟨x', y', hy0, hy1, ex', ey'⟩ := rec2_at (w := wr) (fun i hi => (hbel.cell (p := ⟨b', off' + i, none⟩) (by show b' < _; omega)).trans (hc'.out i hi)) hlt
        obtain rfl : x = x' := ex.out.symm.trans ex'.out
        obtain rfl : y = y' := ey.out.symm.trans ey'.out
        go_wp2_with fail
        go_still_tail 8, (by kernel_rfl)
        go_wp2_with fail
        refine (eqExact_same _ _ _).mono ?_
        rintro e w1 ⟨rfl, hb1⟩
        go_wp2_with fail
        go_roundw
        case rel => exact ⟨k + 1, by omega, by go_num, hbel.drew.trans (hb1.mono hbel.size)⟩
        case measure => simp [intOf]; omega
      · go_wp2
        go_ret
        exact ⟨rfl, hbel⟩

theorem toExactS_R (a : Option Addr) (n c : Nat) (xs : List Int) (w : World) (h : Ints w w.heap.size .i64 a (n * 2) xs) (hn : n ≤ 1048576) :
    Calls Try.prog 8 #[.slice a n c] w fun e w' => e = .returned (.slice (some ⟨w.heap.size, 0, none⟩) n n) ∧ RowN w' w.heap.size w'.heap.size 45 (some ⟨w.heap.size, 0, none⟩) (n * 2) (icell .i64 xs) ∧ Below w.heap.size w w' :=
  (toExactS_any a n c xs w h hn).mono fun _ _ ⟨h1, h2, h3⟩ => ⟨h1, .of_row h2 (Nat.le_refl _) h2.lt, h3⟩

set_option maxHeartbeats 800000 in
theorem markExactS_any (a : Option Addr) (n c lo hi : Nat) (t : TypeId) (f : Nat → Value) (k : Int) (w : World) (h : RowN w lo hi t a (n * 2) f) (hk : 0 ≤ k) (hk2 : k ≤ 1099511627776) (hn : n ≤ 1048576) :
    Calls Try.prog 12 #[.slice a n c, .int .i64 k] w fun e w' => e = .returned (.int .i64 (k + n * 2)) ∧ RowN w' lo hi t a (n * 2) (marks k) ∧ Out lo hi w w' := by
  by_cases hn0 : n = 0
  · subst hn0
    go_enter Try.func12, Try.ntmps12
    go_wp2
    go_loop [1, 5] (fun t i => t = .int .i64 k ∧ i = .int .i64 0) (fun _ _ => 0)
    case atStart => exact ⟨rfl, rfl⟩
    case round =>
      obtain ⟨rfl, rfl⟩ := hrel
      go_wp2
      go_ret
      exact ⟨ret_int (by simp), .inl rfl, Out.refl _ _ _⟩
  · obtain ⟨g, rfl, hg1, hg2, hlt, _⟩ := h.blk (by omega)
    have H := Lib.hid h
    clear h
    go_enter Try.func12, Try.ntmps12
    go_wp2
    go_loopw [1, 5] (fun q i wr => ∃ j : Nat, j ≤ n ∧ i = .int .i64 j ∧ q = .int .i64 (k + j * 2) ∧ (∃ f', RowN wr lo hi t (some ⟨g, 0, none⟩) (n * 2) f' ∧ ∀ i, i < j * 2 → f' i = marks k i) ∧ Out lo hi w wr) (fun _ i _ => n - (intOf i).toNat)
    case atStart => exact ⟨0, Nat.zero_le _, rfl, by simp, ⟨f, H.out, fun i hi => absurd hi (by omega)⟩, Out.refl _ _ _⟩
    case round =>
      obtain ⟨j, hj, rfl, rfl, ⟨f', hrow, hf⟩, hg⟩ := hrel
      by_cases hlt2 : j < n
      · obtain ⟨g', e, _, _, _, hc⟩ := hrow.blk (by omega)
        injection e with e
        injection e with e
        subst e
        obtain ⟨c0, f0⟩ := hc (j * 2) (by omega)
        obtain ⟨c1, f1⟩ := hc (j * 2 + 1) (by omega)
        clear hc
        go_wp2
        go_roundw
        case rel =>
          refine ⟨j + 1, by omega, by go_num, by go_num, ⟨_, (hrow.set (i := j * 2) (by omega) _).set (i := j * 2 + 1) (by omega) _, fun i hi => ?_⟩, (hg.set hg1 hg2 _).set hg1 hg2 _⟩
          by_cases e1 : i = j * 2 + 1
          · subst e1; simp [marks]; omega
          · by_cases e0 : i = j * 2
            · subst e0; simp [marks]
            · simp only [if_neg e1, if_neg e0]; exact hf i (by omega)
        case measure => simp [intOf]; omega
      · obtain rfl : j = n := by omega
        go_wp2
        go_ret
        exact ⟨rfl, hrow.congr hf, hg⟩
end Go.Proofs.Ytmhmhbiihcdgiaa
