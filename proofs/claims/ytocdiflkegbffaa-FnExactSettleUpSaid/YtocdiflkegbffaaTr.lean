/-
  The copies of transfers: how they are compared, marked and read again.
-/
import Derived.Test.YtocdiflkegbffaaRec
import Derived.Test.YtocdiflkegbffaaRes
import Derived.StillTailTactics
namespace Go.Proofs.Ytocdiflkegbffaa
open Go.ChangeShapes Go.WideShapes Go.ChangeAt Go.RowKit
theorem eqTransfer_same (x y z : Int) (w : World) :
    Calls Try.prog 64 #[.agg #[.int .i64 x, .int .i64 y, .int .i64 z], .agg #[.int .i64 x, .int .i64 y, .int .i64 z]] w fun e w' => e = .returned (.bool true) ∧ Below w.heap.size w w' := by
  go_enter Try.func64, Try.ntmps64
  go_wp2
  go_ret
  exact ⟨rfl, ((Below.refl _ _).alloc (Nat.le_refl _) _).alloc (by simp) _⟩

set_option maxHeartbeats 800000 in
theorem eqTransferS_same (a a' : Option Addr) (n c c' B B' : Nat) (xs : List Int) (w : World) (h : Ints w B .i64 a (n * 3) xs) (h' : Ints w B' .i64 a' (n * 3) xs) (hB : B ≤ w.heap.size) (hB' : B' ≤ w.heap.size) (hn : n ≤ 1048576) :
    Calls Try.prog 38 #[.slice a n c, .slice a' n c'] w fun e w' => e = .returned (.bool true) ∧ Below w.heap.size w w' := by
  by_cases hn0 : n = 0
  · subst hn0
    go_enter Try.func38, Try.ntmps38
    go_wp2
    go_loop [5] (fun i => i = .int .i64 0) (fun _ => 0)
    case atStart => rfl
    case round =>
      subst hrel
      go_wp2
      go_ret
      exact ⟨rfl, Below.refl _ _⟩
  · obtain ⟨b, off, rfl, hb, hc0⟩ := h.2 (by omega)
    obtain ⟨b', off', rfl, hb', hc0'⟩ := h'.2 (by omega)
    have hc := Lib.hid hc0
    have hc' := Lib.hid hc0'
    clear h h' hc0 hc0'
    go_enter Try.func38, Try.ntmps38
    go_wp2
    go_loopw [5] (fun i wr => ∃ k : Nat, k ≤ n ∧ i = .int .i64 k ∧ Below w.heap.size w wr) (fun i _ => n - (intOf i).toNat)
    case atStart => exact ⟨0, Nat.zero_le _, rfl, Below.refl _ _⟩
    case round =>
      obtain ⟨k, hk, rfl, hbel⟩ := hrel
      by_cases hlt : k < n
      · obtain ⟨x, y, z, hx0, hx1, hx2, ex, ey, ez⟩ := rec3_at (w := wr) (fun i hi => (hbel.cell (p := ⟨b, off + i, none⟩) (by show b < _; omega)).trans (hc.out i hi)) hlt
        obtain ⟨x', y', z', hy0, hy1, hy2, ex', ey', ez'⟩ := rec3_at (w := wr) (fun i hi => (hbel.cell (p := ⟨b', off' + i, none⟩) (by show b' < _; omega)).trans (hc'.out i hi)) hlt
        obtain rfl : x = x' := ex.out.symm.trans ex'.out
        obtain rfl : y = y' := ey.out.symm.trans ey'.out
        obtain rfl : z = z' := ez.out.symm.trans ez'.out
        go_wp2_with fail
        go_still_tail 8, (by kernel_rfl)
        go_wp2_with fail
        refine (eqTransfer_same _ _ _ _).mono ?_
        rintro e w1 ⟨rfl, hb1⟩
        go_wp2_with fail
        go_roundw
        case rel => exact ⟨k + 1, by omega, by go_num, hbel.drew.trans (hb1.mono hbel.size)⟩
        case measure => simp [intOf]; omega
      · go_wp2
        go_ret
        exact ⟨rfl, hbel⟩

set_option maxHeartbeats 800000 in
theorem markTransferS_any (a : Option Addr) (n c lo hi : Nat) (t : TypeId) (f : Nat → Value) (k : Int) (w : World) (h : RowN w lo hi t a (n * 3) f) (hk : 0 ≤ k) (hk2 : k ≤ 1099511627776) (hn : n ≤ 1048576) :
    Calls Try.prog 39 #[.slice a n c, .int .i64 k] w fun e w' => e = .returned (.int .i64 (k + n * 3)) ∧ RowN w' lo hi t a (n * 3) (marks k) ∧ Out lo hi w w' := by
  by_cases hn0 : n = 0
  · subst hn0
    go_enter Try.func39, Try.ntmps39
    go_wp2
    go_loop [1, 5] (fun t i => t = .int .i64 k ∧ i = .int .i64 0) (fun _ _ => 0)
    case atStart => exact ⟨rfl, rfl⟩
    case round =>
      obtain ⟨rfl, rfl⟩ := hrel
      go_wp2
      go_ret
      exact ⟨ret_int (by simp), .inl rfl, Out.refl _ _ _⟩
  · obtain ⟨g, rfl, hg1, hg2, hlt, _⟩ := h.blk (by omega)
    have H := Lib.hid h
    clear h
    go_enter Try.func39, Try.ntmps39
    go_wp2
    go_loopw [1, 5] (fun q i wr => ∃ j : Nat, j ≤ n ∧ i = .int .i64 j ∧ q = .int .i64 (k + j * 3) ∧ (∃ f', RowN wr lo hi t (some ⟨g, 0, none⟩) (n * 3) f' ∧ ∀ i, i < j * 3 → f' i = marks k i) ∧ Out lo hi w wr) (fun _ i _ => n - (intOf i).toNat)
    case atStart => exact ⟨0, Nat.zero_le _, rfl, by simp, ⟨f, H.out, fun i hi => absurd hi (by omega)⟩, Out.refl _ _ _⟩
    case round =>
      obtain ⟨j, hj, rfl, rfl, ⟨f', hrow, hf⟩, hg⟩ := hrel
      by_cases hlt2 : j < n
      · obtain ⟨g', e, _, _, _, hc⟩ := hrow.blk (by omega)
        injection e with e
        injection e with e
        subst e
        obtain ⟨c0, f0⟩ := hc (j * 3) (by omega)
        obtain ⟨c1, f1⟩ := hc (j * 3 + 1) (by omega)
        obtain ⟨c2, f2⟩ := hc (j * 3 + 2) (by omega)
        clear hc
        go_wp2
        go_roundw
        case rel =>
          refine ⟨j + 1, by omega, by go_num, by go_num, ⟨_, ((hrow.set (i := j * 3) (by omega) _).set (i := j * 3 + 1) (by omega) _).set (i := j * 3 + 2) (by omega) _, fun i hi => ?_⟩, ((hg.set hg1 hg2 _).set hg1 hg2 _).set hg1 hg2 _⟩
          by_cases e2 : i = j * 3 + 2
          · subst e2; simp [marks]; omega
          · by_cases e1 : i = j * 3 + 1
            · subst e1; simp [marks]; omega
            · by_cases e0 : i = j * 3
              · subst e0; simp [marks]
              · simp only [if_neg e2, if_neg e1, if_neg e0]; exact hf i (by omega)
        case measure => simp [intOf]; omega
      · obtain rfl : j = n := by omega
        go_wp2
        go_ret
        exact ⟨rfl, hrow.congr hf, hg⟩

set_option maxHeartbeats 800000 in
theorem heldTransferS_any (a : Option Addr) (n c lo hi : Nat) (t : TypeId) (k : Int) (w : World) (h : RowN w lo hi t a (n * 3) (marks k)) (hk : 0 ≤ k) (hk2 : k ≤ 1099511627776) (hn : n ≤ 1048576) :
    Calls Try.prog 40 #[.slice a n c, .int .i64 k] w fun e w' => e = .returned (.int .i64 (k + n * 3)) ∧ w = w' := by
  by_cases hn0 : n = 0
  · subst hn0
    go_enter Try.func40, Try.ntmps40
    go_wp2
    go_loop [1, 5] (fun t i => t = .int .i64 k ∧ i = .int .i64 0) (fun _ _ => 0)
    case atStart => exact ⟨rfl, rfl⟩
    case round =>
      obtain ⟨rfl, rfl⟩ := hrel
      go_wp2
      go_ret
      exact ⟨ret_int (by simp), rfl⟩
  · obtain ⟨g, rfl, _, _, hlt, hc⟩ := h.blk (by omega)
    have HC := Lib.hid hc
    clear h hc
    go_enter Try.func40, Try.ntmps40
    go_wp2
    go_loop [1, 5] (fun q i => ∃ j : Nat, j ≤ n ∧ i = .int .i64 j ∧ q = .int .i64 (k + j * 3)) (fun _ i => n - (intOf i).toNat)
    case atStart => exact ⟨0, Nat.zero_le _, rfl, by simp⟩
    case round =>
      obtain ⟨j, hj, rfl, rfl⟩ := hrel
      by_cases hlt2 : j < n
      · have c0 := (HC.out (j * 3) (by omega)).1
        have c1 := (HC.out (j * 3 + 1) (by omega)).1
        have c2 := (HC.out (j * 3 + 2) (by omega)).1
        unfold marks at c0 c1 c2
        have e0 : k + ((j * 3 : Nat) : Int) = k + (j : Int) * 3 := by omega
        have e1 : k + ((j * 3 + 1 : Nat) : Int) = k + (j : Int) * 3 + 1 := by omega
        have e2 : k + ((j * 3 + 2 : Nat) : Int) = k + (j : Int) * 3 + 1 + 1 := by omega
        rw [e0] at c0
        rw [e1] at c1
        rw [e2] at c2
        clear e0 e1 e2
        go_wp2
        go_round
        case rel => exact ⟨j + 1, by omega, by go_num, by go_num⟩
        case measure => simp [intOf]; omega
      · obtain rfl : j = n := by omega
        go_wp2
        go_ret
        exact ⟨rfl, rfl⟩
end Go.Proofs.Ytocdiflkegbffaa
