/-
  Lists of shares and lists of such lists: how they are compared, marked and read again.
-/
import Derived.Test.YtkioliioakmepaaRec
import Derived.Test.YtkioliioakmepaaRes
import Derived.Test.YtkioliioakmepaaGcd
import Derived.StillTailTactics
namespace Go.Proofs.Ytkioliioakmepaa
open Go.ChangeShapes Go.WideShapes Go.ChangeAt Go.RowKit
set_option linter.unusedVariables false
set_option maxRecDepth 16000 in
set_option maxHeartbeats 800000 in
theorem eqShareS_same (a a' : Option Addr) (n c c' B B' : Nat) (xs : List Int) (w : World) (h : Ints w B .i64 a (n * 2) xs) (h' : Ints w B' .i64 a' (n * 2) xs) (hB : B ≤ w.heap.size) (hB' : B' ≤ w.heap.size) (hn : n ≤ 1048576) :
    Calls Try.prog 82 #[.slice a n c, .slice a' n c'] w fun e w' => e = .returned (.bool true) ∧ Below w.heap.size w w' := by
  by_cases hn0 : n = 0
  · subst hn0
    go_enter Try.func82, Try.ntmps82
    go_wp2
    go_loop [5] (fun i => i = .int .i64 0) (fun _ => 0)
    case atStart => rfl
    case round =>
      subst hrel
      go_wp2
      go_ret
      exact ⟨rfl, Below.refl _ _⟩
  · obtain ⟨b, off, rfl, hb, hc0⟩ := h.2 (by omega)
    obtain ⟨b', off', rfl, hb', hc0'⟩ := h'.2 (by omega)
    have hc := Lib.hid hc0
    have hc' := Lib.hid hc0'
    clear h h' hc0 hc0'
    go_enter Try.func82, Try.ntmps82
    go_wp2
    go_loopw [5] (fun i wr => ∃ k : Nat, k ≤ n ∧ i = .int .i64 k ∧ Below w.heap.size w wr) (fun i _ => n - (intOf i).toNat)
    case atStart => exact ⟨0, Nat.zero_le _, rfl, Below.refl _ _⟩
    case round =>
      obtain ⟨k, hk, rfl, hbel⟩ := hrel
      by_cases hlt : k < n
      · obtain ⟨x, y, hx0, hx1, ex, ey⟩ := rec2_at (w := wr) (fun i hi => (hbel.cell (p := ⟨b, off + i, none⟩) (by show b < _; omega)).trans (hc.out i hi)) hlt
        obtain ⟨x', y', hy0, hy1, ex', ey'⟩ := rec2_at (w := wr) (fun i hi => (hbel.cell (p := ⟨b', off' + i, none⟩) (by show b' < _; omega)).trans (hc'.out i hi)) hlt
        obtain rfl : x = x' := ex.out.symm.trans ex'.out
        obtain rfl : y = y' := ey.out.symm.trans ey'.out
        go_wp2_with fail
        go_still_tail 8, (by kernel_rfl)
        go_wp2_with fail
        refine (eqShare_same _ _ _).mono ?_
        rintro e w1 ⟨rfl, hb1⟩
        go_wp2_with fail
        go_roundw
        case rel => exact ⟨k + 1, by omega, by go_num, hbel.drew.trans (hb1.mono hbel.size)⟩
        case measure => simp [intOf]; omega
      · go_wp2
        go_ret
        exact ⟨rfl, hbel⟩
set_option maxHeartbeats 800000 in
theorem markShareS_any (a : Option Addr) (n c lo hi : Nat) (t : TypeId) (f : Nat → Value) (k : Int) (w : World) (h : RowN w lo hi t a (n * 2) f) (hk : 0 ≤ k) (hk2 : k ≤ 1099511627776) (hn : n ≤ 1048576) :
    Calls Try.prog 84 #[.slice a n c, .int .i64 k] w fun e w' => e = .returned (.int .i64 (k + n * 2)) ∧ RowN w' lo hi t a (n * 2) (marks k) ∧ Out lo hi w w' := by
  by_cases hn0 : n = 0
  · subst hn0
    go_enter Try.func84, Try.ntmps84
    go_wp2
    go_loop [1, 5] (fun t i => t = .int .i64 k ∧ i = .int .i64 0) (fun _ _ => 0)
    case atStart => exact ⟨rfl, rfl⟩
    case round =>
      obtain ⟨rfl, rfl⟩ := hrel
      go_wp2
      go_ret
      exact ⟨ret_int (by simp), .inl rfl, Out.refl _ _ _⟩
  · obtain ⟨g, rfl, hg1, hg2, hlt, _⟩ := h.blk (by omega)
    have H := Lib.hid h
    clear h
    go_enter Try.func84, Try.ntmps84
    go_wp2
    go_loopw [1, 5] (fun q i wr => ∃ j : Nat, j ≤ n ∧ i = .int .i64 j ∧ q = .int .i64 (k + j * 2) ∧ (∃ f', RowN wr lo hi t (some ⟨g, 0, none⟩) (n * 2) f' ∧ ∀ i, i < j * 2 → f' i = marks k i) ∧ Out lo hi w wr) (fun _ i _ => n - (intOf i).toNat)
    case atStart => exact ⟨0, Nat.zero_le _, rfl, by simp, ⟨f, H.out, fun i hi => absurd hi (by omega)⟩, Out.refl _ _ _⟩
    case round =>
      obtain ⟨j, hj, rfl, rfl, ⟨f', hrow, hf⟩, hg⟩ := hrel
      by_cases hlt2 : j < n
      · obtain ⟨g', e, _, _, _, hc⟩ := hrow.blk (by omega)
        injection e with e
        injection e with e
        subst e
        obtain ⟨c0, f0⟩ := hc (j * 2) (by omega)
        obtain ⟨c1, f1⟩ := hc (j * 2 + 1) (by omega)
        clear hc
        go_wp2
        go_roundw
        case rel =>
          refine ⟨j + 1, by omega, by go_num, by go_num, ⟨_, (hrow.set (i := j * 2) (by omega) _).set (i := j * 2 + 1) (by omega) _, fun i hi => ?_⟩, (hg.set hg1 hg2 _).set hg1 hg2 _⟩
          by_cases e1 : i = j * 2 + 1
          · subst e1; simp [marks]; omega
          · by_cases e0 : i = j * 2
            · subst e0; simp [marks]
            · simp only [if_neg e1, if_neg e0]; exact hf i (by omega)
        case measure => simp [intOf]; omega
      · obtain rfl : j = n := by omega
        go_wp2
        go_ret
        exact ⟨rfl, hrow.congr hf, hg⟩

set_option maxHeartbeats 800000 in
theorem heldShareS_any (a : Option Addr) (n c lo hi : Nat) (t : TypeId) (k : Int) (w : World) (h : RowN w lo hi t a (n * 2) (marks k)) (hk : 0 ≤ k) (hk2 : k ≤ 1099511627776) (hn : n ≤ 1048576) :
    Calls Try.prog 85 #[.slice a n c, .int .i64 k] w fun e w' => e = .returned (.int .i64 (k + n * 2)) ∧ w = w' := by
  by_cases hn0 : n = 0
  · subst hn0
    go_enter Try.func85, Try.ntmps85
    go_wp2
    go_loop [1, 5] (fun t i => t = .int .i64 k ∧ i = .int .i64 0) (fun _ _ => 0)
    case atStart => exact ⟨rfl, rfl⟩
    case round =>
      obtain ⟨rfl, rfl⟩ := hrel
      go_wp2
      go_ret
      exact ⟨ret_int (by simp), rfl⟩
  · obtain ⟨g, rfl, _, _, hlt, hc⟩ := h.blk (by omega)
    have HC := Lib.hid hc
    clear h hc
    go_enter Try.func85, Try.ntmps85
    go_wp2
    go_loop [1, 5] (fun q i => ∃ j : Nat, j ≤ n ∧ i = .int .i64 j ∧ q = .int .i64 (k + j * 2)) (fun _ i => n - (intOf i).toNat)
    case atStart => exact ⟨0, Nat.zero_le _, rfl, by simp⟩
    case round =>
      obtain ⟨j, hj, rfl, rfl⟩ := hrel
      by_cases hlt2 : j < n
      · have c0 := (HC.out (j * 2) (by omega)).1
        have c1 := (HC.out (j * 2 + 1) (by omega)).1
        unfold marks at c0 c1
        have e0 : k + ((j * 2 : Nat) : Int) = k + (j : Int) * 2 := by omega
        have e1 : k + ((j * 2 + 1 : Nat) : Int) = k + (j : Int) * 2 + 1 := by omega
        rw [e0] at c0
        rw [e1] at c1
        clear e0 e1
        go_wp2
        go_round
        case rel => exact ⟨j + 1, by omega, by go_num, by go_num⟩
        case measure => simp [intOf]; omega
      · obtain rfl : j = n := by omega
        go_wp2
        go_ret
        exact ⟨rfl, rfl⟩

/-- an own list of n lists of L shares; its blocks lie from lo up and below hi, and are all others -/
def Rss (w : World) (lo hi : Nat) (a : Option Addr) (n L : Nat) (f : Nat → Nat → Value) : Prop :=
  n = 0 ∨ ∃ (g0 : Nat) (G C : Nat → Nat), a = some ⟨g0, 0, none⟩ ∧ (lo ≤ g0 ∧ g0 < hi) ∧ RowN w g0 (g0 + 1) 63 (some ⟨g0, 0, none⟩) n (fun i => .slice (some ⟨G i, 0, none⟩) L (C i)) ∧
    (∀ i, i < n → RowN w (G i) (G i + 1) 30 (some ⟨G i, 0, none⟩) (L * 2) (f i) ∧ lo ≤ G i ∧ G i < hi ∧ ¬ G i = g0) ∧ (∀ i j, i < n → j < n → ¬ i = j → ¬ G i = G j)
section
variable {w w' : World} {lo hi lo' hi' n L : Nat} {a : Option Addr} {f f' : Nat → Nat → Value}
theorem Rss.below (h : Rss w lo hi a n L f) (hb : Below w.heap.size w w') : Rss w' lo hi a n L f := by
  rcases h with h | ⟨g0, G, C, e, hg, h1, h2, h3⟩
  · exact .inl h
  · exact .inr ⟨g0, G, C, e, hg, h1.below hb, fun i hi => ⟨(h2 i hi).1.below hb, (h2 i hi).2⟩, h3⟩
theorem Rss.out (h : Rss w lo hi a n L f) (k : Out lo' hi' w w') (hd : hi ≤ lo' ∨ hi' ≤ lo) : Rss w' lo hi a n L f := by
  rcases h with h | ⟨g0, G, C, e, hg, h1, h2, h3⟩
  · exact .inl h
  · exact .inr ⟨g0, G, C, e, hg, h1.out k (by omega), fun i hi => ⟨(h2 i hi).1.out k (by have := h2 i hi; omega), (h2 i hi).2⟩, h3⟩
theorem Rss.wide (h : Rss w lo hi a n L f) (h1 : lo' ≤ lo) (h2 : hi ≤ hi') : Rss w lo' hi' a n L f := by
  rcases h with h | ⟨g0, G, C, e, hg, k1, k2, k3⟩
  · exact .inl h
  · exact .inr ⟨g0, G, C, e, by omega, k1, fun i hi => ⟨(k2 i hi).1, by have := k2 i hi; omega⟩, k3⟩
theorem Rss.drew (h : Rss w lo hi a n L f) : Rss w.drew lo hi a n L f := h
end

set_option maxRecDepth 16000 in
set_option maxHeartbeats 1600000 in
theorem eqShareSS_same (a a' : Option Addr) (n c c' L lo hi lo' hi' : Nat) (F : Nat → List Int) (w : World) (h : Rss w lo hi a n L (fun i => icell .i64 (F i))) (h' : Rss w lo' hi' a' n L (fun i => icell .i64 (F i))) (hF : ∀ i, i < n → (F i).length = L * 2) (hn : n ≤ 1048576) (hL : L ≤ 1048576) :
    Calls Try.prog 38 #[.slice a n c, .slice a' n c'] w fun e w' => e = .returned (.bool true) ∧ Below w.heap.size w w' := by
  by_cases hn0 : n = 0
  · subst hn0
    go_enter Try.func38, Try.ntmps38
    go_wp2
    go_loop [5] (fun i => i = .int .i64 0) (fun _ => 0)
    case atStart => rfl
    case round =>
      subst hrel
      go_wp2
      go_ret
      exact ⟨rfl, Below.refl _ _⟩
  · rcases h with h | ⟨g0, G, C, rfl, _, h1, h2, _⟩
    · exact absurd h hn0
    rcases h' with h | ⟨g0', G', C', rfl, _, h1', h2', _⟩
    · exact absurd h hn0
    obtain ⟨_, e, _, _, hlt, hc⟩ := h1.blk (by omega)
    injection e with e; injection e with e; subst e
    obtain ⟨_, e, _, _, hlt', hc'⟩ := h1'.blk (by omega)
    injection e with e; injection e with e; subst e
    have HC := Lib.hid (fun i hi => (hc i hi).1)
    have HC' := Lib.hid (fun i hi => (hc' i hi).1)
    have HI := Lib.hid (fun (W : World) (hb : Below w.heap.size w W) i (hi : i < n) => (((h2 i hi).1.ints (hF i hi)).below hb).more hb.size)
    have HI' := Lib.hid (fun (W : World) (hb : Below w.heap.size w W) i (hi : i < n) => (((h2' i hi).1.ints (hF i hi)).below hb).more hb.size)
    clear h1 h2 h1' h2' hc hc' hF
    go_enter Try.func38, Try.ntmps38
    go_wp2
    go_loopw [5] (fun i wr => ∃ k : Nat, k ≤ n ∧ i = .int .i64 k ∧ Below w.heap.size w wr) (fun i _ => n - (intOf i).toNat)
    case atStart => exact ⟨0, Nat.zero_le _, rfl, Below.refl _ _⟩
    case round =>
      obtain ⟨k, hk, rfl, hbel⟩ := hrel
      by_cases hlt2 : k < n
      · have x0 := (hbel.cell (p := ⟨g0, k, none⟩) hlt).trans (HC.out k hlt2)
        have x1 := (hbel.cell (p := ⟨g0', k, none⟩) hlt').trans (HC'.out k hlt2)
        go_wp2_with fail
        go_still_tail 8, (by kernel_rfl)
        go_wp2_with fail
        have hbd := hbel.drew
        refine (eqShareS_same _ _ _ _ _ _ _ _ _ (HI.out _ hbd k hlt2) (HI'.out _ hbd k hlt2) (Nat.le_refl _) (Nat.le_refl _) hL).mono ?_
        rintro e w1 ⟨rfl, hb1⟩
        go_wp2_with fail
        go_roundw
        case rel => exact ⟨k + 1, by omega, by go_num, hbel.drew.trans (hb1.mono hbel.size)⟩
        case measure => simp [intOf]; omega
      · go_wp2
        go_ret
        exact ⟨rfl, hbel⟩
def markss (k : Int) (L i : Nat) : Nat → Value := marks (k + ((i * (L * 2) : Nat) : Int))
set_option maxHeartbeats 1600000 in
theorem markShareSS_any (a : Option Addr) (n c L lo hi : Nat) (f : Nat → Nat → Value) (k : Int) (w : World) (h : Rss w lo hi a n L f) (hk : 0 ≤ k) (hk2 : k ≤ 1048576) (hn : n ≤ 9) (hL : L ≤ 9) :
    Calls Try.prog 40 #[.slice a n c, .int .i64 k] w fun e w' => e = .returned (.int .i64 (k + ((n * (L * 2) : Nat) : Int))) ∧ Rss w' lo hi a n L (markss k L) ∧ Out lo hi w w' := by
  by_cases hn0 : n = 0
  · subst hn0
    go_enter Try.func40, Try.ntmps40
    go_wp2
    go_loop [1, 5] (fun t i => t = .int .i64 k ∧ i = .int .i64 0) (fun _ _ => 0)
    case atStart => exact ⟨rfl, rfl⟩
    case round =>
      obtain ⟨rfl, rfl⟩ := hrel
      go_wp2
      go_ret
      exact ⟨ret_int (by simp), .inl rfl, Out.refl _ _ _⟩
  · rcases h with h | ⟨g0, G, C, rfl, hg0, h1, h2, h3⟩
    · exact absurd h hn0
    have H1 := Lib.hid h1
    have H2 := Lib.hid h2
    have H3 := Lib.hid h3
    clear h1 h2 h3
    obtain ⟨hlo, hhi⟩ := hg0
    go_enter Try.func40, Try.ntmps40
    go_wp2
    go_loopw [1, 5] (fun q i wr => ∃ j : Nat, j ≤ n ∧ i = .int .i64 j ∧ q = .int .i64 (k + ((j * (L * 2) : Nat) : Int)) ∧ RowN wr g0 (g0 + 1) 63 (some ⟨g0, 0, none⟩) n (fun i => .slice (some ⟨G i, 0, none⟩) L (C i)) ∧ (∀ i, i < n → RowN wr (G i) (G i + 1) 30 (some ⟨G i, 0, none⟩) (L * 2) (if i < j then markss k L i else f i)) ∧ Out lo hi w wr) (fun _ i _ => n - (intOf i).toNat)
    case atStart => exact ⟨0, Nat.zero_le _, rfl, by simp, H1.out, fun i hi => by rw [if_neg (by omega)]; exact (H2.out i hi).1, Out.refl _ _ _⟩
    case round =>
      obtain ⟨j, hj, rfl, rfl, hr0, hr1, ho⟩ := hrel
      by_cases hlt2 : j < n
      · obtain ⟨_, e, _, _, hlt, hc⟩ := hr0.blk (by omega)
        injection e with e; injection e with e; subst e
        have x0 := (hc j hlt2).1
        clear hc
        have hq : j * (L * 2) ≤ 9 * 18 := Nat.mul_le_mul (by omega) (by omega)
        have HR0 := Lib.hid hr0
        have HR1 := Lib.hid hr1
        obtain ⟨q, hq'⟩ : ∃ q, j * (L * 2) = q := ⟨_, rfl⟩
        have hq2 : (j + 1) * (L * 2) = q + L * 2 := by rw [← hq', Nat.succ_mul]
        rw [hq'] at hq
        have HQ := Lib.hid hq'
        have HQ2 := Lib.hid hq2
        rw [hq']
        clear hr0 hr1 hq' hq2
        go_wp2_with fail
        refine (markShareS_any _ _ _ _ _ _ _ _ _ (HR1.out j hlt2) (by omega) (by omega) (by omega)).mono ?_
        rintro e w1 ⟨rfl, hm, ho1⟩
        go_wp2_with fail
        go_roundw
        case rel =>
          have hGj := (H2.out j hlt2).2
          refine ⟨j + 1, by omega, by go_num, by rw [HQ2.out]; congr 1; omega, HR0.out.out ho1 (by omega), fun i hi => ?_, ho.trans (ho1.wide (by omega) (by omega))⟩
          by_cases e : i = j
          · subst e
            rw [if_pos (by omega)]
            unfold markss
            rw [HQ.out]
            exact hm
          · have := H3.out i j hi hlt2 e
            have hz := (HR1.out i hi).out ho1 (by omega)
            by_cases hij : i < j
            · rw [if_pos (by omega)]; rw [if_pos hij] at hz; exact hz
            · rw [if_neg (by omega)]; rw [if_neg hij] at hz; exact hz
        case measure => simp [intOf]; omega
      · obtain rfl : j = n := by omega
        go_wp2
        go_ret
        exact ⟨rfl, .inr ⟨g0, G, C, rfl, ⟨hlo, hhi⟩, hr0, fun i hi => ⟨by have := hr1 i hi; rw [if_pos hi] at this; exact this, (H2.out i hi).2⟩, H3.out⟩, ho⟩
set_option maxHeartbeats 1600000 in
theorem heldShareSS_any (a : Option Addr) (n c L lo hi : Nat) (k : Int) (w : World) (h : Rss w lo hi a n L (markss k L)) (hk : 0 ≤ k) (hk2 : k ≤ 1048576) (hn : n ≤ 9) (hL : L ≤ 9) :
    Calls Try.prog 41 #[.slice a n c, .int .i64 k] w fun e w' => e = .returned (.int .i64 (k + ((n * (L * 2) : Nat) : Int))) ∧ w = w' := by
  by_cases hn0 : n = 0
  · subst hn0
    go_enter Try.func41, Try.ntmps41
    go_wp2
    go_loop [1, 5] (fun t i => t = .int .i64 k ∧ i = .int .i64 0) (fun _ _ => 0)
    case atStart => exact ⟨rfl, rfl⟩
    case round =>
      obtain ⟨rfl, rfl⟩ := hrel
      go_wp2
      go_ret
      exact ⟨ret_int (by simp), rfl⟩
  · rcases h with h | ⟨g0, G, C, rfl, _, h1, h2, _⟩
    · exact absurd h hn0
    obtain ⟨_, e, _, _, hlt, hc⟩ := h1.blk (by omega)
    injection e with e; injection e with e; subst e
    have HC := Lib.hid (fun i hi => (hc i hi).1)
    have H2 := Lib.hid h2
    clear h1 h2 hc
    go_enter Try.func41, Try.ntmps41
    go_wp2
    go_loop [1, 5] (fun q i => ∃ j : Nat, j ≤ n ∧ i = .int .i64 j ∧ q = .int .i64 (k + ((j * (L * 2) : Nat) : Int))) (fun _ i => n - (intOf i).toNat)
    case atStart => exact ⟨0, Nat.zero_le _, rfl, by simp⟩
    case round =>
      obtain ⟨j, hj, rfl, rfl⟩ := hrel
      by_cases hlt2 : j < n
      · have x0 := HC.out j hlt2
        have hq : j * (L * 2) ≤ 9 * 18 := Nat.mul_le_mul (by omega) (by omega)
        have X1 := Lib.hid (H2.out j hlt2).1
        unfold markss at X1
        obtain ⟨q, hq'⟩ : ∃ q, j * (L * 2) = q := ⟨_, rfl⟩
        have hq2 : (j + 1) * (L * 2) = q + L * 2 := by rw [← hq', Nat.succ_mul]
        rw [hq'] at hq X1
        have HQ2 := Lib.hid hq2
        rw [hq']
        clear hq' hq2
        go_wp2_with fail
        refine (heldShareS_any _ _ _ _ _ _ _ _ X1.out (by omega) (by omega) (by omega)).mono ?_
        rintro e w1 ⟨rfl, rfl⟩
        go_wp2_with fail
        go_round
        case rel => exact ⟨j + 1, by omega, by go_num, by rw [HQ2.out]; congr 1; omega⟩
        case measure => simp [intOf]; omega
      · obtain rfl : j = n := by omega
        go_wp2
        go_ret
        exact ⟨rfl, rfl⟩
end Go.Proofs.Ytkioliioakmepaa
