/-
  Lists of lists of integers: as arguments of a law, copied, measured, compared and marked.
-/
import Derived.Test.YtocdiflkegbffaaOpen
import Derived.Test.YtocdiflkegbffaaRes
import Derived.Test.YtocdiflkegbffaaRec
import Derived.Test.YtocdiflkegbffaaApp
import Derived.StillTailTactics
namespace Go.Proofs.Ytocdiflkegbffaa
open Go.ChangeShapes Go.WideShapes Go.ChangeAt Go.RowKit Go.Joins Go.Deep
set_option linter.unusedVariables false

/-- n lists of integers, to be read -/
def Gms (w : World) (B : Nat) (a : Option Addr) (n : Nat) (A : Nat → Option Addr) (ln C : Nat → Nat) (X : Nat → List Int) : Prop :=
  (0 < n → ∃ b off, a = some ⟨b, off, none⟩ ∧ b < B ∧ ∀ i, i < n → w.cell? ⟨b, off + i, none⟩ = some (.slice (A i) (ln i) (C i))) ∧ ∀ i, i < n → Ints w B .i64 (A i) (ln i) (X i)
theorem Gms.below {w w' : World} {B : Nat} {a : Option Addr} {n : Nat} {A : Nat → Option Addr} {ln C : Nat → Nat} {X : Nat → List Int} (h : Gms w B a n A ln C X) (hb : Below B w w') : Gms w' B a n A ln C X := by
  refine ⟨fun hn => ?_, fun i hi => (h.2 i hi).below hb⟩
  obtain ⟨b, off, e, hl, hc⟩ := h.1 hn
  exact ⟨b, off, e, hl, fun i hi => (hb.cell (p := ⟨b, off + i, none⟩) hl).trans (hc i hi)⟩
theorem Gms.more {w : World} {B B' : Nat} {a : Option Addr} {n : Nat} {A : Nat → Option Addr} {ln C : Nat → Nat} {X : Nat → List Int} (h : Gms w B a n A ln C X) (hB : B ≤ B') : Gms w B' a n A ln C X := by
  refine ⟨fun hn => ?_, fun i hi => (h.2 i hi).more hB⟩
  obtain ⟨b, off, e, hl, hc⟩ := h.1 hn
  exact ⟨b, off, e, by omega, hc⟩
/-- an argument that is a list of lists of integers -/
def SSArg (w : World) (a : Option Addr) (n : Nat) (A : Nat → Option Addr) (ln C : Nat → Nat) (X : Nat → List Int) : Prop := Gms w w.heap.size a n A ln C X ∧ n ≤ maxLen ∧ ∀ i, i < n → ln i ≤ maxLen
section
variable {H : Type} {enc : TypeId × Value → H} {w : World} {spare : Nat → Bool} {held : Bool}
theorem open_ss {r : Reach} {b0 base : Nat} {t s e : TypeId} {v : Value} {d : DataW H} {p : List MemPlace} (ht : Try.prog.underlying t = some (.slice s)) (hs : Try.prog.underlying s = some (.slice e)) (he : Try.prog.underlying e = some (.int .i64)) (hc1 : Try.prog.cellsOf s = 1) (hc : Try.prog.cellsOf e = 1)
    (hv : Value.okWide Try.prog w r b0 t v) (h : DataW.Trod enc Try.prog w base spare held t v d p) : ∃ a n c A ln C X, v = .slice a n c ∧ SSArg w a n A ln C X := by
  obtain ⟨a0, len0, cap0, rfl⟩ := okWide_slice ht hv
  obtain ⟨fuel, hf⟩ := h
  rcases open_slice ht hf with ⟨hcs, _⟩ | ⟨x, l, c, m, nn, D, Pl, hcs, hb, hl, hm, hmm, hx, hi⟩
  · simp [Value.cells] at hcs
    obtain ⟨rfl, rfl, rfl⟩ := hcs
    exact ⟨none, 0, 0, fun _ => none, fun _ => 0, fun _ => 0, fun _ => [], rfl, ⟨fun hn => absurd hn (by omega), fun i hi => absurd hi (by omega)⟩, Nat.zero_le _, fun i hi => absurd hi (by omega)⟩
  · simp [Value.cells] at hcs
    obtain ⟨rfl, rfl, rfl⟩ := hcs
    have hlm : len0 ≤ m := by split at hmm <;> omega
    have key : ∀ q, q < len0 → ∃ z : Option Addr × Nat × Nat × List Int, w.cell? (x.add q) = some (.slice z.1 z.2.1 z.2.2.1) ∧ IntsArg w .i64 z.1 z.2.1 z.2.2.2 := by
      intro q hq
      obtain ⟨cs', hc', ht'⟩ := hi q (by omega)
      rw [hc1] at hc'
      obtain ⟨hlen, hcl, hat⟩ := World.cells?_some hc'
      rw [Nat.mul_one] at hat
      obtain ⟨v0, hv0⟩ : ∃ v0, cs' = [v0] := by
        match cs', hlen with
        | [v0], _ => exact ⟨v0, rfl⟩
      subst hv0
      obtain ⟨a, n, c, xs, e1, e2⟩ := ints_of_cell hs he hc ht'
      refine ⟨(a, n, c, xs), ?_, e2⟩
      have h0 := hat 0 (by omega)
      rw [Go.Deep.add_add, Nat.add_zero] at h0
      rw [h0, e1]; rfl
    obtain ⟨X, hX⟩ := choose_lt (α := Option Addr × Nat × Nat × List Int) (p := fun q z => w.cell? (x.add q) = some (.slice z.1 z.2.1 z.2.2.1) ∧ IntsArg w .i64 z.1 z.2.1 z.2.2.2) key
    refine ⟨some x, len0, cap0, fun i => (X i).1, fun i => (X i).2.1, fun i => (X i).2.2.1, fun i => (X i).2.2.2, rfl, ⟨fun hn => ?_, fun i hi => (hX i hi).2.1⟩, by omega, fun i hi => (hX i hi).2.2.1⟩
    obtain ⟨b, off, spot⟩ := x
    have h0 := (hX 0 hn).1
    have hspot : spot = none := by simpa [Addr.add] using World.cell?_spot h0
    subst hspot
    have hbl : b < w.heap.size := by
      have e : w.cell? ⟨b, off, none⟩ = some (.slice (X 0).1 (X 0).2.1 (X 0).2.2.1) := by simpa [Addr.add] using h0
      exact cell_lt e
    refine ⟨b, off, rfl, hbl, fun i hi => ?_⟩
    rw [← (hX i hi).1]
    by_cases hi0 : i = 0
    · subst hi0; rfl
    · simp [Addr.add, hi0]
end

/-- own lists of integers: the blocks lie from lo up and below hi, and the outer block is another than the inner ones -/
def Sls (w : World) (lo hi : Nat) (a : Option Addr) (n : Nat) (ln : Nat → Nat) (f : Nat → Nat → Value) : Prop :=
  n = 0 ∨ ∃ (g0 : Nat) (G C : Nat → Nat), a = some ⟨g0, 0, none⟩ ∧ (lo ≤ g0 ∧ g0 < hi) ∧ RowN w g0 (g0 + 1) 29 (some ⟨g0, 0, none⟩) n (fun i => .slice (some ⟨G i, 0, none⟩) (ln i) (C i)) ∧
    (∀ i, i < n → RowN w (G i) (G i + 1) 2 (some ⟨G i, 0, none⟩) (ln i) (f i) ∧ lo ≤ G i ∧ G i < hi ∧ ¬ G i = g0) ∧ ∀ i j, i < n → j < n → ¬ i = j → ¬ G i = G j
section
variable {w w' : World} {lo hi lo' hi' n : Nat} {a : Option Addr} {ln : Nat → Nat} {f f' : Nat → Nat → Value}
theorem Sls.below (h : Sls w lo hi a n ln f) (hb : Below w.heap.size w w') : Sls w' lo hi a n ln f := by
  rcases h with h | ⟨g0, G, C, e, hg, h1, h2, h3⟩
  · exact .inl h
  · exact .inr ⟨g0, G, C, e, hg, h1.below hb, fun i hi => ⟨(h2 i hi).1.below hb, (h2 i hi).2⟩, h3⟩
theorem Sls.out (h : Sls w lo hi a n ln f) (k : Out lo' hi' w w') (hd : hi ≤ lo' ∨ hi' ≤ lo) : Sls w' lo hi a n ln f := by
  rcases h with h | ⟨g0, G, C, e, hg, h1, h2, h3⟩
  · exact .inl h
  · exact .inr ⟨g0, G, C, e, hg, h1.out k (by omega), fun i hi => ⟨(h2 i hi).1.out k (by have := h2 i hi; omega), (h2 i hi).2⟩, h3⟩
theorem Sls.drew (h : Sls w lo hi a n ln f) : Sls w.drew lo hi a n ln f := h
theorem Sls.gms {X : Nat → List Int} (h : Sls w lo hi a n ln (fun i => icell .i64 (X i))) (hX : ∀ i, i < n → (X i).length = ln i) : ∃ A C, Gms w w.heap.size a n A ln C X := by
  rcases h with h | ⟨g0, G, C, e, hg, h1, h2, h3⟩
  · exact ⟨fun _ => none, fun _ => 0, fun hn => absurd hn (by omega), fun i hi => absurd hi (by omega)⟩
  · refine ⟨fun i => some ⟨G i, 0, none⟩, C, fun hn => ?_, fun i hi => (h2 i hi).1.ints (hX i hi)⟩
    obtain ⟨g, e', _, _, hlt, hc⟩ := h1.blk hn
    injection e' with e'; injection e' with e'; subst e'
    exact ⟨g0, 0, e, hlt, fun i hi => by rw [Nat.zero_add]; exact (hc i hi).1⟩
end
/-- the sum of the lengths -/
def sumN (ln : Nat → Nat) : Nat → Nat
  | 0 => 0
  | i + 1 => sumN ln i + ln i
theorem sumN_le {ln : Nat → Nat} {i : Nat} : ∀ n, i ≤ n → sumN ln i ≤ sumN ln n
  | 0, h => by obtain rfl : i = 0 := by omega
               exact Nat.le_refl _
  | n + 1, h => by
    by_cases e : i = n + 1
    · subst e; exact Nat.le_refl _
    · have := sumN_le (ln := ln) (i := i) n (by omega)
      rw [sumN]; omega
theorem sumN_at {ln : Nat → Nat} {i n : Nat} (h : i < n) : ln i ≤ sumN ln n := by
  have := sumN_le (ln := ln) (i := i + 1) n (by omega)
  rw [sumN] at this; omega

theorem rown1 {w : World} {g hi m : Nat} {t : TypeId} {f : Nat → Value} (h : RowN w g hi t (some ⟨g, 0, none⟩) m f) : RowN w g (g + 1) t (some ⟨g, 0, none⟩) m f := by
  rcases h with h | ⟨g', e1, e2, e3, N, F, h3, h4, h5⟩
  · exact .inl h
  · injection e1 with e1
    injection e1 with e1
    subst e1
    exact .inr ⟨g, rfl, Nat.le_refl _, Nat.lt_add_one _, N, F, h3, h4, h5⟩
set_option maxRecDepth 16000 in
set_option maxHeartbeats 1600000 in
theorem szInt64SS_no (a : Option Addr) (n c : Nat) (A : Nat → Option Addr) (ln C : Nat → Nat) (X : Nat → List Int) (w : World) (h : Gms w w.heap.size a n A ln C X) (hn : n ≤ maxLen) (hl : ∀ i, i < n → ln i ≤ maxLen) (hbig : 1048576 < n + sumN ln n) :
    Calls Try.prog 41 #[.slice a n c, .int .i64 1048576] w fun e w' => e = .returned (.int .i64 (-1)) ∧ w = w' := by
  unfold maxLen at hn
  by_cases h1 : 1048576 < n
  · go_enter Try.func41, Try.ntmps41
    go_wp2_with fail
    go_ret
    exact ⟨rfl, rfl⟩
  · by_cases hn0 : n = 0
    · subst hn0
      simp [sumN] at hbig
    · obtain ⟨b, off, rfl, hb, hc⟩ := h.1 (by omega)
      have HC := Lib.hid hc
      have HLn := Lib.hid hl
      have HBG := Lib.hid hbig
      clear h hc hl hbig
      go_enter Try.func41, Try.ntmps41
      go_wp2_with fail
      go_loop [1, 5] (fun q i => ∃ (j : Nat) (L : Int), j ≤ n ∧ i = .int .i64 j ∧ q = .int .i64 L ∧ 0 ≤ L ∧ L ≤ 1048576 ∧ Hid (L = 1048576 - (n : Int) - (sumN ln j : Int))) (fun _ i => n - (intOf i).toNat)
      case atStart => exact ⟨0, _, Nat.zero_le _, rfl, rfl, by omega, by omega, Lib.hid (by simp [sumN])⟩
      case round =>
        obtain ⟨j, L, hj, rfl, rfl, hL0, hL1, HL⟩ := hrel
        by_cases hlt : j < n
        · have x0 := HC.out j hlt
          have hs : sumN ln (j + 1) = sumN ln j + ln j := rfl
          by_cases hov : L < (ln j : Int)
          · have CK := Lib.hid (fun W => szInt64S_no (A j) (ln j) (C j) L W hL1 hL0 (HLn.out j hlt) hov)
            clear hs hov
            go_wp2_with fail
            refine (CK.out _).mono ?_
            rintro e w1 ⟨rfl, rfl⟩
            go_wp2_with fail
            go_ret
            exact ⟨rfl, rfl⟩
          · have CK := Lib.hid (fun W => szInt64S_yes (A j) (ln j) (C j) L W hL1 hL0 (by omega))
            obtain ⟨L2, hL2⟩ : ∃ L2 : Int, L - (ln j : Int) = L2 := ⟨_, rfl⟩
            rw [hL2] at CK
            have HL2 : Hid (L2 = 1048576 - (n : Int) - (sumN ln (j + 1) : Int)) := Lib.hid (by have := HL.out; rw [hs]; push_cast; omega)
            have k0 : 0 ≤ L2 := by omega
            have k1 : L2 ≤ 1048576 := by omega
            have kd : decide (L2 < 0) = false := decide_eq_false (by omega)
            clear hs hov hL2
            go_wp2_with fail
            refine (CK.out _).mono ?_
            rintro e w1 ⟨rfl, rfl⟩
            go_wp2_with fail
            go_round
            case rel => exact ⟨j + 1, L2, by omega, by go_num, rfl, k0, k1, HL2⟩
            case measure => simp [intOf]; omega
        · obtain rfl : j = n := by omega
          have := HL.out
          have := HBG.out
          exact absurd hL0 (by omega)
set_option maxRecDepth 16000 in
set_option maxHeartbeats 1600000 in
theorem szInt64SS_yes (a : Option Addr) (n c : Nat) (A : Nat → Option Addr) (ln C : Nat → Nat) (X : Nat → List Int) (w : World) (h : Gms w w.heap.size a n A ln C X) (hs : n + sumN ln n ≤ 1048576) :
    Calls Try.prog 41 #[.slice a n c, .int .i64 1048576] w fun e w' => e = .returned (.int .i64 (1048576 - ((n + sumN ln n : Nat) : Int))) ∧ w = w' := by
  by_cases hn0 : n = 0
  · subst hn0
    go_enter Try.func41, Try.ntmps41
    go_wp2_with fail
    go_loop [1, 5] (fun q i => q = .int .i64 1048576 ∧ i = .int .i64 0) (fun _ _ => 0)
    case atStart => exact ⟨rfl, rfl⟩
    case round =>
      obtain ⟨rfl, rfl⟩ := hrel
      go_wp2
      go_ret
      exact ⟨ret_int (by simp [sumN]), rfl⟩
  · obtain ⟨b, off, rfl, hb, hc⟩ := h.1 (by omega)
    have HC := Lib.hid hc
    have HBG := Lib.hid hs
    have hn : n ≤ 1048576 := by omega
    clear h hc hs
    go_enter Try.func41, Try.ntmps41
    go_wp2_with fail
    go_loop [1, 5] (fun q i => ∃ (j : Nat) (L : Int), j ≤ n ∧ i = .int .i64 j ∧ q = .int .i64 L ∧ 0 ≤ L ∧ L ≤ 1048576 ∧ Hid (L = 1048576 - (n : Int) - (sumN ln j : Int))) (fun _ i => n - (intOf i).toNat)
    case atStart => exact ⟨0, _, Nat.zero_le _, rfl, rfl, by omega, by omega, Lib.hid (by simp [sumN])⟩
    case round =>
      obtain ⟨j, L, hj, rfl, rfl, hL0, hL1, HL⟩ := hrel
      by_cases hlt : j < n
      · have x0 := HC.out j hlt
        have hs : sumN ln (j + 1) = sumN ln j + ln j := rfl
        have hm := sumN_le (ln := ln) (i := j + 1) n (by omega)
        have hh := HL.out
        have hg := HBG.out
        have CK := Lib.hid (fun W => szInt64S_yes (A j) (ln j) (C j) L W hL1 hL0 (by omega))
        obtain ⟨L2, hL2⟩ : ∃ L2 : Int, L - (ln j : Int) = L2 := ⟨_, rfl⟩
        rw [hL2] at CK
        have HL2 : Hid (L2 = 1048576 - (n : Int) - (sumN ln (j + 1) : Int)) := Lib.hid (by rw [hs]; push_cast; omega)
        have k0 : 0 ≤ L2 := by omega
        have k1 : L2 ≤ 1048576 := by omega
        have kd : decide (L2 < 0) = false := decide_eq_false (by omega)
        clear hs hm hh hg hL2
        go_wp2_with fail
        refine (CK.out _).mono ?_
        rintro e w1 ⟨rfl, rfl⟩
        go_wp2_with fail
        go_round
        case rel => exact ⟨j + 1, L2, by omega, by go_num, rfl, k0, k1, HL2⟩
        case measure => simp [intOf]; omega
      · obtain rfl : j = n := by omega
        go_wp2
        go_ret
        exact ⟨ret_int (by have := HL.out; push_cast; omega), rfl⟩
set_option maxRecDepth 16000 in
set_option maxHeartbeats 1600000 in
theorem eqInt64SS_same (a a' : Option Addr) (n c c' : Nat) (A A' : Nat → Option Addr) (ln C C' : Nat → Nat) (X : Nat → List Int) (w : World) (h : Gms w w.heap.size a n A ln C X) (h' : Gms w w.heap.size a' n A' ln C' X) (hn : n ≤ 1048576) (hL : ∀ i, i < n → ln i ≤ 1048576) :
    Calls Try.prog 45 #[.slice a n c, .slice a' n c'] w fun e w' => e = .returned (.bool true) ∧ Below w.heap.size w w' := by
  by_cases hn0 : n = 0
  · subst hn0
    go_enter Try.func45, Try.ntmps45
    go_wp2
    go_loop [5] (fun i => i = .int .i64 0) (fun _ => 0)
    case atStart => rfl
    case round =>
      subst hrel
      go_wp2
      go_ret
      exact ⟨rfl, Below.refl _ _⟩
  · obtain ⟨b, off, rfl, hlt, hc⟩ := h.1 (by omega)
    obtain ⟨b', off', rfl, hlt', hc'⟩ := h'.1 (by omega)
    have HC := Lib.hid hc
    have HC' := Lib.hid hc'
    have HI := Lib.hid (fun (W : World) (hb : Below w.heap.size w W) i (hi : i < n) => ((h.2 i hi).below hb).more hb.size)
    have HI' := Lib.hid (fun (W : World) (hb : Below w.heap.size w W) i (hi : i < n) => ((h'.2 i hi).below hb).more hb.size)
    have HLn := Lib.hid hL
    clear h h' hc hc' hL
    go_enter Try.func45, Try.ntmps45
    go_wp2
    go_loopw [5] (fun i wr => ∃ k : Nat, k ≤ n ∧ i = .int .i64 k ∧ Below w.heap.size w wr) (fun i _ => n - (intOf i).toNat)
    case atStart => exact ⟨0, Nat.zero_le _, rfl, Below.refl _ _⟩
    case round =>
      obtain ⟨k, hk, rfl, hbel⟩ := hrel
      by_cases hlt2 : k < n
      · have x0 := (hbel.cell (p := ⟨b, off + k, none⟩) hlt).trans (HC.out k hlt2)
        have x1 := (hbel.cell (p := ⟨b', off' + k, none⟩) hlt').trans (HC'.out k hlt2)
        go_wp2_with fail
        go_still_tail 8, (by kernel_rfl)
        go_wp2_with fail
        have hbd := hbel.drew
        refine (eqInt64S_b _ _ _ _ _ _ _ _ _ (HI.out _ hbd k hlt2) (HI'.out _ hbd k hlt2) (HLn.out k hlt2)).mono ?_
        rintro e w1 ⟨rfl, hb1⟩
        go_wp2_with fail
        go_roundw
        case rel => exact ⟨k + 1, by omega, by go_num, hbel.drew.trans (hb1.mono hbel.size)⟩
        case measure => simp [intOf]; omega
      · go_wp2
        go_ret
        exact ⟨rfl, hbel⟩
set_option maxHeartbeats 1600000 in
theorem markInt64SS_any (a : Option Addr) (n c lo hi : Nat) (ln : Nat → Nat) (f : Nat → Nat → Value) (k : Int) (w : World) (h : Sls w lo hi a n ln f) (hk : 0 ≤ k) (hk2 : k ≤ 8388608) (hs : n + sumN ln n ≤ 1048576) :
    Calls Try.prog 46 #[.slice a n c, .int .i64 k] w fun e w' => e = .returned (.int .i64 (k + (sumN ln n : Int))) ∧ Out lo hi w w' := by
  by_cases hn0 : n = 0
  · subst hn0
    go_enter Try.func46, Try.ntmps46
    go_wp2
    go_loop [1, 5] (fun t i => t = .int .i64 k ∧ i = .int .i64 0) (fun _ _ => 0)
    case atStart => exact ⟨rfl, rfl⟩
    case round =>
      obtain ⟨rfl, rfl⟩ := hrel
      go_wp2
      go_ret
      exact ⟨ret_int (by simp [sumN]), Out.refl _ _ _⟩
  · rcases h with h | ⟨g0, G, C, rfl, hg0, h1, h2, h3⟩
    · exact absurd h hn0
    have H1 := Lib.hid h1
    have H2 := Lib.hid h2
    have H3 := Lib.hid h3
    have HS := Lib.hid hs
    have hn : n ≤ 1048576 := by omega
    clear h1 h2 h3 hs
    obtain ⟨hlo, hhi⟩ := hg0
    go_enter Try.func46, Try.ntmps46
    go_wp2
    go_loopw [1, 5] (fun q i wr => ∃ (j : Nat) (L : Int), j ≤ n ∧ i = .int .i64 j ∧ q = .int .i64 L ∧ 0 ≤ L ∧ L ≤ 9437184 ∧ Hid (L = k + (sumN ln j : Int)) ∧ RowN wr g0 (g0 + 1) 29 (some ⟨g0, 0, none⟩) n (fun i => .slice (some ⟨G i, 0, none⟩) (ln i) (C i)) ∧ (∀ i, i < n → ∃ f', RowN wr (G i) (G i + 1) 2 (some ⟨G i, 0, none⟩) (ln i) f') ∧ Out lo hi w wr) (fun _ i _ => n - (intOf i).toNat)
    case atStart => exact ⟨0, k, Nat.zero_le _, rfl, rfl, hk, by omega, Lib.hid (by simp [sumN]), H1.out, fun i hi => ⟨_, (H2.out i hi).1⟩, Out.refl _ _ _⟩
    case round =>
      obtain ⟨j, L, hj, rfl, rfl, hL0, hL1, HL, hr0, hr1, ho⟩ := hrel
      by_cases hlt2 : j < n
      · obtain ⟨_, e, _, _, hlt, hc⟩ := hr0.blk (by omega)
        injection e with e; injection e with e; subst e
        have x0 := (hc j hlt2).1
        clear hc
        have hsj : sumN ln (j + 1) = sumN ln j + ln j := rfl
        have hm := sumN_le (ln := ln) (i := j + 1) n (by omega)
        have hh := HL.out
        have hg := HS.out
        have hj1 : ln j ≤ 1048576 := by omega
        have HR0 := Lib.hid hr0
        have HR1 := Lib.hid hr1
        obtain ⟨f', hf'⟩ := hr1 j hlt2
        have CK := Lib.hid (markInt64S_any _ _ (C j) _ _ _ _ L _ hf' hL0 (by omega) hj1)
        obtain ⟨L2, hL2⟩ : ∃ L2 : Int, L + (ln j : Int) = L2 := ⟨_, rfl⟩
        rw [hL2] at CK
        have HL2 : Hid (L2 = k + (sumN ln (j + 1) : Int)) := Lib.hid (by rw [hsj]; push_cast; omega)
        have k0 : 0 ≤ L2 := by omega
        have k1 : L2 ≤ 9437184 := by omega
        clear hr0 hr1 hsj hm hh hg hL2 hf'
        go_wp2_with fail
        refine CK.out.mono ?_
        rintro e w1 ⟨rfl, hm, ho1⟩
        go_wp2_with fail
        go_roundw
        case rel =>
          have hGj := (H2.out j hlt2).2
          refine ⟨j + 1, L2, by omega, by go_num, rfl, k0, k1, HL2, HR0.out.out ho1 (by omega), fun i hi => ?_, ho.trans (ho1.wide (by omega) (by omega))⟩
          by_cases e2 : i = j
          · subst e2; exact ⟨_, hm⟩
          · have := H3.out i j hi hlt2 e2
            obtain ⟨f2, h2⟩ := HR1.out i hi
            exact ⟨f2, h2.out ho1 (by omega)⟩
        case measure => simp [intOf]; omega
      · obtain rfl : j = n := by omega
        go_wp2
        go_ret
        exact ⟨ret_int (by have := HL.out; omega), ho⟩

theorem info_is1 : (Try.prog.info? 29).map (fun i => (i.zero, i.size, i.bytes)) = some (some (.slice none 0 0), 1, 24) := by kernel_rfl
theorem make_is (n : Nat) (hn : n ≤ 1048576) (W : World) : (Instr.makeSlice 53 (.int .i64 (n : Int)) (.int .i64 (n : Int))).run Try.prog W = .ok (.slice (some ⟨W.heap.size, 0, none⟩) n n) (W.alloc (.cells (madeCells #[.slice none 0 0] n) 29)) :=
  run_make_row' (P := Try.prog) 53 29 (.slice none 0 0) 24 Try.underlying53 info_is1 rfl .i64 .i64 n (by omega) (by omega) W
theorem make_is0 (W : World) : (Instr.makeSlice 53 (.int .i64 0) (.int .i64 0)).run Try.prog W = .ok (.slice (some ⟨W.heap.size, 0, none⟩) 0 0) (W.alloc (.cells (madeCells #[.slice none 0 0] 0) 29)) := make_is 0 (by omega) W
def tcl (G : Nat → Nat) (ln : Nat → Nat) (k j : Nat) : Value := if j < k then .slice (some ⟨G j, 0, none⟩) (ln j) (ln j) else .slice none 0 0
set_option maxRecDepth 16000 in
set_option maxHeartbeats 1600000 in
theorem toInt64SS_R (a : Option Addr) (n c : Nat) (A : Nat → Option Addr) (ln C : Nat → Nat) (X : Nat → List Int) (w : World) (h : Gms w w.heap.size a n A ln C X) (hn : n ≤ 1048576) (hL : ∀ i, i < n → ln i ≤ 1048576) :
    Calls Try.prog 43 #[.slice a n c] w fun e w' => e = .returned (.slice (some ⟨w.heap.size, 0, none⟩) n n) ∧ Sls w' w.heap.size w'.heap.size (some ⟨w.heap.size, 0, none⟩) n ln (fun i => icell .i64 (X i)) ∧ Below w.heap.size w w' := by
  by_cases hn0 : n = 0
  · subst hn0
    have hmk := make_is0
    have hb0 := (Below.refl w.heap.size w).alloc (Nat.le_refl _) (.cells (madeCells #[.slice none 0 0] 0) 29)
    go_enter Try.func43, Try.ntmps43
    go_wp2
    go_loop [4] (fun i => i = .int .i64 0) (fun _ => 0)
    case atStart => rfl
    case round =>
      subst hrel
      go_wp2
      go_ret
      exact ⟨rfl, .inl rfl, hb0⟩
  · obtain ⟨b, off, rfl, hlt, hc⟩ := h.1 (by omega)
    have hmk := make_is n hn
    have HC := Lib.hid hc
    have HI := Lib.hid h.2
    have HLn := Lib.hid hL
    have hb0 := (Below.refl w.heap.size w).alloc (Nat.le_refl _) (.cells (madeCells #[.slice none 0 0] n) 29)
    have R0 := Lib.hid ((World.rowIs_made w (.slice none 0 0) n 29).congr (f := _) (g := tcl (fun _ => 0) ln 0) (fun j hj => by simp [tcl]))
    clear h hc hL
    go_enter Try.func43, Try.ntmps43
    go_wp2
    go_loopw [4] (fun i wr => ∃ (k : Nat) (G : Nat → Nat), k ≤ n ∧ i = .int .i64 k ∧ Hid (wr.rowIs w.heap.size 29 n (tcl G ln k)) ∧ Hid (∀ i, i < k → RowN wr (G i) (G i + 1) 2 (some ⟨G i, 0, none⟩) (ln i) (icell .i64 (X i)) ∧ w.heap.size < G i ∧ G i < wr.heap.size) ∧ Hid (∀ i j, i < k → j < k → ¬ i = j → ¬ G i = G j) ∧ Hid (Below w.heap.size w wr)) (fun i _ => n - (intOf i).toNat)
    case atStart => exact ⟨0, fun _ => 0, Nat.zero_le _, rfl, R0, Lib.hid (fun i hi => absurd hi (by omega)), Lib.hid (fun i j hi => absurd hi (by omega)), Lib.hid hb0⟩
    case round =>
      obtain ⟨k, G, hk, rfl, HR, HG, HD, HB⟩ := hrel
      by_cases hlt2 : k < n
      · have x0 := (HB.out.cell (p := ⟨b, off + k, none⟩) hlt).trans (HC.out k hlt2)
        have hlw := HR.out.lt
        have CK := Lib.hid (toInt64S_any (A k) (ln k) (C k) (X k) wr (((HI.out k hlt2).below HB.out).more HB.out.size) (HLn.out k hlt2))
        go_wp2_with fail
        refine CK.out.mono ?_
        rintro e w1 ⟨rfl, hrw, hb1⟩
        have hrl := hrw.lt
        have hr1 := RowN.of_row hrw (Nat.le_refl _) (Nat.lt_add_one _)
        have z1 := hb1.size
        have hR := rowIs_below HR.out hb1 hlw
        have fz := hR.frozen k
        have cz := hR.cell (i := k) hlt2
        have HF := Lib.hid hR
        have HR1 := Lib.hid hr1
        have HB1 := Lib.hid (HB.out.trans (hb1.mono HB.out.size))
        have HG1 := Lib.hid (fun i (hi : i < k) => show RowN w1 (G i) (G i + 1) 2 (some ⟨G i, 0, none⟩) (ln i) (icell .i64 (X i)) ∧ w.heap.size < G i ∧ G i < wr.heap.size from ⟨(HG.out i hi).1.below hb1, (HG.out i hi).2⟩)
        clear hR hr1 hrw hb1 CK
        go_wp2_with fail
        go_roundw
        case rel =>
          refine ⟨k + 1, fun j => if j = k then wr.heap.size else G j, by omega, by go_num, Lib.hid ((HF.out.set k _).congr (fun j hj => ?_)), Lib.hid (fun i hi => ?_), Lib.hid (fun i j hi hj hij => ?_), Lib.hid (HB1.out.setCell (Nat.le_refl _) _)⟩
          · simp only [tcl]
            by_cases e : j = k
            · rw [if_pos e, if_pos (by omega), if_pos e, e]
            · rw [if_neg e]
              by_cases e2 : j < k
              · rw [if_pos e2, if_pos (by omega), if_neg e]
              · rw [if_neg e2, if_neg (by omega)]
          · have ho : Out w.heap.size (w.heap.size + 1) w1 (w1.setCell ⟨w.heap.size, k, none⟩ (.slice (some ⟨wr.heap.size, 0, none⟩) (ln k) (ln k))) := (Out.refl _ _ _).set (p := ⟨w.heap.size, k, none⟩) (Nat.le_refl _) (Nat.lt_add_one _) _
            have hz : (w1.setCell ⟨w.heap.size, k, none⟩ (.slice (some ⟨wr.heap.size, 0, none⟩) (ln k) (ln k))).heap.size = w1.heap.size := by simp
            by_cases e : i = k
            · subst e
              simp only [if_true]
              exact ⟨HR1.out.out ho (.inr (by omega)), hlw, by omega⟩
            · simp only [if_neg e]
              have := HG1.out i (by omega)
              exact ⟨this.1.out ho (.inr (by omega)), this.2.1, by omega⟩
          · by_cases e1 : i = k
            · subst e1
              have := HG.out j (by omega)
              simp only [if_true, if_neg (fun e : j = i => hij e.symm)]
              omega
            · by_cases e2 : j = k
              · subst e2
                have := HG.out i (by omega)
                simp only [if_true, if_neg e1]
                omega
              · simp only [if_neg e1, if_neg e2]
                exact HD.out i j (by omega) (by omega) hij
        case measure => simp [intOf]; omega
      · obtain rfl : k = n := by omega
        go_wp2
        go_ret
        refine ⟨rfl, .inr ⟨w.heap.size, G, ln, rfl, ⟨Nat.le_refl _, HR.out.lt⟩, (RowN.of_row HR.out (Nat.le_refl _) (Nat.lt_add_one _)).congr (fun j hj => by simp only [tcl, if_pos hj]), fun i hi => ?_, HD.out⟩, HB.out⟩
        have := HG.out i hi
        exact ⟨this.1, by omega, this.2.2, by omega⟩
end Go.Proofs.Ytocdiflkegbffaa
