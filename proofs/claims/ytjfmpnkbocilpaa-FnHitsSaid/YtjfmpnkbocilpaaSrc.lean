/-
  The walks of the source of draws: l01From and l01Next, and big.
-/
import Derived.Test.YtjfmpnkbocilpaaMem
import Derived.RegionTactic
import Derived.BigRegion
import Derived.OpenShut
namespace Go.Proofs.Ytjfmpnkbocilpaa
open Go.ChangeShapes Go.WideShapes Go.ChangeAt Go.RowKit

/-- the three cells of a source of draws -/
def src3 (v : Value) (i s : Int) : Nat → Value
  | 0 => v
  | 1 => .int .i64 i
  | _ => .int .i64 s
/-- block g holds a source of draws over the code '.slice a n c' -/
def SrcAt (w : World) (g : Nat) (a : Option Addr) (n c : Nat) : Prop :=
  ∃ (i : Nat) (s : Int), i ≤ n ∧ 0 ≤ s ∧ s < 2147483647 ∧ w.rowIs g 86 3 (src3 (.slice a n c) i s)
theorem src3_new (w : World) (v : Value) (i s : Int) : (w.alloc (.cells #[v, .int .i64 i, .int .i64 s] 86)).rowIs w.heap.size 86 3 (src3 v i s) :=
  World.rowIs_alloc w _ _ _ (fun j hj => by
    match j, hj with
    | 0, _ => rfl
    | 1, _ => rfl
    | 2, _ => rfl)
theorem src3_seed {v : Value} {i s s' : Int} {w : World} {g t : Nat} (h : w.rowIs g t 3 (src3 v i s)) : (w.setCell ⟨g, 2, none⟩ (.int .i64 s')).rowIs g t 3 (src3 v i s') :=
  (h.set 2 (.int .i64 s')).congr (fun j hj => by
    match j, hj with
    | 0, _ => rfl
    | 1, _ => rfl
    | 2, _ => rfl)
theorem src3_at {v : Value} {i i' s : Int} {w : World} {g t : Nat} (h : w.rowIs g t 3 (src3 v i s)) : (w.setCell ⟨g, 1, none⟩ (.int .i64 i')).rowIs g t 3 (src3 v i' s) :=
  (h.set 1 (.int .i64 i')).congr (fun j hj => by
    match j, hj with
    | 0, _ => rfl
    | 1, _ => rfl
    | 2, _ => rfl)
theorem src3_cells {v : Value} {i s : Int} {w : World} {g t : Nat} (h : w.rowIs g t 3 (src3 v i s)) : w.cell? ⟨g, 0, none⟩ = some v ∧ w.cell? ⟨g, 1, none⟩ = some (.int .i64 i) ∧ w.cell? ⟨g, 2, none⟩ = some (.int .i64 s) ∧ w.frozen? ⟨g, 1, none⟩ = false ∧ w.frozen? ⟨g, 2, none⟩ = false :=
  ⟨h.cell (i := 0) (by omega), h.cell (i := 1) (by omega), h.cell (i := 2) (by omega), h.frozen 1, h.frozen 2⟩

theorem SrcAt.mk {w : World} {g : Nat} {a : Option Addr} {n c : Nat} {i s : Int} (h : w.rowIs g 86 3 (src3 (.slice a n c) i s)) (h0 : 0 ≤ i) (h1 : i ≤ n) (s0 : 0 ≤ s) (s1 : s < 2147483647) : SrcAt w g a n c := by
  obtain ⟨k, rfl⟩ := Int.eq_ofNat_of_zero_le h0
  exact ⟨k, s, by omega, s0, s1, h⟩
theorem mod_bd (x : Int) : 0 ≤ x % 2147483647 ∧ x % 2147483647 < 2147483647 := ⟨Int.emod_nonneg _ (by omega), Int.emod_lt_of_pos _ (by omega)⟩
theorem byte_bd {xs : List Int} {i : Nat} (h : (Lit.int .u8 (xs.getD i 0)).wf = true) : 0 ≤ xs.getD i 0 ∧ xs.getD i 0 ≤ 255 := bounds_u8 h

theorem big_any (a : Option Addr) (n c : Nat) (w : World) : Calls Try.prog 11 #[.slice a n c] w fun e w' => e = .returned (.bool (decide (4096 < (n : Int)))) ∧ w = w' := by
  go_enter Try.func11, Try.ntmps11
  go_wp2
  go_ret
  exact ⟨rfl, rfl⟩

set_option maxHeartbeats 800000 in
theorem l01From_any (a : Option Addr) (n c : Nat) (xs : List Int) (w : World) (h : Ints w w.heap.size .u8 a n xs) (hx : ∀ i, i < n → (Lit.int .u8 (xs.getD i 0)).wf = true) (hn : n ≤ 4096) :
    Calls Try.prog 30 #[.slice a n c] w fun e w' => e = .returned (.pointer (some ⟨w.heap.size, 0, none⟩)) ∧ SrcAt w' w.heap.size a n c ∧ Below w.heap.size w w' := by
  rcases h.cases with ⟨rfl, rfl⟩ | ⟨hn0, b, off, rfl, hb, hc0⟩
  · go_enter Try.func30, Try.ntmps30
    go_wp2
    go_loop [4] (fun i => i = .int .i64 0) (fun _ => 0)
    case atStart => rfl
    case round =>
      subst hrel
      go_wp2
      go_ret
      exact ⟨rfl, ⟨0, 24157, by omega, by omega, by omega, src3_new _ _ _ _⟩, (Below.refl _ _).alloc (Nat.le_refl _) _⟩
  · have hc := Lib.hid hc0
    clear hc0 h
    go_enter Try.func30, Try.ntmps30
    go_wp2
    go_loopw [4] (fun i wr => ∃ k : Nat, ∃ s : Int, k ≤ n ∧ k ≤ 64 ∧ i = .int .i64 k ∧ 0 ≤ s ∧ s < 2147483647 ∧ wr.rowIs w.heap.size 86 3 (src3 (.slice (some ⟨b, off, none⟩) n c) 0 s) ∧ Below w.heap.size w wr) (fun i _ => n - (intOf i).toNat)
    case atStart => exact ⟨0, 24157, Nat.zero_le _, by omega, rfl, by omega, by omega, src3_new _ _ _ _, (Below.refl _ _).alloc (Nat.le_refl _) _⟩
    case round =>
      obtain ⟨k, s, hk, hk6, rfl, hs1, hs2, hblk, hbel⟩ := hrel
      by_cases hlt : k < n
      · by_cases hlt6 : k < 64
        · have hcx : wr.cell? ⟨b, off + k, none⟩ = some (.int .u8 (xs.getD k 0)) := (hbel.cell (p := ⟨b, off + k, none⟩) hb).trans (hc.out k hlt)
          obtain ⟨x1, x2⟩ := byte_bd (hx k hlt)
          obtain ⟨x, hx'⟩ : ∃ x, xs.getD k 0 = x := ⟨_, rfl⟩
          rw [hx'] at hcx x1 x2
          clear hx'
          obtain ⟨c0, c1, c2, f1, f2⟩ := src3_cells hblk
          go_wp2
          go_region
          all_goals
            go_wp2
            go_roundw
            case rel => exact ⟨k + 1, _, by omega, by omega, by go_num, Int.emod_nonneg _ (by omega), Int.emod_lt_of_pos _ (by omega), (src3_seed hblk).drew, (hbel.setCell (Nat.le_refl _) _).drew⟩
            case measure => simp [intOf]; omega
        · go_wp2
          go_ret
          exact ⟨rfl, ⟨0, s, by omega, by omega, by omega, hblk⟩, hbel⟩
      · go_wp2
        go_ret
        exact ⟨rfl, ⟨0, s, by omega, by omega, by omega, hblk⟩, hbel⟩

/-- what a draw below m leaves: a number from 0 to m - 1 (0 if m is at most 1); only the source has turned. -/
def DrawPost (m : Int) (g : Nat) (a : Option Addr) (n c : Nat) (w : World) (e : Ending) (w' : World) : Prop :=
  ∃ x : Int, e = .returned (.int .i64 x) ∧ 0 ≤ x ∧ (x < m ∨ x = 0) ∧ SrcAt w' g a n c ∧ w.grownBy w' (some g)

set_option maxHeartbeats 1600000 in
theorem l01Next_any (g : Nat) (a : Option Addr) (n c B : Nat) (xs : List Int) (m : Int) (w : World) (hs : SrcAt w g a n c) (h : Ints w B .u8 a n xs) (hB : B ≤ g) (hx : ∀ i, i < n → (Lit.int .u8 (xs.getD i 0)).wf = true) (hn : n ≤ 4096) (hm : m ≤ 9223372036854775807) :
    Calls Try.prog 50 #[.pointer (some ⟨g, 0, none⟩), .int .i64 m] w fun e w' => DrawPost m g a n c w e w' := by
  obtain ⟨i, s, hi, s1, s2, hrow⟩ := hs
  obtain ⟨c0, c1, c2, f1, f2⟩ := src3_cells hrow
  by_cases hm1 : m ≤ 1
  · go_enter Try.func50, Try.ntmps50
    go_wp2
    go_ret
    exact ⟨0, rfl, by omega, .inr rfl, ⟨i, s, hi, s1, s2, hrow⟩, by_refl _ _⟩
  · by_cases hin : i < n
    · obtain ⟨b, off, rfl, hb, hc⟩ := h.2 (by omega)
      have hcx := hc i hin
      obtain ⟨x1, x2⟩ := byte_bd (hx i hin)
      obtain ⟨x, hx'⟩ : ∃ x, xs.getD i 0 = x := ⟨_, rfl⟩
      rw [hx'] at hcx x1 x2
      clear hx' hc h hx
      have hne : b ≠ g := by omega
      by_cases h256 : m ≤ 256
      · by_cases hpar : ((i : Int) + 1) % 2 = 0
        · go_enter Try.func50, Try.ntmps50
          go_wp2
          go_quiet (fail)
          go_wp2
          go_quiet (fail)
          go_wp2
          go_quiet (fail)
          go_wp2
          go_ret
          refine ⟨x % m, rfl, Int.emod_nonneg _ (by omega), .inl (Int.emod_lt_of_pos _ (by omega)), ?_, ?_⟩
          · refine SrcAt.mk (i := (i : Int) + 1) (s := (s * 48271 + 17) % 2147483647) ?_ (by omega) (by omega) (mod_bd _).1 (mod_bd _).2
            with_reducible refine rowIs_drewN ?_ _
            with_reducible refine src3_at (i := (i : Int)) ?_
            with_reducible refine rowIs_drewN ?_ _
            with_reducible refine src3_seed (s := s) ?_
            exact hrow
          · with_reducible refine by_drewN ?_ _
            with_reducible refine by_set ?_ rfl _
            with_reducible refine by_drewN ?_ _
            with_reducible refine by_set ?_ rfl _
            exact by_refl _ _
        · have hpar2 : (((i : Int) + 1) % 2 == 0) = false := by simpa using hpar
          go_enter Try.func50, Try.ntmps50
          go_wp2
          go_quiet (fail)
          go_wp2
          go_quiet (fail)
          go_wp2
          go_ret
          refine ⟨((s * 48271 + 17) % 2147483647 / 11 + x) % m, rfl, Int.emod_nonneg _ (by omega), .inl (Int.emod_lt_of_pos _ (by omega)), ?_, ?_⟩
          · refine SrcAt.mk (i := (i : Int) + 1) (s := (s * 48271 + 17) % 2147483647) ?_ (by omega) (by omega) (mod_bd _).1 (mod_bd _).2
            with_reducible refine src3_at (i := (i : Int)) ?_
            with_reducible refine rowIs_drewN ?_ _
            with_reducible refine src3_seed (s := s) ?_
            exact hrow
          · with_reducible refine by_set ?_ rfl _
            with_reducible refine by_drewN ?_ _
            with_reducible refine by_set ?_ rfl _
            exact by_refl _ _
      · go_enter Try.func50, Try.ntmps50
        go_wp2
        go_quiet (fail)
        go_wp2
        go_quiet (fail)
        go_wp2
        go_ret
        refine ⟨((s * 48271 + 17) % 2147483647 / 11 + x) % m, rfl, Int.emod_nonneg _ (by omega), .inl (Int.emod_lt_of_pos _ (by omega)), ?_, ?_⟩
        · refine SrcAt.mk (i := (i : Int) + 1) (s := (s * 48271 + 17) % 2147483647) ?_ (by omega) (by omega) (mod_bd _).1 (mod_bd _).2
          with_reducible refine src3_at (i := (i : Int)) ?_
          with_reducible refine rowIs_drewN ?_ _
          with_reducible refine src3_seed (s := s) ?_
          exact hrow
        · with_reducible refine by_set ?_ rfl _
          with_reducible refine by_drewN ?_ _
          with_reducible refine by_set ?_ rfl _
          exact by_refl _ _
    · go_enter Try.func50, Try.ntmps50
      go_wp2
      go_quiet (fail)
      go_wp2
      go_ret
      refine ⟨((s * 48271 + 17) % 2147483647 / 11) % m, rfl, Int.emod_nonneg _ (by omega), .inl (Int.emod_lt_of_pos _ (by omega)), ?_, ?_⟩
      · refine SrcAt.mk (i := (i : Int)) (s := (s * 48271 + 17) % 2147483647) ?_ (by omega) (by omega) (mod_bd _).1 (mod_bd _).2
        with_reducible refine rowIs_drewN ?_ _
        with_reducible refine src3_seed (s := s) ?_
        exact hrow
      · with_reducible refine by_drewN ?_ _
        with_reducible refine by_set ?_ rfl _
        exact by_refl _ _
end Go.Proofs.Ytjfmpnkbocilpaa
