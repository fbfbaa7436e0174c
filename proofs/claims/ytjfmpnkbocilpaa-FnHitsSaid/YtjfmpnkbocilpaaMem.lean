/-
  Words for slices of integers in memory, and how they are kept.
-/
import Derived.Test.YtjfmpnkbocilpaaBase
import Derived.Below
import Derived.Deep.OwnRows
import Derived.Deep.Draws
import Derived.Deep.LoopGhost
import Derived.Laws.OwnMore
namespace Go.Proofs.Ytjfmpnkbocilpaa
open Go.ChangeShapes Go.WideShapes Go.ChangeAt Go.RowKit

theorem bcell {W w1 : World} (hb : Below W.heap.size W w1) : (∀ b o, b < W.heap.size → w1.cell? ⟨b, o, none⟩ = W.cell? ⟨b, o, none⟩) ∧ (∀ b o, b < W.heap.size → w1.frozen? ⟨b, o, none⟩ = W.frozen? ⟨b, o, none⟩) :=
  ⟨fun b o h => hb.cell (p := ⟨b, o, none⟩) h, fun b o h => hb.frozen (p := ⟨b, o, none⟩) h⟩

theorem cell_lt {w : World} {a : Addr} {v : Value} (h : w.cell? a = some v) : a.block < w.heap.size := by
  rcases Nat.lt_or_ge a.block w.heap.size with hlt | hge
  · exact hlt
  · unfold World.cell? at h
    rw [Array.getElem?_eq_none hge] at h
    cases h

/-- The slice '.slice a n _' reads as the integers xs, and lies below block B. -/
def Ints (w : World) (B : Nat) (k : IntKind) (a : Option Addr) (n : Nat) (xs : List Int) : Prop :=
  xs.length = n ∧ (0 < n → ∃ b off, a = some ⟨b, off, none⟩ ∧ b < B ∧ ∀ i, i < n → w.cell? ⟨b, off + i, none⟩ = some (.int k (xs.getD i 0)))

section
variable {w w' : World} {B B' n : Nat} {k : IntKind} {a : Option Addr} {xs : List Int}
theorem Ints.len (h : Ints w B k a n xs) : xs.length = n := h.1
theorem Ints.nil : Ints w B k a 0 [] := ⟨rfl, fun h => absurd h (by omega)⟩
theorem Ints.cases (h : Ints w B k a n xs) : (n = 0 ∧ xs = []) ∨ (0 < n ∧ ∃ b off, a = some ⟨b, off, none⟩ ∧ b < B ∧ ∀ i, i < n → w.cell? ⟨b, off + i, none⟩ = some (.int k (xs.getD i 0))) := by
  rcases Nat.eq_zero_or_pos n with e | e
  · exact .inl ⟨e, List.eq_nil_of_length_eq_zero (h.1.trans e)⟩
  · exact .inr ⟨e, h.2 e⟩
theorem Ints.keep (h : Ints w B k a n xs) (hk : ∀ p : Addr, p.block < B → w'.cell? p = w.cell? p) : Ints w' B k a n xs :=
  ⟨h.1, fun hn => by
    obtain ⟨b, off, e, hb, hc⟩ := h.2 hn
    exact ⟨b, off, e, hb, fun i hi => (hk ⟨b, off + i, none⟩ hb).trans (hc i hi)⟩⟩
theorem Ints.more (h : Ints w B k a n xs) (hB : B ≤ B') : Ints w B' k a n xs :=
  ⟨h.1, fun hn => by
    obtain ⟨b, off, e, hb, hc⟩ := h.2 hn
    exact ⟨b, off, e, by omega, hc⟩⟩
theorem Ints.below (h : Ints w B k a n xs) (hb : Below B w w') : Ints w' B k a n xs := h.keep fun _ hp => hb.cell hp
theorem Ints.of_row {g t : Nat} {f : Nat → Value} (h : w.rowIs g t n f) (hl : xs.length = n) (hf : ∀ i, i < n → f i = .int k (xs.getD i 0)) (hB : g < B) : Ints w B k (some ⟨g, 0, none⟩) n xs :=
  ⟨hl, fun _ => ⟨g, 0, rfl, hB, fun i hi => by rw [Nat.zero_add, h.cell hi, hf i hi]⟩⟩
end
theorem rowIs_drewN {w : World} {b : Nat} {t : TypeId} {n : Nat} {f : Nat → Value} (h : w.rowIs b t n f) (k : Nat) : (w.drewN k).rowIs b t n f := h
theorem below_drewN {B : Nat} {a w : World} (h : Below B a w) (n : Nat) : Below B a (w.drewN n) := ⟨h.os, h.tape, h.output, h.size, h.block⟩
theorem rowIs_below {w w' : World} {B b : Nat} {t : TypeId} {n : Nat} {f : Nat → Value} (h : w.rowIs b t n f) (hb : Below B w w') (hB : b < B) : w'.rowIs b t n f := h.of_block (hb.block b hB)

theorem by_refl (w : World) (r : Option Nat) : w.grownBy w r := ⟨rfl, rfl, rfl, Nat.le_refl _, fun _ _ _ => rfl⟩
theorem by_trans {a b c : World} {g : Nat} (h : a.grownBy b (some g)) (k : b.grownBy c (some g)) : a.grownBy c (some g) :=
  ⟨k.os.trans h.os, k.tape.trans h.tape, k.output.trans h.output, Nat.le_trans h.size k.size, fun i hi hn => (k.block i (Nat.lt_of_lt_of_le hi h.size) hn).trans (h.block i hi hn)⟩
theorem by_drew {a w : World} {r : Option Nat} (h : a.grownBy w r) : a.grownBy w.drew r := ⟨h.os, h.tape, h.output, h.size, h.block⟩
theorem by_drewN {a w : World} {r : Option Nat} (h : a.grownBy w r) (n : Nat) : a.grownBy (w.drewN n) r := ⟨h.os, h.tape, h.output, h.size, h.block⟩
theorem by_set {a w : World} {g : Nat} (h : a.grownBy w (some g)) {p : Addr} (hp : p.block = g) (u : Value) : a.grownBy (w.setCell p u) (some g) :=
  ⟨h.os, h.tape, h.output, by simpa [World.setCell] using h.size, fun i hi hne => (Below.heap_setCell w p u i (by
    rintro rfl
    exact hne (by rw [hp]))).trans (h.block i hi hne)⟩
theorem by_below {a w w1 : World} {g B : Nat} (h : Below B a w) (k : w.grownBy w1 (some g)) (hB : B ≤ g) (hz : B ≤ w.heap.size) : Below B a w1 :=
  h.grown k hz (fun _ e => by injection e with e; omega)
theorem by_cell {a w : World} {g : Nat} (h : a.grownBy w (some g)) {p : Addr} (hp : p.block < a.heap.size) (hn : p.block ≠ g) : w.cell? p = a.cell? p :=
  World.cell?_of_block (w := a) (h.block p.block hp (fun e => hn (by injection e)))
theorem Ints.grown {w w' : World} {B g n : Nat} {k : IntKind} {a : Option Addr} {xs : List Int} (h : Ints w B k a n xs) (hg : w.grownBy w' (some g)) (hB : B ≤ g) (hz : B ≤ w.heap.size) : Ints w' B k a n xs :=
  h.keep fun p hp => by_cell hg (by omega) (by omega)

theorem new_cell (w : World) (cs : Array Value) (t : TypeId) (k : Nat) : (w.alloc (.cells cs t)).cell? ⟨w.heap.size, k, none⟩ = cs[k]? := cell_of_row _ _ _ _ _ _ (heap_alloc_new w _)
theorem new_kept {w w' : World} {g : Nat} {cs : Array Value} {t : TypeId} (h : (w.alloc (.cells cs t)).grownBy w' (some g)) (hg : g < w.heap.size) (k : Nat) : w'.cell? ⟨w.heap.size, k, none⟩ = cs[k]? :=
  (by_cell h (p := ⟨w.heap.size, k, none⟩) (by simp) (by simp; omega)).trans (new_cell w cs t k)

/-- the cell of integer i of xs -/
def icell (k : IntKind) (xs : List Int) (i : Nat) : Value := .int k (xs.getD i 0)
theorem icell_eq (k : IntKind) (xs : List Int) (i : Nat) : icell k xs i = .int k (xs.getD i 0) := rfl

theorem info_i64 : (Try.prog.info? 2).map (fun i => (i.zero, i.size, i.bytes)) = some (some (.int .i64 0), 1, 8) := by kernel_rfl
theorem make_i64 (n : Nat) (hn : n ≤ 1048576) (W : World) : (Instr.makeSlice 24 (.int .i64 (n : Int)) (.int .i64 (n : Int))).run Try.prog W = .ok (.slice (some ⟨W.heap.size, 0, none⟩) n n) (W.alloc (.cells (madeCells #[.int .i64 0] n) 2)) :=
  run_make_row' (P := Try.prog) 24 2 (.int .i64 0) 8 Try.underlying24 info_i64 rfl .i64 .i64 n (by omega) (by omega) W
theorem make_i64_0 (W : World) : (Instr.makeSlice 24 (.int .i64 0) (.int .i64 0)).run Try.prog W = .ok (.slice (some ⟨W.heap.size, 0, none⟩) 0 0) (W.alloc (.cells (madeCells #[.int .i64 0] 0) 2)) :=
  make_i64 0 (by omega) W
set_option maxHeartbeats 400000 in
theorem toInt64S_any (a : Option Addr) (n c : Nat) (xs : List Int) (w : World) (h : Ints w w.heap.size .i64 a n xs) (hn : n ≤ 1048576) :
    Calls Try.prog 22 #[.slice a n c] w fun e w' => e = .returned (.slice (some ⟨w.heap.size, 0, none⟩) n n) ∧ w'.rowIs w.heap.size 2 n (icell .i64 xs) ∧ Below w.heap.size w w' := by
  rcases h.cases with ⟨rfl, rfl⟩ | ⟨hn0, b, off, rfl, hb, hc⟩
  · have hmk := make_i64_0
    go_enter Try.func22, Try.ntmps22
    go_wp2
    go_loop [4] (fun i => i = .int .i64 0) (fun _ => 0)
    case atStart => rfl
    case round =>
      subst hrel
      go_wp2
      go_ret
      exact ⟨rfl, (World.rowIs_made w _ 0 _).congr (fun i hi => absurd hi (by omega)), (Below.refl _ _).alloc (Nat.le_refl _) _⟩
  · have hmk := make_i64 n hn
    clear h
    go_enter Try.func22, Try.ntmps22
    go_wp2
    go_loopw [4] (fun i wr => ∃ k : Nat, k ≤ n ∧ i = .int .i64 k ∧ ∃ f, wr.rowIs w.heap.size 2 n f ∧ (∀ j, j < k → f j = icell .i64 xs j) ∧ Below w.heap.size w wr) (fun i _ => n - (intOf i).toNat)
    case atStart => exact ⟨0, Nat.zero_le _, rfl, _, World.rowIs_made w _ n _, fun j hj => absurd hj (by omega), (Below.refl _ _).alloc (Nat.le_refl _) _⟩
    case round =>
      obtain ⟨k, hk, rfl, f, hrow, hf, hbel⟩ := hrel
      by_cases hlt : k < n
      · have hcx : wr.cell? ⟨b, off + k, none⟩ = some (icell .i64 xs k) := (hbel.cell (p := ⟨b, off + k, none⟩) hb).trans (hc k hlt)
        rw [icell_eq] at hcx
        have hcy := hrow.cell hlt
        have hfz := hrow.frozen k
        go_wp2
        go_roundw
        case rel =>
          refine ⟨k + 1, by omega, by go_num, _, hrow.set k (icell .i64 xs k), fun j hj => ?_, hbel.setCell (Nat.le_refl _) _⟩
          by_cases e : j = k
          · simp [e]
          · simp only [if_neg e]; exact hf j (by omega)
        case measure => simp [intOf]; omega
      · go_wp2
        go_ret
        exact ⟨rfl, hrow.congr (fun i hi => hf i (by omega)), hbel⟩
end Go.Proofs.Ytjfmpnkbocilpaa
