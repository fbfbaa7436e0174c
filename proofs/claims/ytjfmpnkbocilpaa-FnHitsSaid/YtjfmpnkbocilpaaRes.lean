/-
  Results: rows of memory that a call has made; how they are marked and read again.
-/
import Derived.Test.YtjfmpnkbocilpaaEq
namespace Go.Proofs.Ytjfmpnkbocilpaa
open Go.ChangeShapes Go.WideShapes Go.ChangeAt Go.RowKit

/-- Only blocks from lo to hi - 1, and new ones, have turned. -/
structure Out (lo hi : Nat) (w w' : World) : Prop where
  os : w'.os = w.os
  tape : w'.tape = w.tape
  output : w'.output = w.output
  size : w.heap.size ≤ w'.heap.size
  block : ∀ i, i < w.heap.size → (i < lo ∨ hi ≤ i) → w'.heap[i]? = w.heap[i]?

/-- The slice at a has m cells of one block from lo to hi - 1, not frozen; they hold f. -/
def RowN (w : World) (lo hi : Nat) (t : TypeId) (a : Option Addr) (m : Nat) (f : Nat → Value) : Prop :=
  m = 0 ∨ ∃ g, a = some ⟨g, 0, none⟩ ∧ lo ≤ g ∧ g < hi ∧ ∃ N F, m ≤ N ∧ w.rowIs g t N F ∧ ∀ i, i < m → F i = f i

section
variable {w w' : World} {lo hi lo' hi' m n B : Nat} {t : TypeId} {a : Option Addr} {f f' : Nat → Value} {k : IntKind} {xs : List Int}
theorem Out.refl (lo hi : Nat) (w : World) : Out lo hi w w := ⟨rfl, rfl, rfl, Nat.le_refl _, fun _ _ _ => rfl⟩
theorem Out.trans {a b c : World} (h : Out lo hi a b) (k : Out lo hi b c) : Out lo hi a c :=
  ⟨k.os.trans h.os, k.tape.trans h.tape, k.output.trans h.output, Nat.le_trans h.size k.size, fun i hi hn => (k.block i (Nat.lt_of_lt_of_le hi h.size) hn).trans (h.block i hi hn)⟩
theorem Out.set {w0 : World} (h : Out lo hi w0 w) {p : Addr} (h1 : lo ≤ p.block) (h2 : p.block < hi) (u : Value) : Out lo hi w0 (w.setCell p u) :=
  ⟨h.os, h.tape, h.output, by simpa [World.setCell] using h.size, fun i hi hn => (Below.heap_setCell w p u i (by omega)).trans (h.block i hi hn)⟩
theorem Out.drew {w0 : World} (h : Out lo hi w0 w) : Out lo hi w0 w.drew := ⟨h.os, h.tape, h.output, h.size, h.block⟩
theorem Out.wide {w0 : World} (h : Out lo hi w0 w) (h1 : lo' ≤ lo) (h2 : hi ≤ hi') : Out lo' hi' w0 w := ⟨h.os, h.tape, h.output, h.size, fun i hi hn => h.block i hi (by omega)⟩
theorem Out.below {w0 : World} (h : Below w0.heap.size w0 w) (k : Out lo hi w w') (hB : w0.heap.size ≤ lo) : Below w0.heap.size w0 w' :=
  ⟨k.os.trans h.os, k.tape.trans h.tape, k.output.trans h.output, Nat.le_trans h.size k.size, fun i hi => (k.block i (Nat.lt_of_lt_of_le hi h.size) (by omega)).trans (h.block i hi)⟩
theorem RowN.out (h : RowN w lo hi t a m f) (k : Out lo' hi' w w') (hd : hi ≤ lo' ∨ hi' ≤ lo) : RowN w' lo hi t a m f := by
  rcases h with h | ⟨g, h1, h2, h2', N, F, h3, h4, h5⟩
  · exact .inl h
  · exact .inr ⟨g, h1, h2, h2', N, F, h3, h4.of_block (k.block g h4.lt (by omega)), h5⟩
theorem Ints.out (h : Ints w B k a n xs) (ko : Out lo hi w w') (hB : B ≤ lo) (hz : B ≤ w.heap.size) : Ints w' B k a n xs :=
  h.keep fun p hp => World.cell?_of_block (w := w) (ko.block p.block (by omega) (.inl (by omega)))
theorem RowN.congr (h : RowN w lo hi t a m f) (e : ∀ i, i < m → f i = f' i) : RowN w lo hi t a m f' := by
  rcases h with h | ⟨g, h1, h2, h2', N, F, h3, h4, h5⟩
  · exact .inl h
  · exact .inr ⟨g, h1, h2, h2', N, F, h3, h4, fun i hi => (h5 i hi).trans (e i hi)⟩
theorem RowN.of_row {g : Nat} (h : w.rowIs g t m f) (h1 : lo ≤ g) (h2 : g < hi) : RowN w lo hi t (some ⟨g, 0, none⟩) m f := .inr ⟨g, rfl, h1, h2, m, f, Nat.le_refl _, h, fun _ _ => rfl⟩
theorem RowN.wide (h : RowN w lo hi t a m f) (h1 : lo' ≤ lo) (h2 : hi ≤ hi') : RowN w lo' hi' t a m f := by
  rcases h with h | ⟨g, e1, e2, e3, h⟩
  · exact .inl h
  · exact .inr ⟨g, e1, by omega, by omega, h⟩
theorem RowN.below (h : RowN w lo hi t a m f) (hb : Below w.heap.size w w') : RowN w' lo hi t a m f := by
  rcases h with h | ⟨g, h1, h2, h2', N, F, h3, h4, h5⟩
  · exact .inl h
  · exact .inr ⟨g, h1, h2, h2', N, F, h3, rowIs_below h4 hb h4.lt, h5⟩
/-- what a result reads as -/
theorem RowN.ints (h : RowN w lo hi t a n (icell .i64 xs)) (hl : xs.length = n) : Ints w w.heap.size .i64 a n xs := by
  rcases h with h | ⟨g, rfl, _, _, N, F, h3, h4, h5⟩
  · exact ⟨hl, fun hn => absurd hn (by omega)⟩
  · exact ⟨hl, fun _ => ⟨g, 0, rfl, h4.lt, fun i hi => by rw [Nat.zero_add, h4.cell (by omega), h5 i hi]; rfl⟩⟩
theorem RowN.blk (h : RowN w lo hi t a m f) (hm : 0 < m) : ∃ g, a = some ⟨g, 0, none⟩ ∧ lo ≤ g ∧ g < hi ∧ g < w.heap.size ∧ ∀ i, i < m → w.cell? ⟨g, i, none⟩ = some (f i) ∧ w.frozen? ⟨g, i, none⟩ = false := by
  rcases h with h | ⟨g, rfl, h2, h2', N, F, h3, h4, h5⟩
  · omega
  · exact ⟨g, rfl, h2, h2', h4.lt, fun i hi => ⟨by rw [h4.cell (by omega), h5 i hi], h4.frozen i⟩⟩
theorem RowN.set {g : Nat} (h : RowN w lo hi t (some ⟨g, 0, none⟩) m f) {i : Nat} (hi' : i < m) (v : Value) : RowN (w.setCell ⟨g, i, none⟩ v) lo hi t (some ⟨g, 0, none⟩) m (fun j => if j = i then v else f j) := by
  rcases h with h | ⟨g', h1, h2, h2', N, F, h3, h4, h5⟩
  · omega
  · injection h1 with h1
    injection h1 with h1
    subst h1
    refine .inr ⟨g, rfl, h2, h2', N, _, h3, h4.set i v, fun j hj => ?_⟩
    by_cases e : j = i
    · simp [e]
    · simp only [if_neg e]; exact h5 j hj
theorem ints_drew (h : Ints w B k a n xs) : Ints w.drew B k a n xs := h
theorem RowN.drew (h : RowN w lo hi t a m f) : RowN w.drew lo hi t a m f := h
theorem RowN.of_own {e : TypeId} {size c : Nat} {vs : List Value} (h : w.ownsRow lo e size (.slice a n c) n vs) : RowN w lo w.heap.size e a (n * size) (fun i => vs.getD i undef) := by
  obtain ⟨h0, ⟨h1, h2⟩ | ⟨g, cap, cur, h1, h2, h3, h4, h5, h6, h7⟩⟩ := h
  · exact .inl (by rw [h2, Nat.zero_mul])
  · injection h1 with h1 _ _
    subst h1
    have hle : n * size ≤ cap * size := Nat.mul_le_mul_right _ h4
    have hrow : w.rowIs g e (cap * size) (fun i => cur.toList.getD i undef) := ⟨cur, h3, h6, fun i hi => by
      show cur[i]? = some (cur.toList.getD i undef)
      rw [List.getD_eq_getElem?_getD, List.getElem?_eq_getElem (by simpa [h6] using hi), Array.getElem?_eq_getElem (by omega)]
      simp⟩
    refine .inr ⟨g, rfl, h2, hrow.lt, cap * size, _, hle, hrow, fun i hi => ?_⟩
    subst h7
    simp only [List.getD_eq_getElem?_getD, List.getElem?_take_of_lt hi]
end

/-- the cells of the numbers from k on -/
def marks (k : Int) (i : Nat) : Value := .int .i64 (k + i)

theorem szInt64S_no (a : Option Addr) (n c : Nat) (left : Int) (w : World) (hl : left ≤ 1048576) (hl0 : 0 ≤ left) (hn : n ≤ maxLen) (h : left < n) :
    Calls Try.prog 16 #[.slice a n c, .int .i64 left] w fun e w' => e = .returned (.int .i64 (-1)) ∧ w = w' := by
  unfold maxLen at hn
  go_enter Try.func16, Try.ntmps16
  go_wp2
  go_ret
  exact ⟨rfl, rfl⟩
theorem szInt64S_yes (a : Option Addr) (n c : Nat) (left : Int) (w : World) (hl : left ≤ 1048576) (hl0 : 0 ≤ left) (h : n ≤ left) :
    Calls Try.prog 16 #[.slice a n c, .int .i64 left] w fun e w' => e = .returned (.int .i64 (left - n)) ∧ w = w' := by
  go_enter Try.func16, Try.ntmps16
  go_wp2
  go_ret
  exact ⟨rfl, rfl⟩

theorem toInt64S_R (a : Option Addr) (n c : Nat) (xs : List Int) (w : World) (h : Ints w w.heap.size .i64 a n xs) (hn : n ≤ 1048576) :
    Calls Try.prog 22 #[.slice a n c] w fun e w' => e = .returned (.slice (some ⟨w.heap.size, 0, none⟩) n n) ∧ RowN w' w.heap.size w'.heap.size 2 (some ⟨w.heap.size, 0, none⟩) n (icell .i64 xs) ∧ Below w.heap.size w w' :=
  (toInt64S_any a n c xs w h hn).mono fun _ _ ⟨h1, h2, h3⟩ => ⟨h1, .of_row h2 (Nat.le_refl _) h2.lt, h3⟩
theorem eqInt64S_b (a a' : Option Addr) (n c c' B B' : Nat) (xs : List Int) (w : World) (h : Ints w B .i64 a n xs) (h' : Ints w B' .i64 a' n xs) (hn : n ≤ 1048576) :
    Calls Try.prog 28 #[.slice a n c, .slice a' n c'] w fun e w' => e = .returned (.bool true) ∧ Below w.heap.size w w' :=
  (eqInt64S_same a a' n c c' B B' xs w h h' hn).mono fun _ _ ⟨h1, m, h2⟩ => ⟨h1, h2 ▸ below_drewN (Below.refl _ _) m⟩


end Go.Proofs.Ytjfmpnkbocilpaa
