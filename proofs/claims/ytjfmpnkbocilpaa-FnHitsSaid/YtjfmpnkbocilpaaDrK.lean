/-
  Drawing while lists and records are made: what is kept. (Generic: no function of one seat.)
-/
import Derived.Test.YtjfmpnkbocilpaaDraw
import Derived.Test.YtjfmpnkbocilpaaGrow
namespace Go.Proofs.Ytjfmpnkbocilpaa
open Go.ChangeShapes Go.WideShapes Go.ChangeAt Go.RowKit
set_option linter.unusedVariables false

theorem Drawing.keepB {w0 w w1 : World} {g n c B : Nat} {a : Option Addr} {xs : List Int} (h : Drawing w0 g a n c xs w) (hb : Below B w w1) (hg : g < B) : Drawing w0 g a n c xs w1 := by
  obtain ⟨h1, h2, h3, h4, h5, h6⟩ := h
  exact ⟨h1.of_block (hb.block g hg), h2.below (hb.mono (by omega)), h3, h4, h5, h6.trans (hb.mono (by omega))⟩
theorem Drawing.drw {w0 w : World} {g n c : Nat} {a : Option Addr} {xs : List Int} (h : Drawing w0 g a n c xs w) (k : Nat) : Drawing w0 g a n c xs (w.drewN k) := h.after ⟨rfl, rfl, rfl, Nat.le_refl _, fun _ _ => rfl⟩
theorem row_cells {w : World} {lo hi m g i : Nat} {t : TypeId} {f : Nat → Value} (h : RowN w lo hi t (some ⟨g, 0, none⟩) m f) (hi' : i < m) : w.cell? ⟨g, i, none⟩ = some (f i) ∧ w.frozen? ⟨g, i, none⟩ = false := by
  obtain ⟨g', e, _, _, _, hc⟩ := h.blk (by omega)
  injection e with e
  injection e with e
  subst e
  exact hc i hi'
theorem Drawing.setB {w0 w : World} {g n c : Nat} {a : Option Addr} {xs : List Int} (h : Drawing w0 g a n c xs w) {p : Addr} (hp : g < p.block) (u : Value) : Drawing w0 g a n c xs (w.setCell p u) :=
  h.keepB (B := p.block) ((Below.refl p.block w).setCell (Nat.le_refl _) u) hp
theorem grown_al {w w' : World} {g : Nat} (h : w.grownBy w' (some g)) (o : Obj) : w.grownBy (w'.alloc o) (some g) :=
  ⟨h.os, h.tape, h.output, by rw [World.size_alloc]; have := h.size; omega, fun i hi hn => (Deep.blk_alloc_lt _ _ _ (Nat.lt_of_lt_of_le hi h.size)).trans (h.block i hi hn)⟩
theorem grown_be {w w' w'' : World} {g B : Nat} (h : w.grownBy w' (some g)) (hb : Below B w' w'') (hB : w.heap.size ≤ B) : w.grownBy w'' (some g) :=
  ⟨hb.os.trans h.os, hb.tape.trans h.tape, hb.output.trans h.output, Nat.le_trans h.size hb.size, fun i hi hn => (hb.block i (Nat.lt_of_lt_of_le hi hB)).trans (h.block i hi hn)⟩
theorem grown_se {w w' : World} {g : Nat} (h : w.grownBy w' (some g)) {p : Addr} (hp : w.heap.size ≤ p.block) (u : Value) : w.grownBy (w'.setCell p u) (some g) :=
  ⟨h.os, h.tape, h.output, by rw [World.size_setCell]; exact h.size, fun i hi hn => (Deep.blk_setCell_other _ _ _ _ (by omega)).trans (h.block i hi hn)⟩
/-- a list that can be read and lies in a block from lo on -/
def Iv (w : World) (lo : Nat) (A : Option Addr) (m : Nat) (ys : List Int) : Prop := Ints w w.heap.size .i64 A m ys ∧ ∀ b o t, A = some ⟨b, o, t⟩ → lo ≤ b
theorem Iv.grown {w w' : World} {g lo m : Nat} {A : Option Addr} {ys : List Int} (h : Iv w lo A m ys) (hg : w.grownBy w' (some g)) (hl : g < lo) : Iv w' lo A m ys := by
  obtain ⟨⟨h1, h2⟩, h3⟩ := h
  refine ⟨⟨h1, fun hm => ?_⟩, h3⟩
  obtain ⟨b, off, hA, hb, hc⟩ := h2 hm
  have hgb := h3 b off none hA
  exact ⟨b, off, hA, Nat.lt_of_lt_of_le hb hg.size, fun i hi => (by_cell hg (p := ⟨b, off + i, none⟩) hb (by show b ≠ g; omega)).trans (hc i hi)⟩
theorem Iv.below {w w' : World} {lo m : Nat} {A : Option Addr} {ys : List Int} (h : Iv w lo A m ys) (hb : Below w.heap.size w w') : Iv w' lo A m ys := ⟨(h.1.below hb).more hb.size, h.2⟩
theorem Iv.lower {w : World} {lo lo' m : Nat} {A : Option Addr} {ys : List Int} (h : Iv w lo A m ys) (hl : lo' ≤ lo) : Iv w lo' A m ys := ⟨h.1, fun b o t e => Nat.le_trans hl (h.2 b o t e)⟩
theorem iv_row {w : World} {lo hi m : Nat} {t : TypeId} {A : Option Addr} {ys : List Int} (h : RowN w lo hi t A m (icell .i64 ys)) (hl : ys.length = m) (h0 : 0 < m) : Iv w lo A m ys := by
  refine ⟨h.ints hl, fun b o t e => ?_⟩
  obtain ⟨g, e', h1, _⟩ := h.blk h0
  rw [e'] at e
  cases e
  exact h1
theorem icell_set {ys : List Int} {i m : Nat} (u : Int) (hl : ys.length = m) (hi : i < m) (j : Nat) : (if j = i then Value.int .i64 u else icell .i64 ys j) = icell .i64 (ys.set i u) j := by
  rw [icell, icell, List.getD_eq_getElem?_getD, List.getD_eq_getElem?_getD, List.getElem?_set]
  by_cases e : j = i
  · subst e; simp [hl, hi]
  · rw [if_neg e, if_neg (fun h => e h.symm)]

theorem Grows.grown {w w' : World} {base g : Nat} {v : Value} {xs : List Int} (h : Grows w base v xs) (hg : w.grownBy w' (some g)) (hl : g < base) : Grows w' base v xs := by
  obtain ⟨h0, h1 | ⟨g', cap', cur, h1, h2, h3, h4⟩⟩ := h
  · exact ⟨h0, .inl h1⟩
  · have hlt : g' < w.heap.size := by
      rcases Nat.lt_or_ge g' w.heap.size with h | h
      · exact h
      · rw [Array.getElem?_eq_none h] at h3; cases h3
    exact ⟨h0, .inr ⟨g', cap', cur, h1, h2, (hg.block g' hlt (fun e => by cases e; omega)).trans h3, h4⟩⟩
theorem Grows.shape {w : World} {base : Nat} {v : Value} {xs : List Int} (h : Grows w base v xs) (h0 : 0 < xs.length) : ∃ gl cap, v = .slice (some ⟨gl, 0, none⟩) xs.length cap ∧ base ≤ gl ∧ RowN w base w.heap.size 2 (some ⟨gl, 0, none⟩) xs.length (icell .i64 xs) := by
  obtain ⟨a, c, rfl, _, hr⟩ := h.out
  obtain ⟨g, rfl, h1, _⟩ := hr.blk h0
  exact ⟨g, c, rfl, h1, hr⟩
theorem Grows.put {w : World} {base gl cap : Nat} {xs : List Int} (h : Grows w base (.slice (some ⟨gl, 0, none⟩) xs.length cap) xs) (i : Nat) (u : Int) : Grows (w.setCell ⟨gl, i, none⟩ (.int .i64 u)) base (.slice (some ⟨gl, 0, none⟩) xs.length cap) (xs.set i u) := by
  have k := (World.ownsRow.stored h i (.int .i64 u)).1
  unfold Grows
  rw [List.length_set, List.map_set]
  exact k
theorem five_news (W : World) (j : Nat) (hj : j < 5) : (W.alloc (.cells #[.int .i64 0, .int .i64 0, .int .i64 0, .int .i64 0, .int .i64 0] 2)).cell? ((⟨W.heap.size, 0, none⟩ : Addr).add j) = some (.int .i64 ([0, 0, 0, 0, 0].getD j 0)) := by
  have e : (⟨W.heap.size, 0, none⟩ : Addr).add j = ⟨W.heap.size, j, none⟩ := by by_cases h0 : j = 0 <;> simp [Addr.add, h0]
  rw [e, new_cell]
  match j, hj with
  | 0, _ => rfl
  | 1, _ => rfl
  | 2, _ => rfl
  | 3, _ => rfl
  | 4, _ => rfl
theorem Iv.front {w : World} {lo m k : Nat} {A : Option Addr} {ys : List Int} (h : Iv w lo A m ys) (hk : k ≤ m) : Iv w lo A k (ys.take k) := by
  refine ⟨⟨by rw [List.length_take, h.1.1]; omega, fun h0 => ?_⟩, h.2⟩
  obtain ⟨b, off, e, hb, hc⟩ := h.1.2 (by omega)
  refine ⟨b, off, e, hb, fun i hi => ?_⟩
  rw [hc i (by omega), List.getD_eq_getElem?_getD, List.getD_eq_getElem?_getD, List.getElem?_take_of_lt hi]
theorem Grows.iv {w : World} {base : Nat} {v : Value} {xs : List Int} (h : Grows w base v xs) : ∃ A d, v = .slice A xs.length d ∧ Iv w base A xs.length xs := by
  have h' := h
  obtain ⟨h0, ⟨h1, h2⟩ | ⟨g', cap', cur, h1, h2, h3, h4, _⟩⟩ := h
  · subst h1
    have e : xs = [] := List.eq_nil_of_length_eq_zero h2
    subst e
    exact ⟨none, 0, rfl, ⟨rfl, fun hm => absurd hm (by simp)⟩, fun b o t e => by cases e⟩
  · obtain ⟨a, c, e, hc, hr⟩ := h'.out
    subst h1
    injection e with e1 e2 e3
    subst e1
    exact ⟨_, cap', rfl, hr.ints rfl, fun b o t e => by cases e; exact h2⟩
/-- only blocks b1 and b2 have turned -/
structure Tw (b1 b2 : Nat) (w w' : World) : Prop where
  os : w'.os = w.os
  tape : w'.tape = w.tape
  output : w'.output = w.output
  size : w'.heap.size = w.heap.size
  block : ∀ i, i ≠ b1 → i ≠ b2 → w'.heap[i]? = w.heap[i]?
section
variable {w w' : World} {b1 b2 : Nat}
theorem Tw.refl (b1 b2 : Nat) (w : World) : Tw b1 b2 w w := ⟨rfl, rfl, rfl, rfl, fun _ _ _ => rfl⟩
theorem Tw.set (h : Tw b1 b2 w w') {p : Addr} (hp : p.block = b1 ∨ p.block = b2) (u : Value) : Tw b1 b2 w (w'.setCell p u) :=
  ⟨h.os, h.tape, h.output, by rw [World.size_setCell]; exact h.size, fun i h1 h2 => (Deep.blk_setCell_other _ _ _ _ (by rcases hp with e | e <;> omega)).trans (h.block i h1 h2)⟩
theorem Tw.drew (h : Tw b1 b2 w w') : Tw b1 b2 w w'.drew := ⟨h.os, h.tape, h.output, h.size, h.block⟩
theorem Tw.drewN (h : Tw b1 b2 w w') (k : Nat) : Tw b1 b2 w (w'.drewN k) := ⟨h.os, h.tape, h.output, h.size, h.block⟩
theorem Tw.below (h : Tw b1 b2 w w') {B : Nat} (h1 : B ≤ b1) (h2 : B ≤ b2) : Below B w w' := ⟨h.os, h.tape, h.output, Nat.le_of_eq h.size.symm, fun i hi => h.block i (by omega) (by omega)⟩
theorem Tw.row (h : Tw b1 b2 w w') {lo hi m : Nat} {t : TypeId} {a : Option Addr} {f : Nat → Value} (hr : RowN w lo hi t a m f) (h1 : b1 < lo ∨ hi ≤ b1) (h2 : b2 < lo ∨ hi ≤ b2) : RowN w' lo hi t a m f := by
  rcases hr with hr | ⟨g, e1, e2, e3, N, F, h3, h4, h5⟩
  · exact .inl hr
  · exact .inr ⟨g, e1, e2, e3, N, F, h3, h4.of_block (h.block g (by omega) (by omega)), h5⟩
end
theorem rown_at {w : World} {lo hi m g : Nat} {t : TypeId} {f : Nat → Value} (h : RowN w lo hi t (some ⟨g, 0, none⟩) m f) (h0 : 0 < m) : RowN w g (g + 1) t (some ⟨g, 0, none⟩) m f := by
  rcases h with h | ⟨g', e1, e2, e3, N, F, h3, h4, h5⟩
  · omega
  · injection e1 with e1
    injection e1 with e1
    subst e1
    exact .inr ⟨_, rfl, Nat.le_refl _, Nat.lt_succ_self _, N, F, h3, h4, h5⟩
theorem RowN.grown {w w' : World} {lo hi m g : Nat} {t : TypeId} {a : Option Addr} {f : Nat → Value} (h : RowN w lo hi t a m f) (hg : w.grownBy w' (some g)) (hd : g < lo ∨ hi ≤ g) : RowN w' lo hi t a m f := by
  rcases h with h | ⟨g', e1, e2, e3, N, F, h3, h4, h5⟩
  · exact .inl h
  · exact .inr ⟨g', e1, e2, e3, N, F, h3, h4.of_block (hg.block g' h4.lt (fun e => by cases e; omega)), h5⟩
end Go.Proofs.Ytjfmpnkbocilpaa
