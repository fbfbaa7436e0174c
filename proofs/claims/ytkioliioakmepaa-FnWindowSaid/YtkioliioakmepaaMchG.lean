/-
  Drawing models and states of matches.
-/
import Derived.Test.YtkioliioakmepaaDraw
import Derived.Test.YtkioliioakmepaaGrow
import Derived.Test.YtkioliioakmepaaMchE
namespace Go.Proofs.Ytkioliioakmepaa
open Go.ChangeShapes Go.WideShapes Go.ChangeAt Go.RowKit
set_option linter.unusedVariables false

theorem ints_new4 (w : World) (p q r s : Int) : Ints (w.alloc (.cells #[.int .i64 p, .int .i64 q, .int .i64 r, .int .i64 s] 2)) (w.heap.size + 1) .i64 (some ⟨w.heap.size, 0, none⟩) 4 [p, q, r, s] :=
  ⟨rfl, fun _ => ⟨w.heap.size, 0, rfl, by omega, fun i hi => by
    rw [Nat.zero_add, new_cell]
    match i, hi with
    | 0, _ => rfl
    | 1, _ => rfl
    | 2, _ => rfl
    | 3, _ => rfl⟩⟩
theorem ints_new3 (w : World) (p q r : Int) : Ints (w.alloc (.cells #[.int .i64 p, .int .i64 q, .int .i64 r] 2)) (w.heap.size + 1) .i64 (some ⟨w.heap.size, 0, none⟩) 3 [p, q, r] :=
  ⟨rfl, fun _ => ⟨w.heap.size, 0, rfl, by omega, fun i hi => by
    rw [Nat.zero_add, new_cell]
    match i, hi with
    | 0, _ => rfl
    | 1, _ => rfl
    | 2, _ => rfl⟩⟩
theorem Ints.al {w : World} {B n : Nat} {k : IntKind} {a : Option Addr} {xs : List Int} (h : Ints w B k a n xs) (hB : B ≤ w.heap.size) (o : Obj) : Ints (w.alloc o) B k a n xs := h.below ((Below.refl B w).alloc hB o)
theorem Drawing.keep {w0 w w1 : World} {g n c B : Nat} {a : Option Addr} {xs : List Int} (h : Drawing w0 g a n c xs w) (hb : Below B w w1) (hg : g < B) : Drawing w0 g a n c xs w1 := by
  obtain ⟨h1, h2, h3, h4, h5, h6⟩ := h
  exact ⟨h1.of_block (hb.block g hg), h2.below (hb.mono (by omega)), h3, h4, h5, h6.trans (hb.mono (by omega))⟩
/-- the lists of goods: each cell of the outer one is a list that can be read -/
theorem goods_pick (w : World) (k : Nat) (hk : k < 8) : ∃ (b m : Nat) (xs : List Int), (((((((((w.alloc (.cells #[.int .i64 1, .int .i64 0, .int .i64 0, .int .i64 0] 2)).alloc (.cells #[.int .i64 1, .int .i64 1, .int .i64 0, .int .i64 0] 2)).alloc (.cells #[.int .i64 2, .int .i64 1, .int .i64 0, .int .i64 1] 2)).alloc (.cells #[.int .i64 3, .int .i64 1, .int .i64 0, .int .i64 0] 2)).alloc (.cells #[.int .i64 5, .int .i64 2, .int .i64 0, .int .i64 1] 2)).alloc (.cells #[.int .i64 0, .int .i64 1, .int .i64 0, .int .i64 1] 2)).alloc (.cells #[.int .i64 9, .int .i64 4, .int .i64 1, .int .i64 2] 2)).alloc (.cells #[.int .i64 0, .int .i64 0, .int .i64 0, .int .i64 2] 2)).alloc (.cells #[.slice (some ⟨w.heap.size, 0, none⟩) 4 4, .slice (some ⟨w.heap.size + 1, 0, none⟩) 4 4, .slice (some ⟨w.heap.size + 1 + 1, 0, none⟩) 4 4, .slice (some ⟨w.heap.size + 1 + 1 + 1, 0, none⟩) 4 4, .slice (some ⟨w.heap.size + 1 + 1 + 1 + 1, 0, none⟩) 4 4, .slice (some ⟨w.heap.size + 1 + 1 + 1 + 1 + 1, 0, none⟩) 4 4, .slice (some ⟨w.heap.size + 1 + 1 + 1 + 1 + 1 + 1, 0, none⟩) 4 4, .slice (some ⟨w.heap.size + 1 + 1 + 1 + 1 + 1 + 1 + 1, 0, none⟩) 4 4] 24)).cell? ⟨w.heap.size + 1 + 1 + 1 + 1 + 1 + 1 + 1 + 1, k, none⟩ = some (.slice (some ⟨b, 0, none⟩) m m) ∧ m ≤ 4 ∧ 0 < m ∧ w.heap.size ≤ b ∧ Ints (((((((((w.alloc (.cells #[.int .i64 1, .int .i64 0, .int .i64 0, .int .i64 0] 2)).alloc (.cells #[.int .i64 1, .int .i64 1, .int .i64 0, .int .i64 0] 2)).alloc (.cells #[.int .i64 2, .int .i64 1, .int .i64 0, .int .i64 1] 2)).alloc (.cells #[.int .i64 3, .int .i64 1, .int .i64 0, .int .i64 0] 2)).alloc (.cells #[.int .i64 5, .int .i64 2, .int .i64 0, .int .i64 1] 2)).alloc (.cells #[.int .i64 0, .int .i64 1, .int .i64 0, .int .i64 1] 2)).alloc (.cells #[.int .i64 9, .int .i64 4, .int .i64 1, .int .i64 2] 2)).alloc (.cells #[.int .i64 0, .int .i64 0, .int .i64 0, .int .i64 2] 2)).alloc (.cells #[.slice (some ⟨w.heap.size, 0, none⟩) 4 4, .slice (some ⟨w.heap.size + 1, 0, none⟩) 4 4, .slice (some ⟨w.heap.size + 1 + 1, 0, none⟩) 4 4, .slice (some ⟨w.heap.size + 1 + 1 + 1, 0, none⟩) 4 4, .slice (some ⟨w.heap.size + 1 + 1 + 1 + 1, 0, none⟩) 4 4, .slice (some ⟨w.heap.size + 1 + 1 + 1 + 1 + 1, 0, none⟩) 4 4, .slice (some ⟨w.heap.size + 1 + 1 + 1 + 1 + 1 + 1, 0, none⟩) 4 4, .slice (some ⟨w.heap.size + 1 + 1 + 1 + 1 + 1 + 1 + 1, 0, none⟩) 4 4] 24)) (w.heap.size + 1 + 1 + 1 + 1 + 1 + 1 + 1 + 1) .i64 (some ⟨b, 0, none⟩) m xs := by
  have ho := World.rowIs_alloc ((((((((w.alloc (.cells #[.int .i64 1, .int .i64 0, .int .i64 0, .int .i64 0] 2)).alloc (.cells #[.int .i64 1, .int .i64 1, .int .i64 0, .int .i64 0] 2)).alloc (.cells #[.int .i64 2, .int .i64 1, .int .i64 0, .int .i64 1] 2)).alloc (.cells #[.int .i64 3, .int .i64 1, .int .i64 0, .int .i64 0] 2)).alloc (.cells #[.int .i64 5, .int .i64 2, .int .i64 0, .int .i64 1] 2)).alloc (.cells #[.int .i64 0, .int .i64 1, .int .i64 0, .int .i64 1] 2)).alloc (.cells #[.int .i64 9, .int .i64 4, .int .i64 1, .int .i64 2] 2)).alloc (.cells #[.int .i64 0, .int .i64 0, .int .i64 0, .int .i64 2] 2)) #[.slice (some ⟨w.heap.size, 0, none⟩) 4 4, .slice (some ⟨w.heap.size + 1, 0, none⟩) 4 4, .slice (some ⟨w.heap.size + 1 + 1, 0, none⟩) 4 4, .slice (some ⟨w.heap.size + 1 + 1 + 1, 0, none⟩) 4 4, .slice (some ⟨w.heap.size + 1 + 1 + 1 + 1, 0, none⟩) 4 4, .slice (some ⟨w.heap.size + 1 + 1 + 1 + 1 + 1, 0, none⟩) 4 4, .slice (some ⟨w.heap.size + 1 + 1 + 1 + 1 + 1 + 1, 0, none⟩) 4 4, .slice (some ⟨w.heap.size + 1 + 1 + 1 + 1 + 1 + 1 + 1, 0, none⟩) 4 4] 24 (fun j => ((#[.slice (some ⟨w.heap.size, 0, none⟩) 4 4, .slice (some ⟨w.heap.size + 1, 0, none⟩) 4 4, .slice (some ⟨w.heap.size + 1 + 1, 0, none⟩) 4 4, .slice (some ⟨w.heap.size + 1 + 1 + 1, 0, none⟩) 4 4, .slice (some ⟨w.heap.size + 1 + 1 + 1 + 1, 0, none⟩) 4 4, .slice (some ⟨w.heap.size + 1 + 1 + 1 + 1 + 1, 0, none⟩) 4 4, .slice (some ⟨w.heap.size + 1 + 1 + 1 + 1 + 1 + 1, 0, none⟩) 4 4, .slice (some ⟨w.heap.size + 1 + 1 + 1 + 1 + 1 + 1 + 1, 0, none⟩) 4 4] : Array Value)[j]?).getD undef) (fun j hj => by
    rw [Array.getElem?_eq_getElem hj]; rfl)
  have hc := ho.cell (i := k) hk
  try simp only [World.size_alloc] at hc
  have i0 := (ints_new4 w 1 0 0 0)
  try simp only [World.size_alloc] at i0
  replace i0 := i0.al (by first | (simp; done) | (simp; omega)) (.cells #[.int .i64 1, .int .i64 1, .int .i64 0, .int .i64 0] 2)
  replace i0 := i0.al (by first | (simp; done) | (simp; omega)) (.cells #[.int .i64 2, .int .i64 1, .int .i64 0, .int .i64 1] 2)
  replace i0 := i0.al (by first | (simp; done) | (simp; omega)) (.cells #[.int .i64 3, .int .i64 1, .int .i64 0, .int .i64 0] 2)
  replace i0 := i0.al (by first | (simp; done) | (simp; omega)) (.cells #[.int .i64 5, .int .i64 2, .int .i64 0, .int .i64 1] 2)
  replace i0 := i0.al (by first | (simp; done) | (simp; omega)) (.cells #[.int .i64 0, .int .i64 1, .int .i64 0, .int .i64 1] 2)
  replace i0 := i0.al (by first | (simp; done) | (simp; omega)) (.cells #[.int .i64 9, .int .i64 4, .int .i64 1, .int .i64 2] 2)
  replace i0 := i0.al (by first | (simp; done) | (simp; omega)) (.cells #[.int .i64 0, .int .i64 0, .int .i64 0, .int .i64 2] 2)
  replace i0 := i0.al (by first | (simp; done) | (simp; omega)) (.cells #[.slice (some ⟨w.heap.size, 0, none⟩) 4 4, .slice (some ⟨w.heap.size + 1, 0, none⟩) 4 4, .slice (some ⟨w.heap.size + 1 + 1, 0, none⟩) 4 4, .slice (some ⟨w.heap.size + 1 + 1 + 1, 0, none⟩) 4 4, .slice (some ⟨w.heap.size + 1 + 1 + 1 + 1, 0, none⟩) 4 4, .slice (some ⟨w.heap.size + 1 + 1 + 1 + 1 + 1, 0, none⟩) 4 4, .slice (some ⟨w.heap.size + 1 + 1 + 1 + 1 + 1 + 1, 0, none⟩) 4 4, .slice (some ⟨w.heap.size + 1 + 1 + 1 + 1 + 1 + 1 + 1, 0, none⟩) 4 4] 24)
  have i1 := (ints_new4 (w.alloc (.cells #[.int .i64 1, .int .i64 0, .int .i64 0, .int .i64 0] 2)) 1 1 0 0)
  try simp only [World.size_alloc] at i1
  replace i1 := i1.al (by first | (simp; done) | (simp; omega)) (.cells #[.int .i64 2, .int .i64 1, .int .i64 0, .int .i64 1] 2)
  replace i1 := i1.al (by first | (simp; done) | (simp; omega)) (.cells #[.int .i64 3, .int .i64 1, .int .i64 0, .int .i64 0] 2)
  replace i1 := i1.al (by first | (simp; done) | (simp; omega)) (.cells #[.int .i64 5, .int .i64 2, .int .i64 0, .int .i64 1] 2)
  replace i1 := i1.al (by first | (simp; done) | (simp; omega)) (.cells #[.int .i64 0, .int .i64 1, .int .i64 0, .int .i64 1] 2)
  replace i1 := i1.al (by first | (simp; done) | (simp; omega)) (.cells #[.int .i64 9, .int .i64 4, .int .i64 1, .int .i64 2] 2)
  replace i1 := i1.al (by first | (simp; done) | (simp; omega)) (.cells #[.int .i64 0, .int .i64 0, .int .i64 0, .int .i64 2] 2)
  replace i1 := i1.al (by first | (simp; done) | (simp; omega)) (.cells #[.slice (some ⟨w.heap.size, 0, none⟩) 4 4, .slice (some ⟨w.heap.size + 1, 0, none⟩) 4 4, .slice (some ⟨w.heap.size + 1 + 1, 0, none⟩) 4 4, .slice (some ⟨w.heap.size + 1 + 1 + 1, 0, none⟩) 4 4, .slice (some ⟨w.heap.size + 1 + 1 + 1 + 1, 0, none⟩) 4 4, .slice (some ⟨w.heap.size + 1 + 1 + 1 + 1 + 1, 0, none⟩) 4 4, .slice (some ⟨w.heap.size + 1 + 1 + 1 + 1 + 1 + 1, 0, none⟩) 4 4, .slice (some ⟨w.heap.size + 1 + 1 + 1 + 1 + 1 + 1 + 1, 0, none⟩) 4 4] 24)
  have i2 := (ints_new4 ((w.alloc (.cells #[.int .i64 1, .int .i64 0, .int .i64 0, .int .i64 0] 2)).alloc (.cells #[.int .i64 1, .int .i64 1, .int .i64 0, .int .i64 0] 2)) 2 1 0 1)
  try simp only [World.size_alloc] at i2
  replace i2 := i2.al (by first | (simp; done) | (simp; omega)) (.cells #[.int .i64 3, .int .i64 1, .int .i64 0, .int .i64 0] 2)
  replace i2 := i2.al (by first | (simp; done) | (simp; omega)) (.cells #[.int .i64 5, .int .i64 2, .int .i64 0, .int .i64 1] 2)
  replace i2 := i2.al (by first | (simp; done) | (simp; omega)) (.cells #[.int .i64 0, .int .i64 1, .int .i64 0, .int .i64 1] 2)
  replace i2 := i2.al (by first | (simp; done) | (simp; omega)) (.cells #[.int .i64 9, .int .i64 4, .int .i64 1, .int .i64 2] 2)
  replace i2 := i2.al (by first | (simp; done) | (simp; omega)) (.cells #[.int .i64 0, .int .i64 0, .int .i64 0, .int .i64 2] 2)
  replace i2 := i2.al (by first | (simp; done) | (simp; omega)) (.cells #[.slice (some ⟨w.heap.size, 0, none⟩) 4 4, .slice (some ⟨w.heap.size + 1, 0, none⟩) 4 4, .slice (some ⟨w.heap.size + 1 + 1, 0, none⟩) 4 4, .slice (some ⟨w.heap.size + 1 + 1 + 1, 0, none⟩) 4 4, .slice (some ⟨w.heap.size + 1 + 1 + 1 + 1, 0, none⟩) 4 4, .slice (some ⟨w.heap.size + 1 + 1 + 1 + 1 + 1, 0, none⟩) 4 4, .slice (some ⟨w.heap.size + 1 + 1 + 1 + 1 + 1 + 1, 0, none⟩) 4 4, .slice (some ⟨w.heap.size + 1 + 1 + 1 + 1 + 1 + 1 + 1, 0, none⟩) 4 4] 24)
  have i3 := (ints_new4 (((w.alloc (.cells #[.int .i64 1, .int .i64 0, .int .i64 0, .int .i64 0] 2)).alloc (.cells #[.int .i64 1, .int .i64 1, .int .i64 0, .int .i64 0] 2)).alloc (.cells #[.int .i64 2, .int .i64 1, .int .i64 0, .int .i64 1] 2)) 3 1 0 0)
  try simp only [World.size_alloc] at i3
  replace i3 := i3.al (by first | (simp; done) | (simp; omega)) (.cells #[.int .i64 5, .int .i64 2, .int .i64 0, .int .i64 1] 2)
  replace i3 := i3.al (by first | (simp; done) | (simp; omega)) (.cells #[.int .i64 0, .int .i64 1, .int .i64 0, .int .i64 1] 2)
  replace i3 := i3.al (by first | (simp; done) | (simp; omega)) (.cells #[.int .i64 9, .int .i64 4, .int .i64 1, .int .i64 2] 2)
  replace i3 := i3.al (by first | (simp; done) | (simp; omega)) (.cells #[.int .i64 0, .int .i64 0, .int .i64 0, .int .i64 2] 2)
  replace i3 := i3.al (by first | (simp; done) | (simp; omega)) (.cells #[.slice (some ⟨w.heap.size, 0, none⟩) 4 4, .slice (some ⟨w.heap.size + 1, 0, none⟩) 4 4, .slice (some ⟨w.heap.size + 1 + 1, 0, none⟩) 4 4, .slice (some ⟨w.heap.size + 1 + 1 + 1, 0, none⟩) 4 4, .slice (some ⟨w.heap.size + 1 + 1 + 1 + 1, 0, none⟩) 4 4, .slice (some ⟨w.heap.size + 1 + 1 + 1 + 1 + 1, 0, none⟩) 4 4, .slice (some ⟨w.heap.size + 1 + 1 + 1 + 1 + 1 + 1, 0, none⟩) 4 4, .slice (some ⟨w.heap.size + 1 + 1 + 1 + 1 + 1 + 1 + 1, 0, none⟩) 4 4] 24)
  have i4 := (ints_new4 ((((w.alloc (.cells #[.int .i64 1, .int .i64 0, .int .i64 0, .int .i64 0] 2)).alloc (.cells #[.int .i64 1, .int .i64 1, .int .i64 0, .int .i64 0] 2)).alloc (.cells #[.int .i64 2, .int .i64 1, .int .i64 0, .int .i64 1] 2)).alloc (.cells #[.int .i64 3, .int .i64 1, .int .i64 0, .int .i64 0] 2)) 5 2 0 1)
  try simp only [World.size_alloc] at i4
  replace i4 := i4.al (by first | (simp; done) | (simp; omega)) (.cells #[.int .i64 0, .int .i64 1, .int .i64 0, .int .i64 1] 2)
  replace i4 := i4.al (by first | (simp; done) | (simp; omega)) (.cells #[.int .i64 9, .int .i64 4, .int .i64 1, .int .i64 2] 2)
  replace i4 := i4.al (by first | (simp; done) | (simp; omega)) (.cells #[.int .i64 0, .int .i64 0, .int .i64 0, .int .i64 2] 2)
  replace i4 := i4.al (by first | (simp; done) | (simp; omega)) (.cells #[.slice (some ⟨w.heap.size, 0, none⟩) 4 4, .slice (some ⟨w.heap.size + 1, 0, none⟩) 4 4, .slice (some ⟨w.heap.size + 1 + 1, 0, none⟩) 4 4, .slice (some ⟨w.heap.size + 1 + 1 + 1, 0, none⟩) 4 4, .slice (some ⟨w.heap.size + 1 + 1 + 1 + 1, 0, none⟩) 4 4, .slice (some ⟨w.heap.size + 1 + 1 + 1 + 1 + 1, 0, none⟩) 4 4, .slice (some ⟨w.heap.size + 1 + 1 + 1 + 1 + 1 + 1, 0, none⟩) 4 4, .slice (some ⟨w.heap.size + 1 + 1 + 1 + 1 + 1 + 1 + 1, 0, none⟩) 4 4] 24)
  have i5 := (ints_new4 (((((w.alloc (.cells #[.int .i64 1, .int .i64 0, .int .i64 0, .int .i64 0] 2)).alloc (.cells #[.int .i64 1, .int .i64 1, .int .i64 0, .int .i64 0] 2)).alloc (.cells #[.int .i64 2, .int .i64 1, .int .i64 0, .int .i64 1] 2)).alloc (.cells #[.int .i64 3, .int .i64 1, .int .i64 0, .int .i64 0] 2)).alloc (.cells #[.int .i64 5, .int .i64 2, .int .i64 0, .int .i64 1] 2)) 0 1 0 1)
  try simp only [World.size_alloc] at i5
  replace i5 := i5.al (by first | (simp; done) | (simp; omega)) (.cells #[.int .i64 9, .int .i64 4, .int .i64 1, .int .i64 2] 2)
  replace i5 := i5.al (by first | (simp; done) | (simp; omega)) (.cells #[.int .i64 0, .int .i64 0, .int .i64 0, .int .i64 2] 2)
  replace i5 := i5.al (by first | (simp; done) | (simp; omega)) (.cells #[.slice (some ⟨w.heap.size, 0, none⟩) 4 4, .slice (some ⟨w.heap.size + 1, 0, none⟩) 4 4, .slice (some ⟨w.heap.size + 1 + 1, 0, none⟩) 4 4, .slice (some ⟨w.heap.size + 1 + 1 + 1, 0, none⟩) 4 4, .slice (some ⟨w.heap.size + 1 + 1 + 1 + 1, 0, none⟩) 4 4, .slice (some ⟨w.heap.size + 1 + 1 + 1 + 1 + 1, 0, none⟩) 4 4, .slice (some ⟨w.heap.size + 1 + 1 + 1 + 1 + 1 + 1, 0, none⟩) 4 4, .slice (some ⟨w.heap.size + 1 + 1 + 1 + 1 + 1 + 1 + 1, 0, none⟩) 4 4] 24)
  have i6 := (ints_new4 ((((((w.alloc (.cells #[.int .i64 1, .int .i64 0, .int .i64 0, .int .i64 0] 2)).alloc (.cells #[.int .i64 1, .int .i64 1, .int .i64 0, .int .i64 0] 2)).alloc (.cells #[.int .i64 2, .int .i64 1, .int .i64 0, .int .i64 1] 2)).alloc (.cells #[.int .i64 3, .int .i64 1, .int .i64 0, .int .i64 0] 2)).alloc (.cells #[.int .i64 5, .int .i64 2, .int .i64 0, .int .i64 1] 2)).alloc (.cells #[.int .i64 0, .int .i64 1, .int .i64 0, .int .i64 1] 2)) 9 4 1 2)
  try simp only [World.size_alloc] at i6
  replace i6 := i6.al (by first | (simp; done) | (simp; omega)) (.cells #[.int .i64 0, .int .i64 0, .int .i64 0, .int .i64 2] 2)
  replace i6 := i6.al (by first | (simp; done) | (simp; omega)) (.cells #[.slice (some ⟨w.heap.size, 0, none⟩) 4 4, .slice (some ⟨w.heap.size + 1, 0, none⟩) 4 4, .slice (some ⟨w.heap.size + 1 + 1, 0, none⟩) 4 4, .slice (some ⟨w.heap.size + 1 + 1 + 1, 0, none⟩) 4 4, .slice (some ⟨w.heap.size + 1 + 1 + 1 + 1, 0, none⟩) 4 4, .slice (some ⟨w.heap.size + 1 + 1 + 1 + 1 + 1, 0, none⟩) 4 4, .slice (some ⟨w.heap.size + 1 + 1 + 1 + 1 + 1 + 1, 0, none⟩) 4 4, .slice (some ⟨w.heap.size + 1 + 1 + 1 + 1 + 1 + 1 + 1, 0, none⟩) 4 4] 24)
  have i7 := (ints_new4 (((((((w.alloc (.cells #[.int .i64 1, .int .i64 0, .int .i64 0, .int .i64 0] 2)).alloc (.cells #[.int .i64 1, .int .i64 1, .int .i64 0, .int .i64 0] 2)).alloc (.cells #[.int .i64 2, .int .i64 1, .int .i64 0, .int .i64 1] 2)).alloc (.cells #[.int .i64 3, .int .i64 1, .int .i64 0, .int .i64 0] 2)).alloc (.cells #[.int .i64 5, .int .i64 2, .int .i64 0, .int .i64 1] 2)).alloc (.cells #[.int .i64 0, .int .i64 1, .int .i64 0, .int .i64 1] 2)).alloc (.cells #[.int .i64 9, .int .i64 4, .int .i64 1, .int .i64 2] 2)) 0 0 0 2)
  try simp only [World.size_alloc] at i7
  replace i7 := i7.al (by first | (simp; done) | (simp; omega)) (.cells #[.slice (some ⟨w.heap.size, 0, none⟩) 4 4, .slice (some ⟨w.heap.size + 1, 0, none⟩) 4 4, .slice (some ⟨w.heap.size + 1 + 1, 0, none⟩) 4 4, .slice (some ⟨w.heap.size + 1 + 1 + 1, 0, none⟩) 4 4, .slice (some ⟨w.heap.size + 1 + 1 + 1 + 1, 0, none⟩) 4 4, .slice (some ⟨w.heap.size + 1 + 1 + 1 + 1 + 1, 0, none⟩) 4 4, .slice (some ⟨w.heap.size + 1 + 1 + 1 + 1 + 1 + 1, 0, none⟩) 4 4, .slice (some ⟨w.heap.size + 1 + 1 + 1 + 1 + 1 + 1 + 1, 0, none⟩) 4 4] 24)
  match k, hk with
  | 0, _ => exact ⟨_, _, _, hc, by omega, by omega, by omega, i0.more (by omega)⟩
  | 1, _ => exact ⟨_, _, _, hc, by omega, by omega, by omega, i1.more (by omega)⟩
  | 2, _ => exact ⟨_, _, _, hc, by omega, by omega, by omega, i2.more (by omega)⟩
  | 3, _ => exact ⟨_, _, _, hc, by omega, by omega, by omega, i3.more (by omega)⟩
  | 4, _ => exact ⟨_, _, _, hc, by omega, by omega, by omega, i4.more (by omega)⟩
  | 5, _ => exact ⟨_, _, _, hc, by omega, by omega, by omega, i5.more (by omega)⟩
  | 6, _ => exact ⟨_, _, _, hc, by omega, by omega, by omega, i6.more (by omega)⟩
  | 7, _ => exact ⟨_, _, _, hc, by omega, by omega, by omega, i7.more (by omega)⟩
/-- the lists of bads: each cell of the outer one is a list that can be read -/
theorem bads_pick (w : World) (k : Nat) (hk : k < 5) : ∃ (b m : Nat) (xs : List Int), ((((((w.alloc (.cells #[.int .i64 1, .int .i64 2, .int .i64 0, .int .i64 0] 2)).alloc (.cells #[.int .i64 0, .int .i64 0, .int .i64 0, .int .i64 0] 2)).alloc (.cells #[.int .i64 2, .int .i64 (-1), .int .i64 0, .int .i64 0] 2)).alloc (.cells #[.int .i64 1, .int .i64 0, .int .i64 0] 2)).alloc (.cells #[.int .i64 32, .int .i64 0, .int .i64 0, .int .i64 0] 2)).alloc (.cells #[.slice (some ⟨w.heap.size, 0, none⟩) 4 4, .slice (some ⟨w.heap.size + 1, 0, none⟩) 4 4, .slice (some ⟨w.heap.size + 1 + 1, 0, none⟩) 4 4, .slice (some ⟨w.heap.size + 1 + 1 + 1, 0, none⟩) 3 3, .slice (some ⟨w.heap.size + 1 + 1 + 1 + 1, 0, none⟩) 4 4] 24)).cell? ⟨w.heap.size + 1 + 1 + 1 + 1 + 1, k, none⟩ = some (.slice (some ⟨b, 0, none⟩) m m) ∧ m ≤ 4 ∧ 0 < m ∧ w.heap.size ≤ b ∧ Ints ((((((w.alloc (.cells #[.int .i64 1, .int .i64 2, .int .i64 0, .int .i64 0] 2)).alloc (.cells #[.int .i64 0, .int .i64 0, .int .i64 0, .int .i64 0] 2)).alloc (.cells #[.int .i64 2, .int .i64 (-1), .int .i64 0, .int .i64 0] 2)).alloc (.cells #[.int .i64 1, .int .i64 0, .int .i64 0] 2)).alloc (.cells #[.int .i64 32, .int .i64 0, .int .i64 0, .int .i64 0] 2)).alloc (.cells #[.slice (some ⟨w.heap.size, 0, none⟩) 4 4, .slice (some ⟨w.heap.size + 1, 0, none⟩) 4 4, .slice (some ⟨w.heap.size + 1 + 1, 0, none⟩) 4 4, .slice (some ⟨w.heap.size + 1 + 1 + 1, 0, none⟩) 3 3, .slice (some ⟨w.heap.size + 1 + 1 + 1 + 1, 0, none⟩) 4 4] 24)) (w.heap.size + 1 + 1 + 1 + 1 + 1) .i64 (some ⟨b, 0, none⟩) m xs := by
  have ho := World.rowIs_alloc (((((w.alloc (.cells #[.int .i64 1, .int .i64 2, .int .i64 0, .int .i64 0] 2)).alloc (.cells #[.int .i64 0, .int .i64 0, .int .i64 0, .int .i64 0] 2)).alloc (.cells #[.int .i64 2, .int .i64 (-1), .int .i64 0, .int .i64 0] 2)).alloc (.cells #[.int .i64 1, .int .i64 0, .int .i64 0] 2)).alloc (.cells #[.int .i64 32, .int .i64 0, .int .i64 0, .int .i64 0] 2)) #[.slice (some ⟨w.heap.size, 0, none⟩) 4 4, .slice (some ⟨w.heap.size + 1, 0, none⟩) 4 4, .slice (some ⟨w.heap.size + 1 + 1, 0, none⟩) 4 4, .slice (some ⟨w.heap.size + 1 + 1 + 1, 0, none⟩) 3 3, .slice (some ⟨w.heap.size + 1 + 1 + 1 + 1, 0, none⟩) 4 4] 24 (fun j => ((#[.slice (some ⟨w.heap.size, 0, none⟩) 4 4, .slice (some ⟨w.heap.size + 1, 0, none⟩) 4 4, .slice (some ⟨w.heap.size + 1 + 1, 0, none⟩) 4 4, .slice (some ⟨w.heap.size + 1 + 1 + 1, 0, none⟩) 3 3, .slice (some ⟨w.heap.size + 1 + 1 + 1 + 1, 0, none⟩) 4 4] : Array Value)[j]?).getD undef) (fun j hj => by
    rw [Array.getElem?_eq_getElem hj]; rfl)
  have hc := ho.cell (i := k) hk
  try simp only [World.size_alloc] at hc
  have i0 := (ints_new4 w 1 2 0 0)
  try simp only [World.size_alloc] at i0
  replace i0 := i0.al (by first | (simp; done) | (simp; omega)) (.cells #[.int .i64 0, .int .i64 0, .int .i64 0, .int .i64 0] 2)
  replace i0 := i0.al (by first | (simp; done) | (simp; omega)) (.cells #[.int .i64 2, .int .i64 (-1), .int .i64 0, .int .i64 0] 2)
  replace i0 := i0.al (by first | (simp; done) | (simp; omega)) (.cells #[.int .i64 1, .int .i64 0, .int .i64 0] 2)
  replace i0 := i0.al (by first | (simp; done) | (simp; omega)) (.cells #[.int .i64 32, .int .i64 0, .int .i64 0, .int .i64 0] 2)
  replace i0 := i0.al (by first | (simp; done) | (simp; omega)) (.cells #[.slice (some ⟨w.heap.size, 0, none⟩) 4 4, .slice (some ⟨w.heap.size + 1, 0, none⟩) 4 4, .slice (some ⟨w.heap.size + 1 + 1, 0, none⟩) 4 4, .slice (some ⟨w.heap.size + 1 + 1 + 1, 0, none⟩) 3 3, .slice (some ⟨w.heap.size + 1 + 1 + 1 + 1, 0, none⟩) 4 4] 24)
  have i1 := (ints_new4 (w.alloc (.cells #[.int .i64 1, .int .i64 2, .int .i64 0, .int .i64 0] 2)) 0 0 0 0)
  try simp only [World.size_alloc] at i1
  replace i1 := i1.al (by first | (simp; done) | (simp; omega)) (.cells #[.int .i64 2, .int .i64 (-1), .int .i64 0, .int .i64 0] 2)
  replace i1 := i1.al (by first | (simp; done) | (simp; omega)) (.cells #[.int .i64 1, .int .i64 0, .int .i64 0] 2)
  replace i1 := i1.al (by first | (simp; done) | (simp; omega)) (.cells #[.int .i64 32, .int .i64 0, .int .i64 0, .int .i64 0] 2)
  replace i1 := i1.al (by first | (simp; done) | (simp; omega)) (.cells #[.slice (some ⟨w.heap.size, 0, none⟩) 4 4, .slice (some ⟨w.heap.size + 1, 0, none⟩) 4 4, .slice (some ⟨w.heap.size + 1 + 1, 0, none⟩) 4 4, .slice (some ⟨w.heap.size + 1 + 1 + 1, 0, none⟩) 3 3, .slice (some ⟨w.heap.size + 1 + 1 + 1 + 1, 0, none⟩) 4 4] 24)
  have i2 := (ints_new4 ((w.alloc (.cells #[.int .i64 1, .int .i64 2, .int .i64 0, .int .i64 0] 2)).alloc (.cells #[.int .i64 0, .int .i64 0, .int .i64 0, .int .i64 0] 2)) 2 (-1) 0 0)
  try simp only [World.size_alloc] at i2
  replace i2 := i2.al (by first | (simp; done) | (simp; omega)) (.cells #[.int .i64 1, .int .i64 0, .int .i64 0] 2)
  replace i2 := i2.al (by first | (simp; done) | (simp; omega)) (.cells #[.int .i64 32, .int .i64 0, .int .i64 0, .int .i64 0] 2)
  replace i2 := i2.al (by first | (simp; done) | (simp; omega)) (.cells #[.slice (some ⟨w.heap.size, 0, none⟩) 4 4, .slice (some ⟨w.heap.size + 1, 0, none⟩) 4 4, .slice (some ⟨w.heap.size + 1 + 1, 0, none⟩) 4 4, .slice (some ⟨w.heap.size + 1 + 1 + 1, 0, none⟩) 3 3, .slice (some ⟨w.heap.size + 1 + 1 + 1 + 1, 0, none⟩) 4 4] 24)
  have i3 := (ints_new3 (((w.alloc (.cells #[.int .i64 1, .int .i64 2, .int .i64 0, .int .i64 0] 2)).alloc (.cells #[.int .i64 0, .int .i64 0, .int .i64 0, .int .i64 0] 2)).alloc (.cells #[.int .i64 2, .int .i64 (-1), .int .i64 0, .int .i64 0] 2)) 1 0 0)
  try simp only [World.size_alloc] at i3
  replace i3 := i3.al (by first | (simp; done) | (simp; omega)) (.cells #[.int .i64 32, .int .i64 0, .int .i64 0, .int .i64 0] 2)
  replace i3 := i3.al (by first | (simp; done) | (simp; omega)) (.cells #[.slice (some ⟨w.heap.size, 0, none⟩) 4 4, .slice (some ⟨w.heap.size + 1, 0, none⟩) 4 4, .slice (some ⟨w.heap.size + 1 + 1, 0, none⟩) 4 4, .slice (some ⟨w.heap.size + 1 + 1 + 1, 0, none⟩) 3 3, .slice (some ⟨w.heap.size + 1 + 1 + 1 + 1, 0, none⟩) 4 4] 24)
  have i4 := (ints_new4 ((((w.alloc (.cells #[.int .i64 1, .int .i64 2, .int .i64 0, .int .i64 0] 2)).alloc (.cells #[.int .i64 0, .int .i64 0, .int .i64 0, .int .i64 0] 2)).alloc (.cells #[.int .i64 2, .int .i64 (-1), .int .i64 0, .int .i64 0] 2)).alloc (.cells #[.int .i64 1, .int .i64 0, .int .i64 0] 2)) 32 0 0 0)
  try simp only [World.size_alloc] at i4
  replace i4 := i4.al (by first | (simp; done) | (simp; omega)) (.cells #[.slice (some ⟨w.heap.size, 0, none⟩) 4 4, .slice (some ⟨w.heap.size + 1, 0, none⟩) 4 4, .slice (some ⟨w.heap.size + 1 + 1, 0, none⟩) 4 4, .slice (some ⟨w.heap.size + 1 + 1 + 1, 0, none⟩) 3 3, .slice (some ⟨w.heap.size + 1 + 1 + 1 + 1, 0, none⟩) 4 4] 24)
  match k, hk with
  | 0, _ => exact ⟨_, _, _, hc, by omega, by omega, by omega, i0.more (by omega)⟩
  | 1, _ => exact ⟨_, _, _, hc, by omega, by omega, by omega, i1.more (by omega)⟩
  | 2, _ => exact ⟨_, _, _, hc, by omega, by omega, by omega, i2.more (by omega)⟩
  | 3, _ => exact ⟨_, _, _, hc, by omega, by omega, by omega, i3.more (by omega)⟩
  | 4, _ => exact ⟨_, _, _, hc, by omega, by omega, by omega, i4.more (by omega)⟩
/-- a list that can be read and lies in a block from lo on -/
def Ig (w : World) (lo : Nat) (A : Option Addr) (m : Nat) (ys : List Int) : Prop := Ints w w.heap.size .i64 A m ys ∧ ∀ b o t, A = some ⟨b, o, t⟩ → lo ≤ b
theorem Ig.grown {w w' : World} {g lo m : Nat} {A : Option Addr} {ys : List Int} (h : Ig w lo A m ys) (hg : w.grownBy w' (some g)) (hl : g < lo) : Ig w' lo A m ys := by
  obtain ⟨⟨h1, h2⟩, h3⟩ := h
  refine ⟨⟨h1, fun hm => ?_⟩, h3⟩
  obtain ⟨b, off, hA, hb, hc⟩ := h2 hm
  have hgb := h3 b off none hA
  exact ⟨b, off, hA, Nat.lt_of_lt_of_le hb hg.size, fun i hi => (by_cell hg (p := ⟨b, off + i, none⟩) hb (by show b ≠ g; omega)).trans (hc i hi)⟩
theorem Ig.alloc {w : World} {lo m : Nat} {A : Option Addr} {ys : List Int} (h : Ig w lo A m ys) (o : Obj) : Ig (w.alloc o) lo A m ys := ⟨(h.1.al (Nat.le_refl _) o).more (by simp), h.2⟩
theorem Ig.set {w : World} {lo m b i : Nat} {A : Option Addr} {ys : List Int} (h : Ig w lo A m ys) (hb : b < lo) (u : Value) : Ig (w.setCell ⟨b, i, none⟩ u) lo A m ys := by
  obtain ⟨⟨h1, h2⟩, h3⟩ := h
  refine ⟨⟨h1, fun hm => ?_⟩, h3⟩
  obtain ⟨b', off, hA, hb', hc⟩ := h2 hm
  have hgb := h3 b' off none hA
  refine ⟨b', off, hA, by rw [World.size_setCell]; exact hb', fun j hj => ?_⟩
  rw [World.cell?_setCell_far _ _ _ _ (by show b ≠ b'; omega)]
  exact hc j hj
theorem Ig.lower {w : World} {lo lo' m : Nat} {A : Option Addr} {ys : List Int} (h : Ig w lo A m ys) (hl : lo' ≤ lo) : Ig w lo' A m ys := ⟨h.1, fun b o t e => Nat.le_trans hl (h.2 b o t e)⟩
/-- what a draw of weights leaves: a list that can be read -/
def WtPost (w0 : World) (g : Nat) (a : Option Addr) (n c : Nat) (xs : List Int) (w : World) (e : Ending) (w' : World) : Prop :=
  ∃ (A : Option Addr) (m d : Nat) (ys : List Int), e = .returned (.slice A m d) ∧ m ≤ 4 ∧ Ig w' w.heap.size A m ys ∧ Drawing w0 g a n c xs w' ∧ w.grownBy w' (some g)
theorem grown_alloc {w w' : World} {g : Nat} (h : w.grownBy w' (some g)) (o : Obj) : w.grownBy (w'.alloc o) (some g) :=
  ⟨h.os, h.tape, h.output, by rw [World.size_alloc]; have := h.size; omega, fun i hi hn => (Deep.blk_alloc_lt _ _ _ (Nat.lt_of_lt_of_le hi h.size)).trans (h.block i hi hn)⟩
theorem grown_below {w w' w'' : World} {g B : Nat} (h : w.grownBy w' (some g)) (hb : Below B w' w'') (hB : w.heap.size ≤ B) : w.grownBy w'' (some g) :=
  ⟨hb.os.trans h.os, hb.tape.trans h.tape, hb.output.trans h.output, Nat.le_trans h.size hb.size, fun i hi hn => (hb.block i (Nat.lt_of_lt_of_le hi hB)).trans (h.block i hi hn)⟩
set_option maxHeartbeats 3200000 in
theorem l18DrawWeights_dr (w0 : World) (g : Nat) (a : Option Addr) (n c : Nat) (xs : List Int) (w : World) (hd : Drawing w0 g a n c xs w) :
    Calls Try.prog 98 #[.pointer (some ⟨g, 0, none⟩)] w fun e w' => WtPost w0 g a n c xs w e w' := by
  have hlt := hd.lt
  have D1 := Lib.hid (((((((((hd.alloc (.cells #[.int .i64 1, .int .i64 0, .int .i64 0, .int .i64 0] 2)).alloc (.cells #[.int .i64 1, .int .i64 1, .int .i64 0, .int .i64 0] 2)).alloc (.cells #[.int .i64 2, .int .i64 1, .int .i64 0, .int .i64 1] 2)).alloc (.cells #[.int .i64 3, .int .i64 1, .int .i64 0, .int .i64 0] 2)).alloc (.cells #[.int .i64 5, .int .i64 2, .int .i64 0, .int .i64 1] 2)).alloc (.cells #[.int .i64 0, .int .i64 1, .int .i64 0, .int .i64 1] 2)).alloc (.cells #[.int .i64 9, .int .i64 4, .int .i64 1, .int .i64 2] 2)).alloc (.cells #[.int .i64 0, .int .i64 0, .int .i64 0, .int .i64 2] 2)).alloc (.cells #[.slice (some ⟨w.heap.size, 0, none⟩) 4 4, .slice (some ⟨w.heap.size + 1, 0, none⟩) 4 4, .slice (some ⟨w.heap.size + 1 + 1, 0, none⟩) 4 4, .slice (some ⟨w.heap.size + 1 + 1 + 1, 0, none⟩) 4 4, .slice (some ⟨w.heap.size + 1 + 1 + 1 + 1, 0, none⟩) 4 4, .slice (some ⟨w.heap.size + 1 + 1 + 1 + 1 + 1, 0, none⟩) 4 4, .slice (some ⟨w.heap.size + 1 + 1 + 1 + 1 + 1 + 1, 0, none⟩) 4 4, .slice (some ⟨w.heap.size + 1 + 1 + 1 + 1 + 1 + 1 + 1, 0, none⟩) 4 4] 24))
  have GP := Lib.hid (fun k hk => goods_pick w k hk)
  have H1 := Lib.hid (((by_refl w (some g)) |> (fun h => grown_alloc h (.cells #[.int .i64 1, .int .i64 0, .int .i64 0, .int .i64 0] 2)) |> (fun h => grown_alloc h (.cells #[.int .i64 1, .int .i64 1, .int .i64 0, .int .i64 0] 2)) |> (fun h => grown_alloc h (.cells #[.int .i64 2, .int .i64 1, .int .i64 0, .int .i64 1] 2)) |> (fun h => grown_alloc h (.cells #[.int .i64 3, .int .i64 1, .int .i64 0, .int .i64 0] 2)) |> (fun h => grown_alloc h (.cells #[.int .i64 5, .int .i64 2, .int .i64 0, .int .i64 1] 2)) |> (fun h => grown_alloc h (.cells #[.int .i64 0, .int .i64 1, .int .i64 0, .int .i64 1] 2)) |> (fun h => grown_alloc h (.cells #[.int .i64 9, .int .i64 4, .int .i64 1, .int .i64 2] 2)) |> (fun h => grown_alloc h (.cells #[.int .i64 0, .int .i64 0, .int .i64 0, .int .i64 2] 2))) |> (fun h => grown_alloc h (.cells #[.slice (some ⟨w.heap.size, 0, none⟩) 4 4, .slice (some ⟨w.heap.size + 1, 0, none⟩) 4 4, .slice (some ⟨w.heap.size + 1 + 1, 0, none⟩) 4 4, .slice (some ⟨w.heap.size + 1 + 1 + 1, 0, none⟩) 4 4, .slice (some ⟨w.heap.size + 1 + 1 + 1 + 1, 0, none⟩) 4 4, .slice (some ⟨w.heap.size + 1 + 1 + 1 + 1 + 1, 0, none⟩) 4 4, .slice (some ⟨w.heap.size + 1 + 1 + 1 + 1 + 1 + 1, 0, none⟩) 4 4, .slice (some ⟨w.heap.size + 1 + 1 + 1 + 1 + 1 + 1 + 1, 0, none⟩) 4 4] 24)))
  clear hd
  go_enter Try.func98, Try.ntmps98
  go_wp2_with fail
  refine (next_dr 40 w0 g a n c xs _ D1.out (by omega)).mono ?_
  rintro e w2 ⟨x, rfl, x0, x1, hd2, hg2⟩
  have z2 := hg2.size
  simp only [World.size_alloc] at z2
  have H2 := Lib.hid (by_trans H1.out hg2)
  by_cases hx : x = 0
  · subst hx
    have D3 := Lib.hid ((((((hd2.alloc (.cells #[.int .i64 1, .int .i64 2, .int .i64 0, .int .i64 0] 2)).alloc (.cells #[.int .i64 0, .int .i64 0, .int .i64 0, .int .i64 0] 2)).alloc (.cells #[.int .i64 2, .int .i64 (-1), .int .i64 0, .int .i64 0] 2)).alloc (.cells #[.int .i64 1, .int .i64 0, .int .i64 0] 2)).alloc (.cells #[.int .i64 32, .int .i64 0, .int .i64 0, .int .i64 0] 2)).alloc (.cells #[.slice (some ⟨w2.heap.size, 0, none⟩) 4 4, .slice (some ⟨w2.heap.size + 1, 0, none⟩) 4 4, .slice (some ⟨w2.heap.size + 1 + 1, 0, none⟩) 4 4, .slice (some ⟨w2.heap.size + 1 + 1 + 1, 0, none⟩) 3 3, .slice (some ⟨w2.heap.size + 1 + 1 + 1 + 1, 0, none⟩) 4 4] 24))
    have BP := Lib.hid (fun k hk => bads_pick w2 k hk)
    have H3 := Lib.hid ((H2.out |> (fun h => grown_alloc h (.cells #[.int .i64 1, .int .i64 2, .int .i64 0, .int .i64 0] 2)) |> (fun h => grown_alloc h (.cells #[.int .i64 0, .int .i64 0, .int .i64 0, .int .i64 0] 2)) |> (fun h => grown_alloc h (.cells #[.int .i64 2, .int .i64 (-1), .int .i64 0, .int .i64 0] 2)) |> (fun h => grown_alloc h (.cells #[.int .i64 1, .int .i64 0, .int .i64 0] 2)) |> (fun h => grown_alloc h (.cells #[.int .i64 32, .int .i64 0, .int .i64 0, .int .i64 0] 2))) |> (fun h => grown_alloc h (.cells #[.slice (some ⟨w2.heap.size, 0, none⟩) 4 4, .slice (some ⟨w2.heap.size + 1, 0, none⟩) 4 4, .slice (some ⟨w2.heap.size + 1 + 1, 0, none⟩) 4 4, .slice (some ⟨w2.heap.size + 1 + 1 + 1, 0, none⟩) 3 3, .slice (some ⟨w2.heap.size + 1 + 1 + 1 + 1, 0, none⟩) 4 4] 24)))
    clear hd2 hg2 x1 x0
    go_wp2_with fail
    refine (next_dr 5 w0 g a n c xs _ D3.out (by omega)).mono ?_
    rintro e w4 ⟨y, rfl, y0, y1, hd4, hg4⟩
    have y5 : y < 5 := by omega
    obtain ⟨k, rfl⟩ := Int.eq_ofNat_of_zero_le y0
    obtain ⟨b, m, ys, hc, hm, hm0, hb, hi⟩ := BP.out k (by omega)
    have hc4 := (by_cell hg4 (p := ⟨w2.heap.size + 1 + 1 + 1 + 1 + 1, k, none⟩) (by first | (simp; done) | (simp; omega)) (by show w2.heap.size + 1 + 1 + 1 + 1 + 1 ≠ g; omega)).trans hc
    have IG := Lib.hid (Ig.grown (g := g) (lo := w.heap.size) ⟨hi.more (by first | (simp; done) | (simp; omega)), fun b' o t e => by cases e; omega⟩ hg4 hlt)
    have HD4 := Lib.hid hd4
    have H4 := Lib.hid (by_trans H3.out hg4)
    clear hc hi y1 hd4 hg4
    go_wp2_with fail
    go_ret
    exact ⟨_, _, _, _, rfl, hm, IG.out, HD4.out, H4.out⟩
  · have ex : (x == 0) = false := by simpa using hx
    have D3 := Lib.hid (hd2.alloc (.cells #[] 2))
    have H3 := Lib.hid (grown_alloc H2.out (.cells #[] 2))
    obtain ⟨G2, HG2⟩ : ∃ G : World, G = w2 := ⟨_, rfl⟩
    have KC := Lib.hid (fun (b i : Nat) (h : b < w.heap.size + 9) (hne : ¬ b = g) => by_cell hg2 (p := ⟨b, i, none⟩) (by first | (simp; done) | (simp; omega)) hne)
    have OW := Lib.hid (Own.new w2 w2.heap.size 2 1 #[] 0 (Nat.le_refl _) (by unfold maxLen; omega) rfl)
    clear hd2 hg2 x1 x0 hx HG2 G2
    go_wp2_with fail
    refine (next_dr 8 w0 g a n c xs _ D3.out (by omega)).mono ?_
    rintro e w4 ⟨y, rfl, y0, y1, hd4, hg4⟩
    have z4 := hg4.size
    simp only [World.size_alloc] at z4
    have y8 : y < 8 := by omega
    obtain ⟨k, rfl⟩ := Int.eq_ofNat_of_zero_le y0
    obtain ⟨b, m, ys, hc, hm, hm0, hb, hi⟩ := GP.out k (by omega)
    obtain ⟨b', off, hA, hbb, hic⟩ := hi.2 hm0
    cases hA
    have kc4 := fun (b i : Nat) (h : b < w2.heap.size + 1) (hne : ¬ b = g) => by_cell hg4 (p := ⟨b, i, none⟩) (by first | (simp; done) | (simp; omega)) hne
    have kc3 := fun (b i : Nat) (h : b < w2.heap.size) => ((Below.refl w2.heap.size w2).alloc (Nat.le_refl _) (.cells #[] 2)).cell (p := ⟨b, i, none⟩) h
    have hc4 := ((kc4 _ _ (by omega) (by omega)).trans ((kc3 _ _ (by omega)).trans (KC.out _ k (by omega) (by omega)))).trans hc
    have HI : Hid (∀ i, i < m → w4.cell? ((⟨b, 0, none⟩ : Addr).add i) = some (.int .i64 (ys.getD i 0))) := by
      refine Lib.hid (fun i h => ?_)
      have e : (⟨b, 0, none⟩ : Addr).add i = ⟨b, i, none⟩ := by by_cases h0 : i = 0 <;> simp [Addr.add, h0]
      rw [e]
      have q := hic i h
      rw [Nat.zero_add] at q
      exact ((kc4 b i (by omega) (by omega)).trans ((kc3 b i (by omega)).trans (KC.out b i (by omega) (by omega)))).trans q
    have HY := Lib.hid hi.len
    have OG := Lib.hid (Grows.ofOwn (xs := []) (OW.out.kept hg4 (by intro e; cases e; omega)))
    have HD4 := Lib.hid hd4
    have H4 := Lib.hid (by_trans H3.out hg4)
    have gl : g < w2.heap.size := by omega
    clear hc hi y1 hd4 hg4 kc4 kc3 hic
    go_wp2_with (first | (at_builtin; refine app_grows rfl (.tmp 26) (.tmp 31) rfl rfl OG.out ⟨b, 0, none⟩ ys m m rfl HY.out.symm HI.out (by first | (simp; done) | (simp; omega)) (by omega) ?_; intro v5 w5 hg5 hb5))
    obtain ⟨A, C, hv, hC, hr⟩ := hg5.out
    have yl0 : 0 < ([] ++ ys : List Int).length := by rw [List.nil_append, HY.out]; exact hm0
    have IG : Hid (Ig w5 w.heap.size A ys.length ys) := by
      refine Lib.hid ⟨hr.ints rfl, fun b' o t e => ?_⟩
      rcases hr.blk yl0 with ⟨g', e', q1, q2, _⟩
      rw [e'] at e
      cases e
      omega
    have HD5 := Lib.hid (HD4.out.keep hb5 gl)
    have H5 := Lib.hid (grown_below H4.out hb5 (by omega))
    have HYl : ys.length ≤ 4 := by rw [HY.out]; exact hm
    subst hv
    clear hg5 hb5 hr
    go_wp2_with fail
    go_ret
    exact ⟨_, _, _, _, rfl, HYl, IG.out, HD5.out, H5.out⟩
/-- what a draw of a model leaves -/
def MdPost (w0 : World) (g : Nat) (a : Option Addr) (n c : Nat) (xs : List Int) (w : World) (e : Ending) (w' : World) : Prop :=
  ∃ M : Mm, e = .returned (.agg #[.slice M.a M.n M.c, .slice M.b M.m M.d, .slice M.e M.p M.f]) ∧ M.sz ∧ Ig w' w.heap.size M.a M.n M.xs ∧ Ig w' w.heap.size M.b M.m M.ys ∧ Ig w' w.heap.size M.e M.p M.zs ∧ Drawing w0 g a n c xs w' ∧ w.grownBy w' (some g)
theorem grown_set {w w' : World} {g : Nat} (h : w.grownBy w' (some g)) {p : Addr} (hp : w.heap.size ≤ p.block) (u : Value) : w.grownBy (w'.setCell p u) (some g) :=
  ⟨h.os, h.tape, h.output, by rw [World.size_setCell]; exact h.size, fun i hi hn => (Deep.blk_setCell_other _ _ _ _ (by omega)).trans (h.block i hi hn)⟩
theorem Drawing.set {w0 w : World} {g n c : Nat} {a : Option Addr} {xs : List Int} (h : Drawing w0 g a n c xs w) {p : Addr} (hp : g < p.block) (u : Value) : Drawing w0 g a n c xs (w.setCell p u) := by
  refine h.keep (B := p.block) ?_ hp
  exact (Below.refl p.block w).setCell (Nat.le_refl _) u
set_option maxHeartbeats 800000 in
theorem l18Draw_dr (w0 : World) (g : Nat) (a : Option Addr) (n c : Nat) (xs : List Int) (w : World) (hd : Drawing w0 g a n c xs w) :
    Calls Try.prog 73 #[.pointer (some ⟨g, 0, none⟩)] w fun e w' => MdPost w0 g a n c xs w e w' := by
  have hlt := hd.lt
  have D0 := Lib.hid (hd.alloc (.cells #[.slice none 0 0, .slice none 0 0, .slice none 0 0] 26))
  have H0 := Lib.hid (grown_alloc (by_refl w (some g)) (.cells #[.slice none 0 0, .slice none 0 0, .slice none 0 0] 26))
  have R0 := Lib.hid (three_new w (.slice none 0 0) (.slice none 0 0) (.slice none 0 0) 26)
  clear hd
  go_enter Try.func73, Try.ntmps73
  go_wp2_with fail
  refine (l18DrawWeights_dr w0 g a n c xs _ D0.out).mono ?_
  rintro e w1 ⟨A1, m1, d1, y1, rfl, hm1, hi1, hd1, hg1⟩
  have s1 := hg1.size
  simp only [World.size_alloc] at s1 hi1
  have H1 := Lib.hid (by_trans H0.out hg1)
  have R1 := Lib.hid (R0.out.of_block (hg1.block _ R0.out.lt (by simp; omega)))
  have I1 := Lib.hid hi1
  clear hi1 hg1
  go_wp2_with fail
  refine (l18DrawWeights_dr w0 g a n c xs _ hd1).mono ?_
  rintro e w2 ⟨A2, m2, d2, y2, rfl, hm2, hi2, hd2, hg2⟩
  have s2 := hg2.size
  have H2 := Lib.hid (by_trans H1.out hg2)
  have R2 := Lib.hid (R1.out.of_block (hg2.block _ R1.out.lt (by simp; omega)))
  have J1 := Lib.hid (I1.out.grown hg2 (by omega))
  have I2 := Lib.hid hi2
  clear hi2 hg2 hd1
  go_wp2_with fail
  refine (l18DrawWeights_dr w0 g a n c xs _ hd2).mono ?_
  rintro e w3 ⟨A3, m3, d3, y3, rfl, hm3, hi3, hd3, hg3⟩
  have s3 := hg3.size
  have H3 := Lib.hid (by_trans H2.out hg3)
  have R3 := Lib.hid (R2.out.of_block (hg3.block _ R2.out.lt (by simp; omega)))
  have K1 := Lib.hid (J1.out.grown hg3 (by omega))
  have K2 := Lib.hid (I2.out.grown hg3 (by omega))
  have I3 := Lib.hid hi3
  have D3 := Lib.hid hd3
  clear hi3 hg3 hd2 hd3
  obtain ⟨b0, b1, b2⟩ := three_cells R3.out
  obtain ⟨f0, f1, f2⟩ := three_frozen R3.out
  obtain ⟨p0, p1, p2⟩ := three_cells (three_set2 (three_set1 (three_set0 R3.out (.slice A1 m1 d1)) (.slice A2 m2 d2)) (.slice A3 m3 d3))
  go_wp2_with fail
  refine bodyPost_ret (v := .agg #[.slice A1 m1 d1, .slice A2 m2 d2, .slice A3 m3 d3]) (by simp [results, Try.results73, go_sem, p0, p1, p2]) rfl ⟨⟨A1, m1, d1, A2, m2, d2, A3, m3, d3, y1, y2, y3⟩, rfl, (by unfold Mm.sz; simp; omega), ?_, ?_, ?_, ?_, ?_⟩
  · exact (((K1.out.set (by omega) _).set (by omega) _).set (by omega) _).lower (by omega)
  · exact ((((K2.out.lower (lo' := w.heap.size + 1) (by omega)).set (by omega) _).set (by omega) _).set (by omega) _).lower (by omega)
  · exact ((((I3.out.lower (lo' := w.heap.size + 1) (by omega)).set (by omega) _).set (by omega) _).set (by omega) _).lower (by omega)
  · exact ((D3.out.set hlt _).set hlt _).set hlt _
  · exact grown_set (grown_set (grown_set H3.out (Nat.le_refl _) _) (Nat.le_refl _) _) (Nat.le_refl _) _
end Go.Proofs.Ytkioliioakmepaa
