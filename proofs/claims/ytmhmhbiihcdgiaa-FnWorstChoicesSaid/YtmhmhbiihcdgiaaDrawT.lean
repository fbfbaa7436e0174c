/-
  The draws of shares: l18DrawShare and DrawMixPoints.
-/
import Derived.Test.YtmhmhbiihcdgiaaDraw
import Derived.Test.YtmhmhbiihcdgiaaGcd
import Derived.StillTailTactics
import Derived.RegionTactic
import Derived.BigRegion
import Derived.Deep.RegionWith
import Derived.Deep.RegionHeld3
import Derived.Deep.Cut
import Derived.Deep.CutRange
import Derived.Deep.DeepCutAuto
namespace Go.Proofs.Ytmhmhbiihcdgiaa
open Go.ChangeShapes Go.WideShapes Go.ChangeAt Go.RowKit
set_option linter.unusedVariables false

section
variable {w0 w w1 : World} {g n c : Nat} {a : Option Addr} {xs : List Int}
theorem Below.setNew {B : Nat} {a w : World} (h : Below B a w) {p : Addr} (hp : B ≤ p.block) (v : Value) : Below B a (w.setCell p v) := h.setCell hp v
theorem Drawing.other (h : Drawing w0 g a n c xs w) {p : Addr} (hp : p.block ≠ g) (hz : w0.heap.size ≤ p.block) (v : Value) : Drawing w0 g a n c xs (w.setCell p v) := by
  obtain ⟨h1, h2, h3, h4, h5, h6⟩ := h
  refine ⟨h1.of_block (Below.heap_setCell w p v g (fun e => hp e.symm)), h2.below ((Below.refl w0.heap.size w).setCell hz v), h3, h4, h5, h6.setCell hz v⟩
theorem by_new {a w : World} {r : Option Nat} (h : a.grownBy w r) {p : Addr} (hp : a.heap.size ≤ p.block) (u : Value) : a.grownBy (w.setCell p u) r :=
  ⟨h.os, h.tape, h.output, by simpa [World.setCell] using h.size, fun i hi hne => (Below.heap_setCell w p u i (by rintro rfl; omega)).trans (h.block i hi hne)⟩
theorem by_alloc {a w : World} {r : Option Nat} (h : a.grownBy w r) (o : Obj) : a.grownBy (w.alloc o) r := by
  have k := World.grownBy_alloc w o r
  exact ⟨k.os.trans h.os, k.tape.trans h.tape, k.output.trans h.output, Nat.le_trans h.size k.size, fun i hi hn => (k.block i (Nat.lt_of_lt_of_le hi h.size) hn).trans (h.block i hi hn)⟩
theorem row_by {w w' : World} {g b : Nat} {t : TypeId} {n : Nat} {f : Nat → Value} (h : w.rowIs b t n f) (hg : w.grownBy w' (some g)) (hb : b ≠ g) : w'.rowIs b t n f :=
  h.of_block (hg.block b h.lt (fun e => hb (by injection e)))
theorem Drawing.drewN (h : Drawing w0 g a n c xs w) (k : Nat) : Drawing w0 g a n c xs (w.drewN k) := h.after ⟨rfl, rfl, rfl, Nat.le_refl _, fun _ _ => rfl⟩
end

theorem rowIs_other2 {w : World} {b : Nat} {t : TypeId} {n : Nat} {f : Nat → Value} (h : w.rowIs b t n f) (g : Nat) (hne : ¬ b = g) (k : Nat) (v : Value) : (w.setCell ⟨g, k, none⟩ v).rowIs b t n f := h.setOther (a := ⟨g, k, none⟩) (by simpa using hne) v

theorem IntsArg.after {w w1 : World} {k : IntKind} {a : Option Addr} {n : Nat} {xs : List Int} (h : IntsArg w k a n xs) (hb : Below w.heap.size w w1) : IntsArg w1 k a n xs :=
  ⟨(h.1.below hb).more hb.size, h.2.1, h.2.2⟩


theorem two_set_other {w : World} {b g t : Nat} {x0 y0 x1 y1 : Int} (h : w.rowIs b t 2 (two x0 y0)) (k : w.rowIs g t 2 (two x1 y1)) (x y p q : Int) (hne : ¬ b = g) :
    let W := (((w.setCell ⟨b, 0, none⟩ (.int .i64 x)).setCell ⟨b, 1, none⟩ (.int .i64 y)).setCell ⟨g, 0, none⟩ (.int .i64 p)).setCell ⟨g, 1, none⟩ (.int .i64 q)
    W.cell? ⟨b, 0, none⟩ = some (.int .i64 x) ∧ W.cell? ⟨b, 1, none⟩ = some (.int .i64 y) ∧ W.cell? ⟨g, 0, none⟩ = some (.int .i64 p) ∧ W.cell? ⟨g, 1, none⟩ = some (.int .i64 q) := by
  have h1 := rowIs_other2 (rowIs_other2 (two_set h x y) g hne 0 (.int .i64 p)) g hne 1 (.int .i64 q)
  have k1 := two_set (rowIs_other2 (rowIs_other2 k b (fun e => hne e.symm) 0 (.int .i64 x)) b (fun e => hne e.symm) 1 (.int .i64 y)) p q
  exact ⟨(two_cells h1).1, (two_cells h1).2.1, (two_cells k1).1, (two_cells k1).2.1⟩
theorem keep4 {w : World} {b t : Nat} {x y : Int} (h : w.rowIs b t 2 (two x y)) (g g2 : Nat) (hne : ¬ b = g) (hne2 : ¬ b = g2) (v0 v1 v2 v3 : Value) :
    (((w.setCell ⟨g, 0, none⟩ v0).setCell ⟨g, 1, none⟩ v1).setCell ⟨g2, 0, none⟩ v2).setCell ⟨g2, 1, none⟩ v3 |>.rowIs b t 2 (two x y) :=
  rowIs_other2 (rowIs_other2 (rowIs_other2 (rowIs_other2 h g hne 0 v0) g hne 1 v1) g2 hne2 0 v2) g2 hne2 1 v3

end Go.Proofs.Ytmhmhbiihcdgiaa
