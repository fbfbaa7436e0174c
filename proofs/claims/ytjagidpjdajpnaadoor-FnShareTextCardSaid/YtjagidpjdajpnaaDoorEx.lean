/-
  Exact numbers: the walks of both packages' scale and validity.
-/
import Derived.Test.YtjagidpjdajpnaaDoorExP
import Derived.Deep.RegionHeld3
import Derived.StillTailTactics
import Derived.IntWalk
import Derived.RegionCalls
namespace Go.Proofs.YtjagidpjdajpnaaDoor
open Go.ChangeShapes Go.WideShapes Go.ChangeAt Go.RowKit
set_option linter.unusedVariables false

abbrev exV (num dep : Int) : Value := .agg #[.int .i64 num, .int .i64 dep]
/-- a block of four values -/
def q4 (p q r s : Value) : Nat → Value
  | 0 => p
  | 1 => q
  | 2 => r
  | _ => s
theorem q4_new (w : World) (p q r s : Value) (t : TypeId) : (w.alloc (.cells #[p, q, r, s] t)).rowIs w.heap.size t 4 (q4 p q r s) :=
  World.rowIs_alloc w _ _ _ (fun j hj => by
    match j, hj with
    | 0, _ => rfl
    | 1, _ => rfl
    | 2, _ => rfl
    | 3, _ => rfl)
theorem q4_cells {w : World} {g t : Nat} {p q r s : Value} (h : w.rowIs g t 4 (q4 p q r s)) : w.cell? ⟨g, 0, none⟩ = some p ∧ w.cell? ⟨g, 1, none⟩ = some q ∧ w.cell? ⟨g, 2, none⟩ = some r ∧ w.cell? ⟨g, 3, none⟩ = some s :=
  ⟨h.cell (i := 0) (by omega), h.cell (i := 1) (by omega), h.cell (i := 2) (by omega), h.cell (i := 3) (by omega)⟩
def q2 (p q : Value) : Nat → Value
  | 0 => p
  | _ => q
theorem q2_new (w : World) (p q : Value) (t : TypeId) : (w.alloc (.cells #[p, q] t)).rowIs w.heap.size t 2 (q2 p q) :=
  World.rowIs_alloc w _ _ _ (fun j hj => by
    match j, hj with
    | 0, _ => rfl
    | 1, _ => rfl)
theorem q2_cells {w : World} {g t : Nat} {p q : Value} (h : w.rowIs g t 2 (q2 p q)) : w.cell? ⟨g, 0, none⟩ = some p ∧ w.cell? ⟨g, 1, none⟩ = some q :=
  ⟨h.cell (i := 0) (by omega), h.cell (i := 1) (by omega)⟩
def scP (s dep : Int) (w : World) (e : Ending) (w' : World) : Prop := e = .returned (.tuple #[.int .i64 (scV s dep).1, .bool (scV s dep).2]) ∧ Below w.heap.size w w'
theorem scP_mk {s dep x : Int} {b : Bool} {w w' : World} {e : Ending} (he : e = .returned (.tuple #[.int .i64 x, .bool b])) (h : scV s dep = (x, b)) (hb : Below w.heap.size w w') : scP s dep w e w' := ⟨by rw [h]; exact he, hb⟩

theorem tmod_bd {a b : Int} (hb : 0 < b) : -b < a.tmod b ∧ a.tmod b < b := by
  have h := Int.tmod_lt_of_pos a hb
  have h2 := Int.tmod_lt_of_pos (-a) hb
  rw [Int.neg_tmod] at h2
  omega
end Go.Proofs.YtjagidpjdajpnaaDoor
