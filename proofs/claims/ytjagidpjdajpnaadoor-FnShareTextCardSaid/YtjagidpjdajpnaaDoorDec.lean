/-
  Numbers as decimal texts: strconv.FormatInt at base 10, impl.decimal, spec.l09Decimal.
-/
import Derived.Test.YtjagidpjdajpnaaDoorEx
import Derived.Test.YtjagidpjdajpnaaDoorApp
import Derived.Test.YtjagidpjdajpnaaDoorDecP
import Derived.Lib.MinMax
import Derived.Test.YtjagidpjdajpnaaDoorShelf
namespace Go.Proofs.YtjagidpjdajpnaaDoor
open Go.ChangeShapes Go.WideShapes Go.ChangeAt Go.RowKit
set_option linter.unusedVariables false

abbrev Tab (w : World) : Prop := Lib.TabIs Tryd.prog w "internal/strconv.uint64pow10" .u64 Lib.pow10Tab
theorem Tab.below {w w' : World} (h : Tab w) (hb : Below w.heap.size w w') : Tab w' := by
  unfold Tab Lib.TabIs World.var? at *
  cases hg : Tryd.prog.globalNamed "internal/strconv.uint64pow10" with
  | none => simp [hg] at h
  | some g =>
    simp only [hg, Option.bind_some] at h ⊢
    have hlt : g < w.heap.size := by
      rcases Nat.lt_or_ge g w.heap.size with h1 | h1
      · exact h1
      · rw [Array.getElem?_eq_none h1] at h; simp at h
    rw [hb.block g hlt]
    exact h
theorem below_grow {w a : World} (h : Below w.heap.size w a) (os : Array Obj) : Below w.heap.size w (Sort.grow a os) := by
  refine ⟨h.os, h.tape, h.output, ?_, fun i hi => ?_⟩
  · have := h.size
    simp only [Sort.grow, Array.size_append]
    omega
  · rw [← h.block i hi]
    have := h.size
    exact Array.getElem?_append_left (by omega)
theorem formatInt_any (n : Int) (w : World) (h0 : -9223372036854775808 ≤ n) (h1 : n ≤ 9223372036854775807) (ht : Tab w) :
    Calls Tryd.prog 31 #[.int .i64 n, .int .i64 10] w fun e w' => e = .returned (.string (itS n)) ∧ Below w.heap.size w w' := by
  refine (Tryd.strconv_FormatInt_10 n h0 h1 w ht).mono ?_
  rintro e w' ⟨rfl, k, os, rfl⟩
  refine ⟨rfl, ?_⟩
  exact below_grow (below_drewN (Below.refl _ _) k) os
theorem decimal_any (n : Int) (w : World) (h0 : -9223372036854775808 ≤ n) (h1 : n ≤ 9223372036854775807) (ht : Tab w) :
    Calls Tryd.prog 20 #[.int .i64 n] w fun e w' => e = .returned (.string (itS n)) ∧ Below w.heap.size w w' := by
  have FI := Lib.hid (formatInt_any n w h0 h1 ht)
  go_enter Tryd.func20, Tryd.ntmps20
  go_wp2_with fail
  refine FI.out.mono ?_
  rintro e w1 ⟨rfl, hb⟩
  go_wp2_with fail
  go_ret
  exact ⟨rfl, hb⟩
end Go.Proofs.YtjagidpjdajpnaaDoor
