/-
  The keys of the maps of a match: states.
-/
import Derived.Test.YtkioliioakmepaaMchP
import Derived.Maps.Own
import Derived.Maps.OwnSet
import Derived.Maps.Views
import Derived.DeepKeys4
namespace Go.Proofs.Ytkioliioakmepaa
open Go.ChangeShapes Go.WideShapes Go.ChangeAt Go.RowKit
set_option linter.unusedVariables false

abbrev msV (a b : Nat) (ph : Int) : Value := .agg #[.int .i64 a, .int .i64 b, .int .i64 ph]
theorem ms_law : WideMaps.KeyLaw Try.prog 110 := deep_law (m := 2) (by omega) (by kernel_rfl) (by kernel_rfl) (by kernel_rfl)
theorem ms_keyed : Maps.Keyed Try.prog 110 := .of_law ms_law
theorem wf64 {x : Int} (h0 : 0 ≤ x) (h1 : x ≤ 1000) : (Lit.int .i64 x).wf = true := by
  have e1 : IntKind.i64.min = -9223372036854775808 := by decide
  have e2 : IntKind.i64.max = 9223372036854775807 := by decide
  simp [Lit.wf, e1, e2]; omega
theorem ms_type : Try.prog.keyType 110 = true := by kernel_rfl
theorem ms_cells : Try.prog.cellsOf 110 = 3 := by kernel_rfl
theorem int_cells : Try.prog.cellsOf 2 = 1 := by kernel_rfl
theorem types_pos : ∃ m, Try.prog.types.size = m + 1 := ⟨_, (by kernel_rfl : Try.prog.types.size = (Try.prog.types.size - 1) + 1)⟩
def msK (a b : Nat) (ph : Int) : Lit := .string (keyBytes [.int .i64 a, .int .i64 b, .int .i64 ph])
theorem ms_key {a b : Nat} {ph : Int} (ha : a ≤ 100) (hb : b ≤ 100) (hp : 0 ≤ ph ∧ ph ≤ 2) : keyOf Try.prog 110 (msV a b ph) = some (msK a b ph) := by
  have wa : (Lit.int .i64 (a : Int)).wf = true := wf64 (by omega) (by omega)
  have wb : (Lit.int .i64 (b : Int)).wf = true := wf64 (by omega) (by omega)
  have wp : (Lit.int .i64 ph).wf = true := wf64 (by omega) (by omega)
  obtain ⟨m, hm⟩ := types_pos
  unfold keyOf
  simp only [Try.underlying110]
  rw [if_pos (by simp [ms_type, Value.formed, Try.underlying110, ms_cells]), hm]
  unfold Program.keyLits
  simp only [Try.underlying110, Value.cells]
  rw [if_pos ⟨by rw [ms_cells]; rfl, by kernel_rfl⟩]
  simp [int_cells, Program.keyLits, Try.underlying2, wa, wb, wp, msK]
theorem ms_key_inj {a b c d : Nat} {ph ps : Int} (ha : a ≤ 100) (hb : b ≤ 100) (hp : 0 ≤ ph ∧ ph ≤ 2) (hc : c ≤ 100) (hd : d ≤ 100) (hs : 0 ≤ ps ∧ ps ≤ 2) (h : msK a b ph = msK c d ps) : a = c ∧ b = d ∧ ph = ps := by
  have e := ms_law.inj (ms_key ha hb hp) (h ▸ ms_key hc hd hs)
  simp at e
  exact ⟨by omega, by omega, e.2.2⟩
end Go.Proofs.Ytkioliioakmepaa
