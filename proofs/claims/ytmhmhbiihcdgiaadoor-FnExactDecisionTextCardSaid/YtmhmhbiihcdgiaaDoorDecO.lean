/-
  laws.Decision: opened, and carried over to impl.
-/
import Derived.Test.YtmhmhbiihcdgiaaDoorDecT
import Derived.Test.YtmhmhbiihcdgiaaDoorOpen
namespace Go.Proofs.YtmhmhbiihcdgiaaDoor
open Go.ChangeShapes Go.WideShapes Go.ChangeAt Go.RowKit
set_option linter.unusedVariables false

def DecOk (x a b c d e f g : Int) : Prop := (Lit.int .i64 x).wf = true ∧ ((Lit.int .i64 a).wf = true ∧ (Lit.int .i64 b).wf = true) ∧ ((Lit.int .i64 c).wf = true ∧ (Lit.int .i64 d).wf = true) ∧ (Lit.int .i64 e).wf = true ∧ ((Lit.int .i64 f).wf = true ∧ (Lit.int .i64 g).wf = true)
abbrev dcV (x a b c d e f g : Int) : Value := .agg #[.int .i64 x, .int .i64 a, .int .i64 b, .int .i64 c, .int .i64 d, .int .i64 e, .int .i64 f, .int .i64 g]
section
variable {H : Type} {enc : TypeId × Value → H} {w : World} {spare : Nat → Bool} {held : Bool}
theorem open_ex {base n : Nat} {cs : List Value} {y : DataW H × List MemPlace} (h : DataW.trod enc Tryd.prog w base spare held n 25 cs = some y) :
    ∃ a b : Int, cs = [.int .i64 a, .int .i64 b] ∧ (Lit.int .i64 a).wf = true ∧ (Lit.int .i64 b).wf = true := by
  have hcI : Tryd.prog.cellsOf 2 = 1 := by kernel_rfl
  have hcE : Tryd.prog.cellsOf 25 = 2 := by kernel_rfl
  obtain ⟨y0, y1, m, _, hl, g0, g1⟩ := trod_struct2 Tryd.underlying25 h
  rw [hcE] at hl
  match cs, hl with
  | [c0, c1], _ =>
    simp [hcI] at g0 g1
    obtain ⟨a, e0, _, w0⟩ := DataW.trod_int Tryd.underlying2 g0
    obtain ⟨b, e1, _, w1⟩ := DataW.trod_int Tryd.underlying2 g1
    simp at e0 e1
    subst e0 e1
    exact ⟨a, b, rfl, w0, w1⟩
theorem open_dec {r : Reach} {b0 base : Nat} {v : Value} {d : DataW H} {p : List MemPlace}
    (hv : Value.okWide Tryd.prog w r b0 27 v) (h : DataW.Trod enc Tryd.prog w base spare held 27 v d p) :
    ∃ x a b c d' e f g : Int, v = dcV x a b c d' e f g ∧ DecOk x a b c d' e f g := by
  have hcI : Tryd.prog.cellsOf 2 = 1 := by kernel_rfl
  have hcE : Tryd.prog.cellsOf 25 = 2 := by kernel_rfl
  have hcD : Tryd.prog.cellsOf 27 = 8 := by kernel_rfl
  obtain ⟨cs, rfl, hsz⟩ := okWide_struct Tryd.underlying27 hv
  obtain ⟨fuel, hf⟩ := h
  obtain ⟨xs, n, rfl, _, _, hlen, hfs⟩ := DataW.trod_struct Tryd.underlying27 hf
  rw [hcD] at hsz
  obtain ⟨l⟩ := cs
  have hll : l.length = 8 := hsz
  match l, hll with
  | [c0, c1, c2, c3, c4, c5, c6, c7], _ =>
    match xs, hlen with
    | [y0, y1, y2, y3, y4], _ =>
      have h0 := hfs 0 _ rfl
      have h1 := hfs 1 _ rfl
      have h2 := hfs 2 _ rfl
      have h3 := hfs 3 _ rfl
      have h4 := hfs 4 _ rfl
      simp [hcI, hcE, Value.cells] at h0 h1 h2 h3 h4
      obtain ⟨x, e0, _, w0⟩ := DataW.trod_int Tryd.underlying2 h0
      obtain ⟨a, b, e1, w1⟩ := open_ex h1
      obtain ⟨c, d', e2, w2⟩ := open_ex h2
      obtain ⟨e, e3, _, w3⟩ := DataW.trod_int Tryd.underlying2 h3
      obtain ⟨f, g, e4, w4⟩ := open_ex h4
      simp at e0 e1 e2 e3 e4
      obtain ⟨rfl, rfl⟩ := e1
      obtain ⟨rfl, rfl⟩ := e2
      obtain ⟨rfl, rfl⟩ := e4
      subst e0 e3
      exact ⟨x, a, b, c, d', e, f, g, rfl, w0, w1, w2, w3, w4⟩
end
theorem toExact_x (num dep : Int) (w : World) : Calls Tryd.prog 11 #[exV num dep] w fun e w' => e = .returned (exV num dep) ∧ w' = ((w.alloc (.cells #[.int .i64 num, .int .i64 dep] 25)).alloc (.cells #[.int .i64 num, .int .i64 dep] 31)).alloc (.cells #[.int .i64 num, .int .i64 dep] 31) := by
  go_enter Tryd.func11, Tryd.ntmps11
  go_wp2
  refine bodyPost_ret (v := exV num dep) (by simp [results, Tryd.results11, go_sem]) rfl ⟨rfl, ?_⟩
  rfl
theorem toDecision_any (x a b c d e f g : Int) (w : World) : Calls Tryd.prog 6 #[dcV x a b c d e f g] w fun en w' => en = .returned (dcV x a b c d e f g) ∧ Below w.heap.size w w' := by
  go_enter Tryd.func6, Tryd.ntmps6
  go_wp2_with (go_at_call 11; (with_reducible refine (toExact_x _ _ _).mono ?_); rintro en w1 ⟨rfl, hw⟩; subst hw)
  have hA : ∀ (a : World) (o : Obj), Below w.heap.size w a → Below w.heap.size w (a.alloc o) := fun a o h => h.alloc h.size o
  refine bodyPost_ret (v := dcV x a b c d e f g) (by simp [results, Tryd.results6, go_sem]) rfl ⟨rfl, ?_⟩
  repeat' (refine hA _ _ ?_)
  exact Below.refl _ _
end Go.Proofs.YtmhmhbiihcdgiaaDoor
