/-
  Both packages' WorstChoices: one form of result.
-/
import Derived.Test.YtmhmhbiihcdgiaaWcS
import Derived.Test.YtmhmhbiihcdgiaaExS
namespace Go.Proofs.Ytmhmhbiihcdgiaa
open Go.ChangeShapes Go.WideShapes Go.ChangeAt Go.RowKit Go.Deep
set_option linter.unusedVariables false

def wcM (p c h s : Int) (n : Nat) (xs : List Int) : Nat := if wcC p c h s n xs = 0 then n else 0
def wcZ (p c h s : Int) (n : Nat) (xs : List Int) : List Int := if wcC p c h s n xs = 0 then wcY (wcL (s * s) xs) n else []
theorem wcZ_len (p c h s : Int) (n : Nat) (xs : List Int) : (wcZ p c h s n xs).length = wcM p c h s n xs := by
  unfold wcZ wcM
  split
  · exact wcY_len (wcL_tot _ _) n
  · rfl
theorem wcM_le (p c h s : Int) (n : Nat) (xs : List Int) : wcM p c h s n xs ≤ n := by
  unfold wcM
  split <;> omega
theorem WcPost.un {p c h s : Int} {n : Nat} {xs : List Int} {w w' : World} {e : Ending} (H : WcPost p c h s n xs w e w') :
    ∃ (a : Option Addr) (cap : Nat), e = .returned (.tuple #[.slice a (wcM p c h s n xs) cap, .int .i64 (wcC p c h s n xs)]) ∧ RowN w' w.heap.size w'.heap.size 2 a (wcM p c h s n xs) (icell .i64 (wcZ p c h s n xs)) ∧ Below w.heap.size w w' := by
  rcases H with ⟨h0, he, hb⟩ | ⟨h0, a, cap, he, hr, hb⟩
  · have e1 : wcM p c h s n xs = 0 := by unfold wcM; rw [if_neg h0]
    exact ⟨none, 0, by rw [e1]; exact he, .inl e1, hb⟩
  · have e1 : wcM p c h s n xs = n := by unfold wcM; rw [if_pos h0]
    have e2 : wcZ p c h s n xs = wcY (wcL (s * s) xs) n := by unfold wcZ; rw [if_pos h0]
    rw [e1, e2]
    exact ⟨a, cap, by rw [h0]; exact he, hr, hb⟩
theorem exd_ok {n : Nat} {xs : List Int} (h : ∀ i, i < n * 2 → (Lit.int .i64 (xs.getD i 0)).wf = true) : ∀ k, k < n → xs.getD (k * 2 + 1) 0 ≤ 9223372036854775807 := by
  intro k hk
  have := h (k * 2 + 1) (by omega)
  simp only [Lit.wf, Bool.and_eq_true, decide_eq_true_eq] at this
  have h2 : IntKind.i64.max = 9223372036854775807 := by decide
  rw [h2] at this
  exact this.2
theorem spec_Wc (p c h s : Int) (b n cap : Nat) (xs : List Int) (w : World) (hr : w.rowIs b 45 (n * 2) (icell .i64 xs)) (hn : n ≤ 1048576) (hwf : ∀ k, k < n → xs.getD (k * 2 + 1) 0 ≤ 9223372036854775807) :
    Calls Try.prog 6 #[vrV p c h s, .slice (some ⟨b, 0, none⟩) n cap] w fun e w' => ∃ (a : Option Addr) (cap : Nat), e = .returned (.tuple #[.slice a (wcM p c h s n xs) cap, .int .i64 (wcC p c h s n xs)]) ∧ RowN w' w.heap.size w'.heap.size 2 a (wcM p c h s n xs) (icell .i64 (wcZ p c h s n xs)) ∧ Below w.heap.size w w' :=
  (spec_WorstChoices_any p c h s b n cap xs w hr.lt hn (fun i hi => hr.cell hi) hwf).mono fun _ _ H => H.un
theorem impl_Wc (p c h s : Int) (b n cap : Nat) (xs : List Int) (w : World) (hr : w.rowIs b 45 (n * 2) (icell .i64 xs)) (hn : n ≤ 1048576) (hwf : ∀ k, k < n → xs.getD (k * 2 + 1) 0 ≤ 9223372036854775807) :
    Calls Try.prog 9 #[vrV p c h s, .slice (some ⟨b, 0, none⟩) n cap] w fun e w' => ∃ (a : Option Addr) (cap : Nat), e = .returned (.tuple #[.slice a (wcM p c h s n xs) cap, .int .i64 (wcC p c h s n xs)]) ∧ RowN w' w.heap.size w'.heap.size 2 a (wcM p c h s n xs) (icell .i64 (wcZ p c h s n xs)) ∧ Below w.heap.size w w' :=
  (impl_WorstChoices_any p c h s b n cap xs w hr.lt hn (fun i hi => hr.cell hi) hwf).mono fun _ _ H => H.un
theorem rowN_of {w : World} {g t m : Nat} {f : Nat → Value} (h : w.rowIs g t m f) : RowN w g (g + 1) t (some ⟨g, 0, none⟩) m f := .of_row h (Nat.le_refl _) (Nat.lt_succ_self _)
end Go.Proofs.Ytmhmhbiihcdgiaa
