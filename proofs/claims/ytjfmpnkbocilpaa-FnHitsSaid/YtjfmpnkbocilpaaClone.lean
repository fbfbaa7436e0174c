/-
  The walk of slices.Clone at int64.
-/
import Derived.Test.YtjfmpnkbocilpaaGrow
import Derived.StillTailTactics
import Derived.RegionTactic
import Derived.BigRegion
namespace Go.Proofs.Ytjfmpnkbocilpaa
open Go.ChangeShapes Go.WideShapes Go.ChangeAt Go.RowKit
set_option linter.unusedVariables false

/-- what a copy is -/
def ClPost (n : Nat) (xs : List Int) (w : World) (e : Ending) (w' : World) : Prop :=
  ∃ a c, e = .returned (.slice a n c) ∧ n ≤ c ∧ RowN w' w.heap.size w'.heap.size 2 a n (icell .i64 xs) ∧ Below w.heap.size w w'
set_option maxHeartbeats 800000 in
theorem clone_any (a : Option Addr) (n c : Nat) (xs : List Int) (w : World) (h : Ints w w.heap.size .i64 a n xs) (ha : a = none → c = 0) (hn : n ≤ 1048576) :
    Calls Try.prog 61 #[.slice a n c] w fun e w' => ClPost n xs w e w' := by
  have qn : ∀ (w : World) (a : Option Addr) (n c n' c' : Nat), (binOp .eql 24 (.slice a n c) (.slice none n' c')).run Try.prog w = .ok (.bool a.isNone) w := fun w a n c n' c' => Lib.run_eql_slice_nil w _ _ a n c n' c' Try.underlying24
  rcases h.cases with ⟨rfl, rfl⟩ | ⟨hn0, b, off, rfl, hb, hc0⟩
  · rcases a with _ | ad
    · obtain rfl := ha rfl
      go_enter Try.func61, Try.ntmps61
      go_wp2_with fail
      go_ret
      exact ⟨none, 0, rfl, Nat.le_refl _, .inl rfl, Below.refl _ _⟩
    · have HG := Lib.hid (Grows.new w w.heap.size (Nat.le_refl _))
      have HB := Lib.hid ((Below.refl w.heap.size w).alloc (Nat.le_refl _) (.cells #[] 2))
      go_enter Try.func61, Try.ntmps61
      go_wp2_with (first | (at_builtin; refine app_grows rfl (.tmp 5) (.tmp 6) rfl rfl HG.out ad [] 0 c rfl rfl (fun i hi => absurd hi (by omega)) (by simp) (by simp) ?_; intro v5 w5 hg5 hb5))
      obtain ⟨A, C, hv, hC, hr⟩ := hg5.out
      subst hv
      go_wp2_with fail
      go_ret
      exact ⟨A, C, rfl, hC, hr, HB.out.trans hb5⟩
  · have HG := Lib.hid (Grows.new w w.heap.size (Nat.le_refl _))
    have HB := Lib.hid ((Below.refl w.heap.size w).alloc (Nat.le_refl _) (.cells #[] 2))
    have HL := Lib.hid h.len
    have HC : Hid (∀ i, i < n → (w.alloc (.cells #[] 2)).cell? ((⟨b, off, none⟩ : Addr).add i) = some (.int .i64 (xs.getD i 0))) := Lib.hid (fun i hi => by
      have e : (⟨b, off, none⟩ : Addr).add i = ⟨b, off + i, none⟩ := by by_cases h0 : i = 0 <;> simp [Addr.add, h0]
      rw [e]
      exact (HB.out.cell (p := ⟨b, off + i, none⟩) hb).trans (hc0 i hi))
    clear h hc0
    go_enter Try.func61, Try.ntmps61
    go_wp2_with (first | (at_builtin; refine app_grows rfl (.tmp 5) (.tmp 6) rfl rfl HG.out ⟨b, off, none⟩ xs n c rfl HL.out.symm HC.out (by simp; omega) (by simp) ?_; intro v5 w5 hg5 hb5))
    rw [List.nil_append] at hg5
    obtain ⟨A, C, hv, hC, hr⟩ := hg5.out
    subst hv
    go_wp2_with fail
    go_ret
    rw [HL.out] at hC hr ⊢
    exact ⟨A, C, rfl, hC, hr, HB.out.trans hb5⟩

end Go.Proofs.Ytjfmpnkbocilpaa
