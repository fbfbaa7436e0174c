/-
  The walks of the variant: IsVariant (both packages), FeatureLimit, l22Limit, toVariant, Activation, l23Floor.
-/
import Derived.Test.YtjfmpnkbocilpaaBase
import Derived.Below
import Derived.Test.YtjfmpnkbocilpaaMem
namespace Go.Proofs.Ytjfmpnkbocilpaa
open Go.ChangeShapes Go.WideShapes Go.ChangeAt Go.RowKit

def vrB (p c h s : Int) : Bool := wB p 2 24 && wB c 1 15 && wB h 1 p && wB s 1 6
theorem vrB_true {p c h s : Int} : vrB p c h s = true ↔ (2 ≤ p ∧ p ≤ 24) ∧ (1 ≤ c ∧ c ≤ 15) ∧ (1 ≤ h ∧ h ≤ p) ∧ (1 ≤ s ∧ s ≤ 6) := by
  simp [vrB, wB_true, and_assoc]
abbrev vrV (p c h s : Int) : Value := .agg #[.int .i64 p, .int .i64 c, .int .i64 h, .int .i64 s]

theorem impl_IsVariant_any (p c h s : Int) (w : World) : Calls Try.prog 32 #[vrV p c h s] w fun e w' => e = .returned (.bool (vrB p c h s)) ∧ Below w.heap.size w w' := by
  go_enter Try.func32, Try.ntmps32
  go_wp2_with ((go_at_call 53; refine (within_any _ _ _ _).mono ?_; rintro e w' ⟨rfl, rfl⟩))
  all_goals
    go_ret
    exact ⟨ret_bool (by simp [vrB, *]), (Below.refl _ _).alloc (Nat.le_refl _) _⟩

theorem spec_IsVariant_any (p c h s : Int) (w : World) : Calls Try.prog 34 #[vrV p c h s] w fun e w' => e = .returned (.bool (vrB p c h s)) ∧ Below w.heap.size w w' := by
  go_enter Try.func34, Try.ntmps34
  go_wp2_with ((go_at_call 55; refine (l01In_any _ _ _ _).mono ?_; rintro e w' ⟨rfl, rfl⟩))
  all_goals
    go_ret
    exact ⟨ret_bool (by simp [vrB, *]), (Below.refl _ _).alloc (Nat.le_refl _) _⟩

def lim (p c i : Int) : Int := if i < 2 then c * (p + 1) else if i < 8 then c else if i < 15 then p else 1
def flim (p c h s i : Int) : Int := if vrB p c h s && wB i 0 15 then lim p c i else 0

theorem flim_y {p c h s i : Int} (hv : vrB p c h s = true) (hw : wB i 0 15 = true) : flim p c h s i = lim p c i := by rw [flim, hv, hw]; rfl
theorem flim_0 {p c h s i : Int} (_hv : vrB p c h s = true) (hw : wB i 0 15 = false) : flim p c h s i = 0 := by rw [flim, hw, Bool.and_false]; rfl
theorem flim_a {p c h s i : Int} (hv : vrB p c h s = true) (hw : wB i 0 15 = true) (h1 : i < 2) : flim p c h s i = c * (p + 1) := by rw [flim_y hv hw, lim, if_pos h1]
theorem flim_b {p c h s i : Int} (hv : vrB p c h s = true) (hw : wB i 0 15 = true) (h1 : 2 ≤ i) (h2 : i < 8) : flim p c h s i = c := by rw [flim_y hv hw, lim, if_neg (by omega), if_pos h2]
theorem flim_c {p c h s i : Int} (hv : vrB p c h s = true) (hw : wB i 0 15 = true) (h1 : 8 ≤ i) (h2 : i < 15) : flim p c h s i = p := by rw [flim_y hv hw, lim, if_neg (by omega), if_neg (by omega), if_pos h2]
theorem flim_d {p c h s i : Int} (hv : vrB p c h s = true) (hw : wB i 0 15 = true) (h1 : 15 ≤ i) : flim p c h s i = 1 := by rw [flim_y hv hw, lim, if_neg (by omega), if_neg (by omega), if_neg (by omega)]




theorem toVariant_any (p c h s : Int) (w : World) : Calls Try.prog 7 #[vrV p c h s] w fun e w' => e = .returned (vrV p c h s) ∧ Below w.heap.size w w' := by
  go_enter Try.func7, Try.ntmps7
  go_wp2
  refine bodyPost_ret (v := vrV p c h s) (by simp [results, Try.results7, go_sem]) rfl ⟨rfl, ?_⟩
  exact (((Below.refl _ _).alloc (Nat.le_refl _) _).alloc (by simp) _).alloc (by simp; omega) _
end Go.Proofs.Ytjfmpnkbocilpaa
