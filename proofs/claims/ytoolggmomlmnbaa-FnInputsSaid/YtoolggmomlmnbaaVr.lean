/-
  The walks of the variant: IsVariant (both packages), FeatureLimit, l22Limit, toVariant, Activation, l23Floor.
-/
import Derived.Test.YtoolggmomlmnbaaBase
import Derived.Below
import Derived.Test.YtoolggmomlmnbaaMem
namespace Go.Proofs.Ytoolggmomlmnbaa
open Go.ChangeShapes Go.WideShapes Go.ChangeAt Go.RowKit

def vrB (p c h s : Int) : Bool := wB p 2 24 && wB c 1 15 && wB h 1 p && wB s 1 6
theorem vrB_true {p c h s : Int} : vrB p c h s = true ↔ (2 ≤ p ∧ p ≤ 24) ∧ (1 ≤ c ∧ c ≤ 15) ∧ (1 ≤ h ∧ h ≤ p) ∧ (1 ≤ s ∧ s ≤ 6) := by
  simp [vrB, wB_true, and_assoc]
abbrev vrV (p c h s : Int) : Value := .agg #[.int .i64 p, .int .i64 c, .int .i64 h, .int .i64 s]

theorem impl_IsVariant_any (p c h s : Int) (w : World) : Calls Try.prog 63 #[vrV p c h s] w fun e w' => e = .returned (.bool (vrB p c h s)) ∧ Below w.heap.size w w' := by
  go_enter Try.func63, Try.ntmps63
  go_wp2_with ((go_at_call 64; refine (within_any _ _ _ _).mono ?_; rintro e w' ⟨rfl, rfl⟩))
  all_goals
    go_ret
    exact ⟨ret_bool (by simp [vrB, *]), (Below.refl _ _).alloc (Nat.le_refl _) _⟩

theorem spec_IsVariant_any (p c h s : Int) (w : World) : Calls Try.prog 57 #[vrV p c h s] w fun e w' => e = .returned (.bool (vrB p c h s)) ∧ Below w.heap.size w w' := by
  go_enter Try.func57, Try.ntmps57
  go_wp2_with ((go_at_call 79; refine (l01In_any _ _ _ _).mono ?_; rintro e w' ⟨rfl, rfl⟩))
  all_goals
    go_ret
    exact ⟨ret_bool (by simp [vrB, *]), (Below.refl _ _).alloc (Nat.le_refl _) _⟩

def lim (p c i : Int) : Int := if i < 2 then c * (p + 1) else if i < 8 then c else if i < 15 then p else 1
def flim (p c h s i : Int) : Int := if vrB p c h s && wB i 0 15 then lim p c i else 0

theorem flim_y {p c h s i : Int} (hv : vrB p c h s = true) (hw : wB i 0 15 = true) : flim p c h s i = lim p c i := by rw [flim, hv, hw]; rfl
theorem flim_0 {p c h s i : Int} (_hv : vrB p c h s = true) (hw : wB i 0 15 = false) : flim p c h s i = 0 := by rw [flim, hw, Bool.and_false]; rfl
theorem flim_a {p c h s i : Int} (hv : vrB p c h s = true) (hw : wB i 0 15 = true) (h1 : i < 2) : flim p c h s i = c * (p + 1) := by rw [flim_y hv hw, lim, if_pos h1]
theorem flim_b {p c h s i : Int} (hv : vrB p c h s = true) (hw : wB i 0 15 = true) (h1 : 2 ≤ i) (h2 : i < 8) : flim p c h s i = c := by rw [flim_y hv hw, lim, if_neg (by omega), if_pos h2]
theorem flim_c {p c h s i : Int} (hv : vrB p c h s = true) (hw : wB i 0 15 = true) (h1 : 8 ≤ i) (h2 : i < 15) : flim p c h s i = p := by rw [flim_y hv hw, lim, if_neg (by omega), if_neg (by omega), if_pos h2]
theorem flim_d {p c h s i : Int} (hv : vrB p c h s = true) (hw : wB i 0 15 = true) (h1 : 15 ≤ i) : flim p c h s i = 1 := by rw [flim_y hv hw, lim, if_neg (by omega), if_neg (by omega), if_neg (by omega)]

theorem l22Limit_any (p c h s i : Int) (w : World) (hv : vrB p c h s = true) : Calls Try.prog 91 #[vrV p c h s, .int .i64 i] w fun e w' => e = .returned (.int .i64 (lim p c i)) ∧ Below w.heap.size w w' := by
  obtain ⟨⟨p1, p2⟩, ⟨c1, c2⟩, _, _⟩ := vrB_true.1 hv
  have m1 : 0 ≤ c * (p + 1) := Int.mul_nonneg (by omega) (by omega)
  have m2 : c * (p + 1) ≤ 15 * 25 := Int.mul_le_mul (by omega) (by omega) (by omega) (by omega)
  have m3 : c * (p + 1) ≤ 9223372036854775807 := by omega
  have m4 : -9223372036854775808 ≤ c * (p + 1) := by omega
  clear m2
  go_enter Try.func91, Try.ntmps91
  go_wp2
  all_goals
    go_ret
    exact ⟨ret_int (by rw [lim]; repeat (first | rfl | (rw [if_pos (by omega)]) | (rw [if_neg (by omega)]))), (Below.refl _ _).alloc (Nat.le_refl _) _⟩

set_option maxHeartbeats 400000 in
theorem impl_FeatureLimit_any (p c h s i : Int) (w : World) : Calls Try.prog 35 #[vrV p c h s, .int .i64 i] w fun e w' => e = .returned (.int .i64 (flim p c h s i)) ∧ Below w.heap.size w w' := by
  by_cases hv : vrB p c h s = true
  · obtain ⟨⟨p1, p2⟩, ⟨c1, c2⟩, _, _⟩ := vrB_true.1 hv
    have m1 : 0 ≤ c * (p + 1) := Int.mul_nonneg (by omega) (by omega)
    have m2 : c * (p + 1) ≤ 15 * 25 := Int.mul_le_mul (by omega) (by omega) (by omega) (by omega)
    have m3 : c * (p + 1) ≤ 9223372036854775807 := by omega
    have m4 : -9223372036854775808 ≤ c * (p + 1) := by omega
    clear m2
    cases hw : wB i 0 15
    all_goals
      go_enter Try.func35, Try.ntmps35
      go_wp2_with (first | (go_at_call 63; refine (impl_IsVariant_any _ _ _ _ _).mono ?_; rintro e w1 ⟨rfl, hb⟩; obtain ⟨hc, hf⟩ := bcell hb; have hz := hb.size) | (go_at_call 64; refine (within_any _ _ _ _).mono ?_; rintro e w' ⟨rfl, rfl⟩))
      all_goals
        go_ret
        refine ⟨ret_int (by first | exact flim_0 hv hw | exact flim_y hv hw | (refine flim_a hv hw ?_; omega) | (refine flim_b hv hw ?_ ?_ <;> omega) | (refine flim_c hv hw ?_ ?_ <;> omega) | (refine flim_d hv hw ?_; omega)), ?_⟩
        first | exact ((Below.refl _ _).alloc (Nat.le_refl _) _).trans (hb.mono (by simp)) | exact (((Below.refl _ _).alloc (Nat.le_refl _) _).trans (hb.mono (by simp))).trans (hb2.mono (by simp at hz; omega))
  · have hv : vrB p c h s = false := by simpa using hv
    go_enter Try.func35, Try.ntmps35
    go_wp2_with (first | (go_at_call 63; refine (impl_IsVariant_any _ _ _ _ _).mono ?_; rintro e w1 ⟨rfl, hb⟩; obtain ⟨hc, hf⟩ := bcell hb; have hz := hb.size) | (go_at_call 64; refine (within_any _ _ _ _).mono ?_; rintro e w' ⟨rfl, rfl⟩))
    go_ret
    exact ⟨ret_int (by rw [flim, hv]; rfl), ((Below.refl _ _).alloc (Nat.le_refl _) _).trans (hb.mono (by simp))⟩


theorem toVariant_any (p c h s : Int) (w : World) : Calls Try.prog 15 #[vrV p c h s] w fun e w' => e = .returned (vrV p c h s) ∧ Below w.heap.size w w' := by
  go_enter Try.func15, Try.ntmps15
  go_wp2
  refine bodyPost_ret (v := vrV p c h s) (by simp [results, Try.results15, go_sem]) rfl ⟨rfl, ?_⟩
  exact (((Below.refl _ _).alloc (Nat.le_refl _) _).alloc (by simp) _).alloc (by simp; omega) _
end Go.Proofs.Ytoolggmomlmnbaa
