/-
  The walks of FeatureName (both packages): the name of a feature out of a table of sixteen.
-/
import Derived.Test.YtoolggmomlmnbaaMem
namespace Go.Proofs.Ytoolggmomlmnbaa
open Go.ChangeShapes Go.WideShapes Go.ChangeAt Go.RowKit

/-- what both packages' FeatureName returns -/
def fname (i : Int) : ByteArray :=
  if i = 0 then ⟨#[112, 105, 112, 115]⟩ else
  if i = 1 then ⟨#[111, 116, 104, 101, 114, 112, 105, 112, 115]⟩ else
  if i = 2 then ⟨#[98, 97, 114]⟩ else
  if i = 3 then ⟨#[111, 116, 104, 101, 114, 98, 97, 114]⟩ else
  if i = 4 then ⟨#[111, 102, 102]⟩ else
  if i = 5 then ⟨#[111, 116, 104, 101, 114, 111, 102, 102]⟩ else
  if i = 6 then ⟨#[98, 108, 111, 116, 115]⟩ else
  if i = 7 then ⟨#[111, 116, 104, 101, 114, 98, 108, 111, 116, 115]⟩ else
  if i = 8 then ⟨#[112, 111, 105, 110, 116, 115]⟩ else
  if i = 9 then ⟨#[111, 116, 104, 101, 114, 112, 111, 105, 110, 116, 115]⟩ else
  if i = 10 then ⟨#[104, 111, 109, 101]⟩ else
  if i = 11 then ⟨#[111, 116, 104, 101, 114, 104, 111, 109, 101]⟩ else
  if i = 12 then ⟨#[112, 114, 105, 109, 101]⟩ else
  if i = 13 then ⟨#[111, 116, 104, 101, 114, 112, 114, 105, 109, 101]⟩ else
  if i = 14 then ⟨#[97, 110, 99, 104, 111, 114, 115]⟩ else
  if i = 15 then ⟨#[99, 111, 110, 116, 97, 99, 116]⟩ else
  ⟨#[]⟩
theorem fname_no {i : Int} (h : wB i 0 15 = false) : fname i = ⟨#[]⟩ := by
  have := wB_false.1 h
  unfold fname
  repeat rw [if_neg (by omega)]

set_option maxHeartbeats 1600000 in
theorem impl_FeatureName_any (i : Int) (w : World) : Calls Try.prog 36 #[.int .i64 i] w fun e w' => e = .returned (.string (fname i)) ∧ Below w.heap.size w w' := by
  by_cases hw : wB i 0 15 = true
  · have hi := wB_true.1 hw
    obtain rfl | rfl | rfl | rfl | rfl | rfl | rfl | rfl | rfl | rfl | rfl | rfl | rfl | rfl | rfl | rfl : i = 0 ∨ i = 1 ∨ i = 2 ∨ i = 3 ∨ i = 4 ∨ i = 5 ∨ i = 6 ∨ i = 7 ∨ i = 8 ∨ i = 9 ∨ i = 10 ∨ i = 11 ∨ i = 12 ∨ i = 13 ∨ i = 14 ∨ i = 15 := by omega
    all_goals
      go_enter Try.func36, Try.ntmps36
      go_wp2_with ((go_at_call 64; refine (within_any _ _ _ _).mono ?_; rintro e w' ⟨rfl, rfl⟩))
      go_ret
      exact ⟨rfl, (Below.refl _ _).alloc (Nat.le_refl _) _⟩
  · have hw : wB i 0 15 = false := by simpa using hw
    have H := Lib.hid (fname_no hw)
    go_enter Try.func36, Try.ntmps36
    go_wp2_with ((go_at_call 64; refine (within_any _ _ _ _).mono ?_; rintro e w' ⟨rfl, rfl⟩))
    go_ret
    exact ⟨ret_str H.out, (Below.refl _ _).alloc (Nat.le_refl _) _⟩

end Go.Proofs.Ytoolggmomlmnbaa
