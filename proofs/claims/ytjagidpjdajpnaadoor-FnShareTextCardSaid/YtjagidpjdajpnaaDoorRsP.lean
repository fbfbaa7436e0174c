/-
  impl.ReadShare: the plain side.
-/
import Derived.Test.YtjagidpjdajpnaaDoorRdW
namespace Go.Proofs.YtjagidpjdajpnaaDoor
open Go.RowKit
set_option linter.unusedVariables false
/-- what impl.ReadShare finds -/
def implR (s : ByteArray) : Int × Int × Bool :=
  if ((cutR 47 s.data.toList).2.2 && ((rdN ⟨(cutR 47 s.data.toList).1.toArray⟩).2 && ((rdN ⟨(cutR 47 s.data.toList).2.1.toArray⟩).2 && shB (rdN ⟨(cutR 47 s.data.toList).1.toArray⟩).1 (rdN ⟨(cutR 47 s.data.toList).2.1.toArray⟩).1))) = true
  then ((rdN ⟨(cutR 47 s.data.toList).1.toArray⟩).1, (rdN ⟨(cutR 47 s.data.toList).2.1.toArray⟩).1, true) else (0, 0, false)
theorem implR_eq (s : ByteArray) : implR s = rdS s := by
  unfold implR
  by_cases h : ((cutR 47 s.data.toList).2.2 && ((rdN ⟨(cutR 47 s.data.toList).1.toArray⟩).2 && ((rdN ⟨(cutR 47 s.data.toList).2.1.toArray⟩).2 && shB (rdN ⟨(cutR 47 s.data.toList).1.toArray⟩).1 (rdN ⟨(cutR 47 s.data.toList).2.1.toArray⟩).1))) = true
  · rw [if_pos h]
    simp only [Bool.and_eq_true] at h
    obtain ⟨h1, h2, h3, h4⟩ := h
    have e1 := cutR_out (c := 47) (l := s.data.toList) (a := (cutR 47 s.data.toList).1) (b := (cutR 47 s.data.toList).2.1) (by rw [← h1])
    have e2 := rdN_out (s := ⟨(cutR 47 s.data.toList).1.toArray⟩) (n := (rdN ⟨(cutR 47 s.data.toList).1.toArray⟩).1) (by rw [← h2])
    have e3 := rdN_out (s := ⟨(cutR 47 s.data.toList).2.1.toArray⟩) (n := (rdN ⟨(cutR 47 s.data.toList).2.1.toArray⟩).1) (by rw [← h3])
    refine (rdS_yes h4 ?_).symm
    rw [← e2, ← e3]
    exact e1
  · rw [if_neg h]
    refine (rdS_no (fun n d hnd e => h ?_)).symm
    obtain ⟨⟨n0, n1⟩, ⟨d0, d1⟩⟩ := shB_rg hnd
    have hc : cutR 47 s.data.toList = (Lib.itoa n, Lib.itoa d, true) := by rw [e, cutR_mk (itoa_free rfl)]
    have hn : rdN ⟨(Lib.itoa n).toArray⟩ = (n, true) := rdN_yes (by omega) (by omega) rfl
    have hd : rdN ⟨(Lib.itoa d).toArray⟩ = (d, true) := rdN_yes (by omega) (by omega) rfl
    rw [hc]
    simp only [hn, hd, hnd]
    rfl
end Go.Proofs.YtjagidpjdajpnaaDoor
