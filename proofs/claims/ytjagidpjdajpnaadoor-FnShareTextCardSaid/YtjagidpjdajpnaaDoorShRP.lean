/-
  The text of a share and its reading: the plain side.
-/
import Derived.Test.YtjagidpjdajpnaaDoorCutP
import Derived.Test.YtjagidpjdajpnaaDoorGcd
namespace Go.Proofs.YtjagidpjdajpnaaDoor
open Go.RowKit
set_option linter.unusedVariables false

/-- the text of a share that is valid -/
def shR (n d : Int) : ByteArray := itS n ++ (⟨#[47]⟩ : ByteArray) ++ itS d
def shT (n d : Int) : ByteArray := if shB n d then shR n d else ⟨#[]⟩
theorem shR_list (n d : Int) : (shR n d).data.toList = Lib.itoa n ++ 47 :: Lib.itoa d := by
  simp [shR, itS, ByteArray.data_append]
theorem shR_ext {s : ByteArray} {n d : Int} (h : s.data.toList = Lib.itoa n ++ 47 :: Lib.itoa d) : s = shR n d := by
  rw [← shR_list] at h
  cases s with
  | mk a =>
    have : a = (shR n d).data := Array.toList_inj.1 h
    rw [this]
/-- the share that a text spells -/
def rdS (s : ByteArray) : Int × Int × Bool :=
  match Lib.parseIntB 64 (cutR 47 s.data.toList).1, Lib.parseIntB 64 (cutR 47 s.data.toList).2.1 with
  | .ok n, .ok d => if shB n d = true ∧ s.data.toList = Lib.itoa n ++ 47 :: Lib.itoa d then (n, d, true) else (0, 0, false)
  | _, _ => (0, 0, false)
theorem shB_rg {n d : Int} (h : shB n d = true) : (0 ≤ n ∧ n ≤ 1000000000000000) ∧ (0 ≤ d ∧ d ≤ 1000000000000000) := by
  obtain ⟨h1, h2, h3, h4, _⟩ := shB_out h
  omega
theorem rdS_yes {s : ByteArray} {n d : Int} (h : shB n d = true) (hs : s.data.toList = Lib.itoa n ++ 47 :: Lib.itoa d) : rdS s = (n, d, true) := by
  obtain ⟨⟨n0, n1⟩, ⟨d0, d1⟩⟩ := shB_rg h
  unfold rdS
  rw [hs, cutR_mk (itoa_free rfl)]
  simp only [parseInt_itoa n (by omega) (by omega), parseInt_itoa d (by omega) (by omega)]
  rw [if_pos ⟨h, trivial⟩]
theorem rdS_no {s : ByteArray} (h : ∀ n d, shB n d = true → s.data.toList ≠ Lib.itoa n ++ 47 :: Lib.itoa d) : rdS s = (0, 0, false) := by
  unfold rdS
  split
  · rename_i n d _ _
    rw [if_neg (fun e => h n d e.1 e.2)]
  · rfl
theorem rdS_text {n d : Int} (h : shB n d = true) : rdS (shT n d) = (n, d, true) := by
  rw [shT, if_pos h]
  exact rdS_yes h (shR_list n d)
theorem itoa_ne (n : Int) : Lib.itoa n ≠ [] := by
  unfold Lib.itoa
  split
  · simp
  · exact decDigits_ne _
theorem rdS_none : rdS ⟨#[]⟩ = (0, 0, false) := rdS_no (fun n d _ e => by
  have := congrArg List.length e
  simp at this)
theorem shT_none {n d : Int} (h : shB n d = false) : shT n d = ⟨#[]⟩ := by simp [shT, h]
theorem shR_ne (n d : Int) : shR n d ≠ ⟨#[]⟩ := by
  intro e
  have := congrArg (fun s : ByteArray => s.data.toList.length) e
  rw [shR_list] at this
  simp at this
/-- the number that a text spells, as strconv's ParseInt and FormatInt take it -/
def rdN (s : ByteArray) : Int × Bool := match Lib.parseIntB 64 s.data.toList with
  | .ok n => if Lib.itoa n = s.data.toList then (n, true) else (0, false)
  | _ => (0, false)
theorem rdN_yes {s : ByteArray} {n : Int} (h0 : -9223372036854775808 ≤ n) (h1 : n ≤ 9223372036854775807) (h : s.data.toList = Lib.itoa n) : rdN s = (n, true) := by
  unfold rdN
  rw [h, parseInt_itoa n h0 h1]
  simp
theorem rdN_out {s : ByteArray} {n : Int} (h : rdN s = (n, true)) : s.data.toList = Lib.itoa n := by
  unfold rdN at h
  split at h
  · rename_i m _
    by_cases e : Lib.itoa m = s.data.toList
    · rw [if_pos e] at h
      injection h with h _
      rw [← h, e]
    · rw [if_neg e] at h
      injection h with _ h
      cases h
  · injection h with _ h
    cases h
end Go.Proofs.YtjagidpjdajpnaaDoor
