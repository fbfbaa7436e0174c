/-
  Texts cut at a byte: the plain side.
-/
import Derived.Test.YtjagidpjdajpnaaDoorNumP
import Derived.Lib.IndexMore
namespace Go.Proofs.YtjagidpjdajpnaaDoor
open Go.RowKit
set_option linter.unusedVariables false

/-- the text before and after the first byte c -/
def cutR (c : UInt8) : List UInt8 → List UInt8 × List UInt8 × Bool
  | [] => ([], [], false)
  | b :: l => if b = c then ([], l, true) else (b :: (cutR c l).1, (cutR c l).2.1, (cutR c l).2.2)
theorem index_one (c b : UInt8) (l : List UInt8) : Lib.index (b :: l) [c] = if b = c then 0 else if Lib.index l [c] = -1 then -1 else Lib.index l [c] + 1 := by
  rw [Lib.index]
  by_cases h : b = c
  · subst h
    simp [List.isPrefixOf]
  · have h' : ¬ c = b := fun e => h e.symm
    simp [List.isPrefixOf, h, h']
theorem cut_one (c : UInt8) : ∀ l : List UInt8, Lib.cut l [c] = cutR c l
  | [] => by simp [Lib.cut, Lib.index, cutR]
  | b :: l => by
    have ih := cut_one c l
    have hge := Lib.index_ge l [c]
    rw [cutR]
    unfold Lib.cut at ih ⊢
    rw [index_one]
    by_cases h : b = c
    · rw [if_pos h, if_pos h]
      simp
    · rw [if_neg h, if_neg h]
      by_cases h2 : Lib.index l [c] = -1
      · rw [if_pos h2, if_neg (by omega)]
        rw [if_neg (by omega)] at ih
        rw [← ih]
      · rw [if_neg h2, if_pos (by omega)]
        rw [if_pos (by omega)] at ih
        rw [← ih]
        have e : (Lib.index l [c] + 1).toNat = (Lib.index l [c]).toNat + 1 := by omega
        rw [e]
        simp [List.take_succ_cons]
theorem cutR_mk {c : UInt8} {b : List UInt8} : ∀ {a : List UInt8}, c ∉ a → cutR c (a ++ c :: b) = (a, b, true)
  | [], _ => by rw [List.nil_append, cutR, if_pos rfl]
  | x :: a, h => by
    rw [List.mem_cons, not_or] at h
    rw [List.cons_append, cutR, if_neg (fun e => h.1 e.symm), cutR_mk h.2]
theorem cutR_out {c : UInt8} : ∀ {l a b : List UInt8}, cutR c l = (a, b, true) → l = a ++ c :: b
  | [], a, b, h => by simp [cutR] at h
  | x :: l, a, b, h => by
    rw [cutR] at h
    by_cases e : x = c
    · rw [if_pos e] at h
      injection h with h1 h2
      injection h2 with h2 _
      subst h1 h2 e
      rfl
    · rw [if_neg e] at h
      injection h with h1 h2
      injection h2 with h2 h3
      have := cutR_out (l := l) (a := (cutR c l).1) (b := b) (by rw [← h2, ← h3])
      rw [← h1, List.cons_append, ← this]
/-- the texts between the bytes c; cur stands already -/
def splA (c : UInt8) : List UInt8 → List UInt8 → List (List UInt8)
  | cur, [] => [cur]
  | cur, b :: l => if b = c then cur :: splA c [] l else splA c (cur ++ [b]) l
theorem splA_free {c : UInt8} : ∀ {l : List UInt8} (cur : List UInt8), c ∉ l → splA c cur l = [cur ++ l]
  | [], cur, _ => by rw [splA, List.append_nil]
  | b :: l, cur, h => by
    rw [List.mem_cons, not_or] at h
    rw [splA, if_neg (fun e => h.1 e.symm), splA_free _ h.2, List.append_assoc]
    rfl
theorem splA_cut {c : UInt8} {b : List UInt8} : ∀ {a : List UInt8} (cur : List UInt8), c ∉ a → splA c cur (a ++ c :: b) = (cur ++ a) :: splA c [] b
  | [], cur, _ => by rw [List.nil_append, splA, if_pos rfl, List.append_nil]
  | x :: a, cur, h => by
    rw [List.mem_cons, not_or] at h
    rw [List.cons_append, splA, if_neg (fun e => h.1 e.symm), splA_cut _ h.2, List.append_assoc]
    rfl
theorem itoa_free {n : Int} {c : UInt8} (h : c.toNat = 47) : c ∉ Lib.itoa n := by
  intro hc
  unfold Lib.itoa at hc
  split at hc
  · rw [List.mem_cons] at hc
    rcases hc with e | hc
    · subst e; exact absurd h (by decide)
    · have := decDigits_mem _ hc; omega
  · have := decDigits_mem _ hc; omega
theorem itoa_inj {n m : Int} (h0 : -9223372036854775808 ≤ n) (h1 : n ≤ 9223372036854775807) (g0 : -9223372036854775808 ≤ m) (g1 : m ≤ 9223372036854775807) (h : Lib.itoa n = Lib.itoa m) : n = m := by
  have e := parseInt_itoa n h0 h1
  rw [h, parseInt_itoa m g0 g1] at e
  injection e with e
  exact e.symm
end Go.Proofs.YtjagidpjdajpnaaDoor
