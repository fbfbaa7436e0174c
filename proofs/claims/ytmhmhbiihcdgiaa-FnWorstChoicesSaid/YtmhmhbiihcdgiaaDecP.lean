/-
  Decimal digits: the plain side.
-/
import Derived.Test.YtmhmhbiihcdgiaaPlain
import Derived.Lib.ItoaNum
import Derived.Laws.BytesArg
namespace Go.Proofs.Ytmhmhbiihcdgiaa
open Go.RowKit
set_option linter.unusedVariables false

def decL (m : Nat) : List Int := (Lib.decDigits m).map (fun b => (b.toNat : Int))
theorem u8_nat {k : Nat} (h : k < 256) : ((UInt8.ofNat k).toNat : Int) = (k : Int) := by
  have : (UInt8.ofNat k).toNat = k := by simp [UInt8.toNat_ofNat']; omega
  rw [this]
theorem decL_rec (m : Nat) : decL m = (if m / 10 = 0 then [] else decL (m / 10)) ++ [((48 + m % 10 : Nat) : Int)] := by
  unfold decL
  rw [Lib.decDigits]
  by_cases h : m < 10
  · rw [dif_pos h, if_pos (by omega), List.map_cons, List.map_nil, u8_nat (by omega), List.nil_append, Nat.mod_eq_of_lt h]
  · rw [dif_neg h, if_neg (by omega), List.map_append, List.map_cons, List.map_nil, u8_nat (by omega)]
theorem decL_ne (m : Nat) : decL m ≠ [] := by rw [decL_rec]; simp
/-- what is left of the digits of u when the digits xs stand already -/
def preD (r : Int) (xs : List Int) : List Int := if r = 0 ∧ xs ≠ [] then [] else decL r.natAbs
theorem preD_step {u : Nat} {r : Int} {xs : List Int} (h : decL u = preD r xs ++ xs) (hg : ¬ (r = 0 ∧ xs ≠ [])) : decL u = preD (r.tdiv 10) (((48 + r.natAbs % 10 : Nat) : Int) :: xs) ++ (((48 + r.natAbs % 10 : Nat) : Int) :: xs) := by
  rw [h, preD, if_neg hg, decL_rec r.natAbs]
  have hn : (r.tdiv 10).natAbs = r.natAbs / 10 := by
    rw [Int.natAbs_tdiv]; rfl
  have hz : (r.tdiv 10 = 0 ∧ ((48 + r.natAbs % 10 : Nat) : Int) :: xs ≠ []) ↔ r.natAbs / 10 = 0 := by
    rw [← hn]
    constructor
    · rintro ⟨e, _⟩; rw [e]; rfl
    · intro e; exact ⟨Int.natAbs_eq_zero.1 e, by simp⟩
  unfold preD
  by_cases c : r.natAbs / 10 = 0
  · rw [if_pos c, if_pos (hz.2 c)]; simp
  · rw [if_neg c, if_neg (fun e => c (hz.1 e)), hn]; simp
theorem strOfNums_dec (u : Nat) : strOfNums (decL u) = ⟨(Lib.decDigits u).toArray⟩ := by
  unfold strOfNums decL
  congr 1
  simp [List.map_map, Function.comp_def]
theorem decL_len : ∀ (k m : Nat), m < 10 ^ (k + 1) → (decL m).length ≤ k + 1
  | 0, m, h => by
    rw [decL_rec, if_pos (by omega)]; simp
  | k + 1, m, h => by
    rw [decL_rec]
    by_cases c : m / 10 = 0
    · rw [if_pos c]; simp
    · rw [if_neg c, List.length_append]
      have := decL_len k (m / 10) (by rw [Nat.pow_succ] at h; omega)
      simp
      omega
theorem max_dig (r : Int) : max (r.tmod 10) (-(r.tmod 10)) = ((r.natAbs % 10 : Nat) : Int) := by
  have h1 : (r.tmod 10).natAbs = r.natAbs % 10 := by rw [Int.natAbs_tmod]; rfl
  rw [← h1, Int.max_def]
  split <;> omega
/-- the text of a number -/
def itS (n : Int) : ByteArray := ⟨(Lib.itoa n).toArray⟩
theorem itS_neg {n : Int} (h : n < 0) : itS n = (⟨#[45]⟩ : ByteArray) ++ strOfNums (decL n.natAbs) := by
  rw [strOfNums_dec, itS, Lib.itoa, if_pos h]
  simp [ByteArray.mk_append_mk]
theorem itS_nn {n : Int} (h : ¬ n < 0) : itS n = strOfNums (decL n.natAbs) := by
  have e : n.toNat = n.natAbs := by omega
  rw [strOfNums_dec, itS, Lib.itoa, if_neg h, e]
theorem itS_size {n : Int} (h0 : -1000000000000000000 ≤ n) (h1 : n ≤ 1000000000000000000) : (itS n).size ≤ 20 := by
  have hl := decL_len 18 n.natAbs (by omega)
  by_cases hn : n < 0
  · rw [itS_neg hn, ByteArray.size_append, strOfNums_size]
    have : (⟨#[45]⟩ : ByteArray).size = 1 := rfl
    omega
  · rw [itS_nn hn, strOfNums_size]
    omega
end Go.Proofs.Ytmhmhbiihcdgiaa
