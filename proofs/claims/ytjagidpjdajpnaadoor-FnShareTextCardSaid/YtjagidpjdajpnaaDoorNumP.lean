/-
  Decimal texts are read back: the plain side.
-/
import Derived.Test.YtjagidpjdajpnaaDoorDecP
import Derived.Lib.ParseIntBCases
namespace Go.Proofs.YtjagidpjdajpnaaDoor
open Go.RowKit
set_option linter.unusedVariables false

theorem parseM_snoc (M : Nat) (c : UInt8) : ∀ (l : List UInt8) (acc u : Nat), Lib.parseUintM M acc l = .ok u → Lib.parseUintM M acc (l ++ [c]) = Lib.parseUintM M u [c]
  | [], acc, u, h => by
    simp only [Lib.parseUintM] at h
    injection h with h
    subst h
    rfl
  | b :: r, acc, u, h => by
    rw [List.cons_append, Lib.parseUintM]
    rw [Lib.parseUintM] at h
    by_cases h1 : 48 ≤ b.toNat ∧ b.toNat ≤ 57
    · rw [if_pos h1] at h ⊢
      by_cases h2 : 1844674407370955162 ≤ acc
      · rw [if_pos h2] at h; cases h
      · rw [if_neg h2] at h ⊢
        by_cases h3 : M < acc * 10 + (b.toNat - 48)
        · rw [if_pos h3] at h; cases h
        · rw [if_neg h3] at h ⊢
          exact parseM_snoc M c r _ u h
    · rw [if_neg h1] at h; cases h
theorem parseM_one {M u d : Nat} (hd : d < 10) (h : u * 10 + d ≤ M) (hM : M ≤ 18446744073709551615) : Lib.parseUintM M u [UInt8.ofNat (48 + d)] = .ok (u * 10 + d) := by
  have e : (UInt8.ofNat (48 + d)).toNat = 48 + d := by simp [UInt8.toNat_ofNat']; omega
  rw [Lib.parseUintM, e, if_pos (by omega), if_neg (by omega), if_neg (by omega), Lib.parseUintM]
  congr 1
  omega
theorem parseM_dec (M : Nat) (hM : M ≤ 18446744073709551615) (m : Nat) (h : m ≤ M) : Lib.parseUintM M 0 (Lib.decDigits m) = .ok m := by
  induction m using Nat.strongRecOn with
  | _ m ih =>
    rw [Lib.decDigits]
    by_cases c : m < 10
    · rw [dif_pos c]
      have := parseM_one (M := M) (u := 0) (d := m) c (by omega) hM
      rw [this]
      congr 1
      omega
    · rw [dif_neg c, parseM_snoc M _ _ _ _ (ih (m / 10) (by omega) (by omega)), parseM_one (by omega) (by omega) hM]
      congr 1
      omega
theorem decDigits_ne (m : Nat) : Lib.decDigits m ≠ [] := by
  rw [Lib.decDigits]
  split <;> simp
theorem decDigits_mem {m : Nat} : ∀ b ∈ Lib.decDigits m, 48 ≤ b.toNat ∧ b.toNat ≤ 57 := by
  induction m using Nat.strongRecOn with
  | _ m ih =>
    intro b hb
    rw [Lib.decDigits] at hb
    have e : ∀ d, d < 10 → (UInt8.ofNat (48 + d)).toNat = 48 + d := fun d hd => by simp [UInt8.toNat_ofNat']; omega
    by_cases c : m < 10
    · rw [dif_pos c] at hb
      have hb := List.mem_singleton.1 hb
      subst hb
      have := e m c
      omega
    · rw [dif_neg c, List.mem_append] at hb
      rcases hb with hb | hb
      · exact ih (m / 10) (by omega) b hb
      · have hb := List.mem_singleton.1 hb
        subst hb
        have := e (m % 10) (by omega)
        omega
theorem parseInt_itoa (n : Int) (h0 : -9223372036854775808 ≤ n) (h1 : n ≤ 9223372036854775807) : Lib.parseIntB 64 (Lib.itoa n) = .ok n := by
  have eM : (2 : Nat) ^ 64 - 1 = 18446744073709551615 := by decide
  have eC : (2 : Nat) ^ (64 - 1) = 9223372036854775808 := by decide
  have hU : ∀ m : Nat, m ≤ 18446744073709551615 → Lib.parseUintB 64 (Lib.decDigits m) = .ok m := by
    intro m hm
    rw [Lib.parseUintB, if_neg (decDigits_ne m), eM]
    exact parseM_dec _ (Nat.le_refl _) m hm
  unfold Lib.itoa
  by_cases hn : n < 0
  · rw [if_pos hn, Lib.parseIntB_minus, hU _ (by omega), eC, Lib.signedC, if_neg (by omega)]
    congr 1
    omega
  · rw [if_neg hn]
    have hm := hU n.toNat (by omega)
    cases hL : Lib.decDigits n.toNat with
    | nil => exact absurd hL (decDigits_ne _)
    | cons c r =>
      have hc := decDigits_mem c (hL ▸ List.mem_cons_self)
      rw [Lib.parseIntB_plain 64 c r (by omega) (by omega), ← hL, hm, eC, Lib.signlessC, if_neg (by omega)]
      congr 1
      omega
end Go.Proofs.YtjagidpjdajpnaaDoor
