/-
  spec.ReadShare: the plain side.
-/
import Derived.Test.YtjagidpjdajpnaaDoorShRP
namespace Go.Proofs.YtjagidpjdajpnaaDoor
open Go.RowKit
set_option linter.unusedVariables false

/-- the number that digits spell behind n; -1 if there is another byte -/
def rd18 : List UInt8 → Int → Int
  | [], n => n
  | b :: l, n => if b.toNat < 48 ∨ 57 < b.toNat then -1 else rd18 l (10 * n + ((b.toNat : Int) - 48))
def rdV (l : List UInt8) : Int := if l.length < 1 ∨ 16 < l.length then -1 else rd18 l 0
theorem rd18_app : ∀ (l r : List UInt8) (n : Int), (∀ b ∈ l, 48 ≤ b.toNat ∧ b.toNat ≤ 57) → rd18 (l ++ r) n = rd18 r (rd18 l n)
  | [], r, n, _ => rfl
  | b :: l, r, n, h => by
    have hb := h b List.mem_cons_self
    rw [List.cons_append, rd18, if_neg (by omega), rd18_app l r _ (fun x hx => h x (List.mem_cons_of_mem _ hx))]
    conv => rhs; rw [rd18, if_neg (show ¬ (b.toNat < 48 ∨ 57 < b.toNat) by omega)]
theorem rd18_dec (m : Nat) : rd18 (Lib.decDigits m) 0 = m := by
  induction m using Nat.strongRecOn with
  | _ m ih =>
    have e : ∀ d, d < 10 → (UInt8.ofNat (48 + d)).toNat = 48 + d := fun d hd => by simp [UInt8.toNat_ofNat']; omega
    rw [Lib.decDigits]
    by_cases c : m < 10
    · rw [dif_pos c, rd18, e m c, if_neg (by omega), rd18]
      omega
    · rw [dif_neg c, rd18_app _ _ _ decDigits_mem, ih (m / 10) (by omega), rd18, e (m % 10) (by omega), if_neg (by omega), rd18]
      omega
theorem rdV_itoa {n : Int} (h0 : 0 ≤ n) (h1 : n ≤ 1000000000000000) : rdV (Lib.itoa n) = n := by
  have hl := decL_len 15 n.toNat (by omega)
  rw [decL, List.length_map] at hl
  have hne := decDigits_ne n.toNat
  have hp : 0 < (Lib.decDigits n.toNat).length := List.length_pos_iff.2 hne
  rw [Lib.itoa, if_neg (by omega), rdV, if_neg (by omega), rd18_dec]
  omega
/-- what spec.ReadShare finds -/
def specR (s : ByteArray) : Int × Int × Bool :=
  match splA 47 [] s.data.toList with
  | [a, b] => if shB (rdV a) (rdV b) = true ∧ shT (rdV a) (rdV b) = s then (rdV a, rdV b, true) else (0, 0, false)
  | _ => (0, 0, false)
theorem specR_eq (s : ByteArray) : specR s = rdS s := by
  by_cases h : ∃ n d, shB n d = true ∧ s.data.toList = Lib.itoa n ++ 47 :: Lib.itoa d
  · obtain ⟨n, d, hnd, e⟩ := h
    obtain ⟨⟨n0, n1⟩, ⟨d0, d1⟩⟩ := shB_rg hnd
    rw [rdS_yes hnd e]
    unfold specR
    rw [e, splA_cut _ (itoa_free rfl), splA_free _ (itoa_free rfl), List.nil_append, List.nil_append]
    simp only [rdV_itoa n0 n1, rdV_itoa d0 d1]
    rw [if_pos ⟨hnd, by rw [shT, if_pos hnd]; exact (shR_ext e).symm⟩]
  · rw [rdS_no (fun n d h1 h2 => h ⟨n, d, h1, h2⟩)]
    unfold specR
    split
    · rename_i a b _
      rw [if_neg]
      rintro ⟨h1, h2⟩
      rw [shT, if_pos h1] at h2
      exact h ⟨_, _, h1, by rw [← h2, shR_list]⟩
    · rfl
end Go.Proofs.YtjagidpjdajpnaaDoor
