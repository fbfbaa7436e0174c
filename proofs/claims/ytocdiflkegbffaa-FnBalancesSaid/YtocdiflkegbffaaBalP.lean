/-
  Plain facts of balances: they add up to 0, and each is the sum of the totals against all others. No program in sight.
-/
import Derived.Test.YtocdiflkegbffaaBal
namespace Go.Proofs.Ytocdiflkegbffaa
open Go.RowKit

def sumN (f : Nat → Int) : Nat → Int
  | 0 => 0
  | k + 1 => sumN f k + f k
/-- the sum over all but a -/
def sumX (a : Nat) (f : Nat → Int) : Nat → Int
  | 0 => 0
  | k + 1 => sumX a f k + if a = k then 0 else f k
theorem sumN_succ (f : Nat → Int) (k : Nat) : sumN f (k + 1) = sumN f k + f k := rfl
theorem sumX_succ (a : Nat) (f : Nat → Int) (k : Nat) : sumX a f (k + 1) = sumX a f k + if a = k then 0 else f k := rfl
def indV (x z : Int) (j : Nat) : Int := if x = (j : Int) then z else 0
theorem sumN_ind {x z : Int} (h : 0 ≤ x) : ∀ p : Nat, sumN (indV x z) p = if x < p then z else 0
  | 0 => by rw [if_neg (by omega)]; rfl
  | p + 1 => by
    rw [sumN_succ, sumN_ind h p, indV]
    by_cases e : x = p
    · rw [if_neg (by omega), if_pos e, if_pos (by omega)]; omega
    · rw [if_neg e]
      by_cases c : x < p
      · rw [if_pos c, if_pos (by omega)]; omega
      · rw [if_neg c, if_neg (by omega)]; omega
theorem sumX_ind {a : Nat} {x z : Int} (h : 0 ≤ x) (hne : x ≠ a) : ∀ p : Nat, sumX a (indV x z) p = if x < p then z else 0
  | 0 => by rw [if_neg (by omega)]; rfl
  | p + 1 => by
    rw [sumX_succ, sumX_ind h hne p, indV]
    by_cases e : x = p
    · rw [if_neg (by omega : ¬ x < (p : Int)), if_neg (by omega : ¬ a = p), if_pos e, if_pos (by omega)]; omega
    · rw [if_neg e, ite_self]
      by_cases c : x < p
      · rw [if_pos c, if_pos (by omega)]; omega
      · rw [if_neg c, if_neg (by omega)]; omega
theorem sumX_zero (a : Nat) : ∀ p : Nat, sumX a (fun _ => 0) p = 0
  | 0 => rfl
  | p + 1 => by rw [sumX_succ, sumX_zero a p, ite_self]; rfl
theorem sumX_add (a : Nat) (f g : Nat → Int) : ∀ p : Nat, sumX a (fun j => f j + g j) p = sumX a f p + sumX a g p
  | 0 => rfl
  | p + 1 => by
    rw [sumX_succ, sumX_succ, sumX_succ, sumX_add a f g p]
    split <;> omega
theorem sumX_congr {a : Nat} {f g : Nat → Int} : ∀ {p : Nat}, (∀ j, j < p → j ≠ a → f j = g j) → sumX a f p = sumX a g p
  | 0, _ => rfl
  | p + 1, h => by
    rw [sumX_succ, sumX_succ, sumX_congr (fun j hj hn => h j (by omega) hn)]
    by_cases e : a = p
    · rw [if_pos e, if_pos e]
    · rw [if_neg e, if_neg e, h p (by omega) (fun c => e c.symm)]
theorem sumX_bd {a : Nat} {f : Nat → Int} {M : Int} (hM : 0 ≤ M) : ∀ {p : Nat}, (∀ j, -M ≤ f j ∧ f j ≤ M) → -((p : Int) * M) ≤ sumX a f p ∧ sumX a f p ≤ (p : Int) * M
  | 0, _ => by simp [sumX]
  | p + 1, h => by
    have h1 := sumX_bd (a := a) hM (p := p) h
    have h2 := h p
    rw [sumX_succ]
    have e : ((p + 1 : Nat) : Int) * M = (p : Int) * M + M := by rw [Int.natCast_add, Int.add_mul]; simp
    split <;> omega
theorem sumN_bd {f : Nat → Int} {M : Int} : ∀ {p : Nat}, (∀ j, -M ≤ f j ∧ f j ≤ M) → -((p : Int) * M) ≤ sumN f p ∧ sumN f p ≤ (p : Int) * M
  | 0, _ => by simp [sumN]
  | p + 1, h => by
    have h1 := sumN_bd (p := p) h
    have h2 := h p
    rw [sumN_succ]
    have e : ((p + 1 : Nat) : Int) * M = (p : Int) * M + M := by rw [Int.natCast_add, Int.add_mul]; simp
    omega
theorem sumN_three (f g h : Nat → Int) : ∀ p : Nat, sumN (fun j => f j + g j - h j) p = sumN f p + sumN g p - sumN h p
  | 0 => rfl
  | p + 1 => by
    rw [sumN_succ, sumN_succ, sumN_succ, sumN_succ, sumN_three f g h p]
    omega
theorem balK_fun (xs : List Int) (k : Nat) : balK xs (k + 1) = fun j => balK xs k j + indV (xs.getD (k * 3) 0) (xs.getD (k * 3 + 2) 0) j - indV (xs.getD (k * 3 + 1) 0) (xs.getD (k * 3 + 2) 0) j := by
  funext j
  rw [balK_succ]
  rfl
/-- the balances add up to 0 -/
theorem bal_sum {p : Nat} {xs : List Int} : ∀ k : Nat, (∀ i, i < k → okR p (xs.getD (i * 3) 0) (xs.getD (i * 3 + 1) 0) (xs.getD (i * 3 + 2) 0) = true) → sumN (balK xs k) p = 0
  | 0, _ => by
    have e : balK xs 0 = fun _ => 0 := by funext j; rfl
    rw [e]
    have : ∀ q : Nat, sumN (fun _ => 0) q = 0 := fun q => by
      induction q with
      | zero => rfl
      | succ q ih => rw [sumN_succ, ih]; rfl
    exact this p
  | k + 1, h => by
    obtain ⟨x0, x1, y0, y1, hxy⟩ := okR_xy (h k (by omega))
    rw [balK_fun, sumN_three, bal_sum k (fun i hi => h i (by omega)), sumN_ind x0, sumN_ind y0, if_pos (by omega), if_pos (by omega)]
    omega
/-- a balance is the sum of the totals against all others -/
theorem bal_pairs {p a : Nat} {xs : List Int} : ∀ k : Nat, (∀ i, i < k → okR p (xs.getD (i * 3) 0) (xs.getD (i * 3 + 1) 0) (xs.getD (i * 3 + 2) 0) = true) → sumX a (fun b => ptK a b xs k) p = balK xs k a
  | 0, _ => by
    have e : (fun b : Nat => ptK a b xs 0) = fun _ => 0 := by funext j; rfl
    rw [e, sumX_zero]
    rfl
  | k + 1, h => by
    obtain ⟨x0, x1, y0, y1, hxy⟩ := okR_xy (h k (by omega))
    have e : (fun b : Nat => ptK a b xs (k + 1)) = fun b : Nat => ptK a b xs k + (if xs.getD (k * 3) 0 = a ∧ xs.getD (k * 3 + 1) 0 = b then xs.getD (k * 3 + 2) 0 else if xs.getD (k * 3) 0 = b ∧ xs.getD (k * 3 + 1) 0 = a then -(xs.getD (k * 3 + 2) 0) else 0) := by
      funext b; exact ptK_succ a b xs k
    rw [e, sumX_add, bal_pairs k (fun i hi => h i (by omega)), balK_succ]
    generalize xs.getD (k * 3) 0 = x at *
    generalize xs.getD (k * 3 + 1) 0 = y at *
    generalize xs.getD (k * 3 + 2) 0 = z at *
    by_cases c : x = a
    · have e2 : sumX a (fun b : Nat => if x = a ∧ y = b then z else if x = b ∧ y = a then -z else 0) p = sumX a (indV y z) p := sumX_congr fun j _ hn => by
        by_cases d : y = j
        · rw [if_pos ⟨c, d⟩, indV, if_pos d]
        · rw [if_neg (fun q => d q.2), if_neg (fun q => hxy (c.trans q.2.symm)), indV, if_neg d]
      rw [e2, sumX_ind y0 (by omega), if_pos (by omega), if_pos c, if_neg (by omega)]
      omega
    · by_cases c2 : y = a
      · have e2 : sumX a (fun b : Nat => if x = a ∧ y = b then z else if x = b ∧ y = a then -z else 0) p = sumX a (indV x (-z)) p := sumX_congr fun j _ hn => by
          rw [if_neg (fun q => c q.1)]
          by_cases d : x = j
          · rw [if_pos ⟨d, c2⟩, indV, if_pos d]
          · rw [if_neg (fun q => d q.1), indV, if_neg d]
        rw [e2, sumX_ind x0 (by omega), if_pos (by omega), if_neg c, if_pos c2]
        omega
      · have e2 : sumX a (fun b : Nat => if x = a ∧ y = b then z else if x = b ∧ y = a then -z else 0) p = sumX a (fun _ => 0) p := sumX_congr fun j _ hn => by
          rw [if_neg (fun q => c q.1), if_neg (fun q => c2 q.2)]
        rw [e2, sumX_zero, if_neg c, if_neg c2]
        omega
end Go.Proofs.Ytocdiflkegbffaa
