/-
  Plain facts on integers and lists that the walks of this seat use; no program in sight.
  Nothing is assumed.
-/
import Derived.WalkKit
import Derived.Laws.BitsAllLaws
import Derived.Laws.BitsLemmas
namespace Go.Proofs.Ytjfmpnkbocilpaa
open Go.RowKit

theorem ret_bool {a b : Bool} (h : b = a) : Ending.returned (.bool a) = Ending.returned (.bool b) := by rw [h]
theorem ret_int {k : IntKind} {a b : Int} (h : b = a) : Ending.returned (.int k a) = Ending.returned (.int k b) := by rw [h]
theorem ret_str {a b : ByteArray} (h : b = a) : Ending.returned (.string a) = Ending.returned (.string b) := by rw [h]
theorem ret_val {a b : Value} (h : b = a) : Ending.returned a = Ending.returned b := by rw [h]

/-- x lies between lo and hi. -/
def wB (x lo hi : Int) : Bool := decide (lo ≤ x) && decide (x ≤ hi)
theorem wB_true {x lo hi : Int} : wB x lo hi = true ↔ lo ≤ x ∧ x ≤ hi := by simp [wB]
theorem wB_false {x lo hi : Int} : wB x lo hi = false ↔ x < lo ∨ hi < x := by
  unfold wB
  by_cases h : lo ≤ x <;> by_cases k : x ≤ hi <;> simp [h, k] <;> omega

/-- x is a power of two from 1 on that is at most 'most' (for 'most' up to 1024). -/
def pwB (x most : Int) : Bool := decide (x ≤ most) && (x == 1 || x == 2 || x == 4 || x == 8 || x == 16 || x == 32 || x == 64 || x == 128 || x == 256 || x == 512 || x == 1024)
theorem pwB_pos {x most : Int} (h : pwB x most = true) : 1 ≤ x ∧ x ≤ most := by
  unfold pwB at h
  simp at h
  omega
theorem and_pow : ∀ n : Fin 1025, 1 ≤ n.val → ((bits .and .i64 (n.val : Int) ((n.val : Int) - 1) == 0) = ((n.val : Int) == 1 || (n.val : Int) == 2 || (n.val : Int) == 4 || (n.val : Int) == 8 || (n.val : Int) == 16 || (n.val : Int) == 32 || (n.val : Int) == 64 || (n.val : Int) == 128 || (n.val : Int) == 256 || (n.val : Int) == 512 || (n.val : Int) == 1024)) := by decide +kernel
theorem pwB_and {x most : Int} (hm : most ≤ 1024) (h1 : 1 ≤ x) (h2 : x ≤ most) : (bits .and .i64 x (x - 1) == 0) = pwB x most := by
  obtain ⟨n, rfl⟩ := Int.eq_ofNat_of_zero_le (show 0 ≤ x by omega)
  have h := and_pow ⟨n, by omega⟩ (by show 1 ≤ n; omega)
  simp only [pwB, h2, decide_true, Bool.true_and]
  exact h
theorem pwB_low {x most : Int} (h : x < 1 ∨ most < x) : pwB x most = false := by
  unfold pwB
  rcases h with h | h
  · have : (x == 1 || x == 2 || x == 4 || x == 8 || x == 16 || x == 32 || x == 64 || x == 128 || x == 256 || x == 512 || x == 1024) = false := by simp; omega
    rw [this, Bool.and_false]
  · have : decide (x ≤ most) = false := by simp; omega
    rw [this, Bool.false_and]

/-- k is one of the powers 1, 2, .., 2048, and no smaller power is x. -/
def powAt (x k : Int) : Prop := (k = 1 ∨ k = 2 ∨ k = 4 ∨ k = 8 ∨ k = 16 ∨ k = 32 ∨ k = 64 ∨ k = 128 ∨ k = 256 ∨ k = 512 ∨ k = 1024 ∨ k = 2048) ∧ (x < k → ∀ m, pwB x m = false)
theorem powAt_one (x : Int) : powAt x 1 := ⟨by omega, fun h m => by unfold pwB; have : (x == 1 || x == 2 || x == 4 || x == 8 || x == 16 || x == 32 || x == 64 || x == 128 || x == 256 || x == 512 || x == 1024) = false := by (simp; omega)
                                                                    rw [this, Bool.and_false]⟩
theorem powAt.bounds {x k : Int} (h : powAt x k) : 1 ≤ k ∧ k ≤ 2048 := by have := h.1; omega
theorem powAt.yes {x k most : Int} (h : powAt x k) (h1 : k ≤ most) (h2 : k = x) (h3 : k ≤ 1024 := by omega) : pwB x most = true := by
  subst h2
  have := h.1
  unfold pwB
  simp
  omega
theorem powAt.next {x k : Int} (h : powAt x k) (h2 : ¬ k = x) (h3 : k ≤ 1024) : powAt x (2 * k) := by
  refine ⟨by have := h.1; omega, fun hx m => ?_⟩
  by_cases c : x < k
  · exact h.2 c m
  · have := h.1
    unfold pwB
    have : (x == 1 || x == 2 || x == 4 || x == 8 || x == 16 || x == 32 || x == 64 || x == 128 || x == 256 || x == 512 || x == 1024) = false := by simp; omega
    rw [this, Bool.and_false]
theorem powAt.no {x k most : Int} (h : powAt x k) (h1 : most < k) : pwB x most = false := by
  by_cases c : x < k
  · exact h.2 c _
  · unfold pwB
    have : decide (x ≤ most) = false := by simp; omega
    rw [this, Bool.false_and]

/-- the sum of the first k integers -/
def psum (xs : List Int) : Nat → Int
  | 0 => 0
  | k + 1 => psum xs k + xs.getD k 0
theorem psum_succ (xs : List Int) (k : Nat) : psum xs (k + 1) = psum xs k + xs.getD k 0 := rfl
theorem psum_bd (xs : List Int) (M : Int) : ∀ k, (∀ i, i < k → -M ≤ xs.getD i 0 ∧ xs.getD i 0 ≤ M) → -(k * M) ≤ psum xs k ∧ psum xs k ≤ k * M
  | 0, _ => by simp [psum]
  | k + 1, h => by
    have h1 := psum_bd xs M k (fun i hi => h i (by omega))
    have h2 := h k (by omega)
    rw [psum_succ]
    have e : ((k + 1 : Nat) : Int) * M = k * M + M := by rw [Int.natCast_add, Int.add_mul]; simp
    omega
/-- the first k integers all answer p -/
def allTo (p : Int → Bool) (xs : List Int) : Nat → Bool
  | 0 => true
  | k + 1 => allTo p xs k && p (xs.getD k 0)
theorem allTo_succ (p : Int → Bool) (xs : List Int) (k : Nat) : allTo p xs (k + 1) = (allTo p xs k && p (xs.getD k 0)) := rfl
theorem allTo_at {p : Int → Bool} {xs : List Int} : ∀ {k : Nat}, allTo p xs k = true → ∀ i, i < k → p (xs.getD i 0) = true
  | 0, _, i, hi => absurd hi (by omega)
  | k + 1, h, i, hi => by
    rw [allTo_succ, Bool.and_eq_true] at h
    by_cases e : i = k
    · subst e; exact h.2
    · exact allTo_at h.1 i (by omega)
theorem allTo_of {p : Int → Bool} {xs : List Int} : ∀ {k : Nat}, (∀ i, i < k → p (xs.getD i 0) = true) → allTo p xs k = true
  | 0, _ => rfl
  | k + 1, h => by rw [allTo_succ, allTo_of (fun i hi => h i (by omega)), h k (by omega)]; rfl
theorem allTo_no {p : Int → Bool} {xs : List Int} {n i : Nat} (hi : i < n) (h : p (xs.getD i 0) = false) : allTo p xs n = false := by
  cases e : allTo p xs n with
  | false => rfl
  | true => rw [allTo_at e i hi] at h; cases h
end Go.Proofs.Ytjfmpnkbocilpaa
