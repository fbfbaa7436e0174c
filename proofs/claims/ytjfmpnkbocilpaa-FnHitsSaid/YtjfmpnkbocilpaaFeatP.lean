/-
  Plain facts on the sides of boards: points that answer, primes, pips; no program in sight.
-/
import Derived.Test.YtjfmpnkbocilpaaPlain
namespace Go.Proofs.Ytjfmpnkbocilpaa

/-- the points below k whose number answers f -/
def ptsL (f : Int → Bool) (xs : List Int) : Nat → List Int
  | 0 => []
  | k + 1 => if f (xs.getD k 0) then ptsL f xs k ++ [(k : Int)] else ptsL f xs k
theorem ptsL_yes {f : Int → Bool} {xs : List Int} {k : Nat} (h : f (xs.getD k 0) = true) : ptsL f xs (k + 1) = ptsL f xs k ++ [(k : Int)] := by
  show (if f (xs.getD k 0) then _ else _) = _; rw [h]; rfl
theorem ptsL_no {f : Int → Bool} {xs : List Int} {k : Nat} (h : f (xs.getD k 0) = false) : ptsL f xs (k + 1) = ptsL f xs k := by
  show (if f (xs.getD k 0) then _ else _) = _; rw [h]; rfl
theorem ptsL_le (f : Int → Bool) (xs : List Int) : ∀ k, (ptsL f xs k).length ≤ k
  | 0 => Nat.le_refl _
  | k + 1 => by
    have := ptsL_le f xs k
    cases h : f (xs.getD k 0)
    · rw [ptsL_no h]; omega
    · rw [ptsL_yes h]; simp; omega
theorem ptsL_congr {f g : Int → Bool} {xs : List Int} : ∀ {k : Nat}, (∀ i, i < k → f (xs.getD i 0) = g (xs.getD i 0)) → ptsL f xs k = ptsL g xs k
  | 0, _ => rfl
  | k + 1, h => by
    have e := ptsL_congr (f := f) (g := g) (xs := xs) (k := k) (fun i hi => h i (by omega))
    have hk := h k (by omega)
    cases c : f (xs.getD k 0)
    · rw [ptsL_no c, ptsL_no (hk ▸ c), e]
    · rw [ptsL_yes c, ptsL_yes (hk ▸ c), e]
theorem ptsL_mem {f : Int → Bool} {xs : List Int} {x : Int} : ∀ {k : Nat}, x ∈ ptsL f xs k ↔ ∃ i : Nat, i < k ∧ x = i ∧ f (xs.getD i 0) = true
  | 0 => by simp [ptsL]
  | k + 1 => by
    have ih := ptsL_mem (f := f) (xs := xs) (x := x) (k := k)
    cases c : f (xs.getD k 0)
    · rw [ptsL_no c, ih]
      constructor
      · rintro ⟨i, h1, h2, h3⟩; exact ⟨i, by omega, h2, h3⟩
      · rintro ⟨i, h1, h2, h3⟩
        refine ⟨i, ?_, h2, h3⟩
        by_cases e : i = k
        · subst e; rw [c] at h3; cases h3
        · omega
    · rw [ptsL_yes c, List.mem_append, ih]
      constructor
      · rintro (⟨i, h1, h2, h3⟩ | h)
        · exact ⟨i, by omega, h2, h3⟩
        · exact ⟨k, by omega, by simpa using h, c⟩
      · rintro ⟨i, h1, h2, h3⟩
        by_cases e : i = k
        · subst e; right; simpa using h2
        · left; exact ⟨i, by omega, h2, h3⟩

/-- the length of the prime that ends below k; the longest one so far; its first point -/
def prRun (xs : List Int) : Nat → Int
  | 0 => 0
  | k + 1 => if xs.getD k 0 < 2 then 0 else prRun xs k + 1
def prLong (xs : List Int) : Nat → Int
  | 0 => 0
  | k + 1 => if prLong xs k < prRun xs (k + 1) then prRun xs (k + 1) else prLong xs k
def prAt (xs : List Int) : Nat → Int
  | 0 => -1
  | k + 1 => if prLong xs k < prRun xs (k + 1) then (k : Int) + 1 - prRun xs (k + 1) else prAt xs k
theorem prRun_bd (xs : List Int) : ∀ k, 0 ≤ prRun xs k ∧ prRun xs k ≤ k
  | 0 => by simp [prRun]
  | k + 1 => by
    have := prRun_bd xs k
    unfold prRun
    split <;> omega
theorem prLong_bd (xs : List Int) : ∀ k, 0 ≤ prLong xs k ∧ prLong xs k ≤ k
  | 0 => by simp [prLong]
  | k + 1 => by
    have := prLong_bd xs k
    have := prRun_bd xs (k + 1)
    unfold prLong
    split <;> omega
theorem prAt_bd (xs : List Int) : ∀ k, -1 ≤ prAt xs k ∧ prAt xs k ≤ k
  | 0 => by simp [prAt]
  | k + 1 => by
    have := prAt_bd xs k
    have := prRun_bd xs (k + 1)
    unfold prAt
    split <;> omega
theorem prRun_0 {xs : List Int} {k : Nat} (h : xs.getD k 0 < 2) : prRun xs (k + 1) = 0 := by
  show (if xs.getD k 0 < 2 then _ else _) = _; rw [if_pos h]
theorem prRun_1 {xs : List Int} {k : Nat} (h : 2 ≤ xs.getD k 0) : prRun xs (k + 1) = prRun xs k + 1 := by
  show (if xs.getD k 0 < 2 then _ else _) = _; rw [if_neg (by omega)]
theorem prLong_1 {xs : List Int} {k : Nat} (h : prLong xs k < prRun xs (k + 1)) : prLong xs (k + 1) = prRun xs (k + 1) := by
  show (if prLong xs k < prRun xs (k + 1) then _ else _) = _; rw [if_pos h]
theorem prLong_0 {xs : List Int} {k : Nat} (h : prRun xs (k + 1) ≤ prLong xs k) : prLong xs (k + 1) = prLong xs k := by
  show (if prLong xs k < prRun xs (k + 1) then _ else _) = _; rw [if_neg (by omega)]
theorem prAt_1 {xs : List Int} {k : Nat} (h : prLong xs k < prRun xs (k + 1)) : prAt xs (k + 1) = (k : Int) + 1 - prRun xs (k + 1) := by
  show (if prLong xs k < prRun xs (k + 1) then _ else _) = _; rw [if_pos h]
theorem prAt_0 {xs : List Int} {k : Nat} (h : prRun xs (k + 1) ≤ prLong xs k) : prAt xs (k + 1) = prAt xs k := by
  show (if prLong xs k < prRun xs (k + 1) then _ else _) = _; rw [if_neg (by omega)]

/-- the pips of the first k points -/
def pipS (xs : List Int) : Nat → Int
  | 0 => 0
  | k + 1 => pipS xs k + ((k : Int) + 1) * xs.getD k 0
theorem pipS_bd {xs : List Int} : ∀ k, k ≤ 25 → (∀ i, i < k → 0 ≤ xs.getD i 0 ∧ xs.getD i 0 ≤ 15) → 0 ≤ pipS xs k ∧ pipS xs k ≤ (k : Int) * 375
  | 0, _, _ => by simp [pipS]
  | k + 1, hk, h => by
    have h1 := pipS_bd (xs := xs) k (by omega) (fun i hi => h i (by omega))
    have h2 := h k (by omega)
    have h3 : 0 ≤ ((k : Int) + 1) * xs.getD k 0 := Int.mul_nonneg (by omega) h2.1
    have h4 : ((k : Int) + 1) * xs.getD k 0 ≤ 25 * 15 := Int.mul_le_mul (by omega) h2.2 h2.1 (by omega)
    unfold pipS
    omega
/-- the greatest point below k with a checker, or -1 -/
def lastP (xs : List Int) : Nat → Int
  | 0 => -1
  | k + 1 => if 0 < xs.getD k 0 then (k : Int) else lastP xs k
theorem lastP_bd (xs : List Int) : ∀ k, -1 ≤ lastP xs k ∧ lastP xs k < k
  | 0 => by simp [lastP]
  | k + 1 => by
    have := lastP_bd xs k
    unfold lastP
    split <;> omega
theorem lastP_1 {xs : List Int} {k : Nat} (h : 0 < xs.getD k 0) : lastP xs (k + 1) = k := by
  show (if 0 < xs.getD k 0 then _ else _) = _; rw [if_pos h]
theorem lastP_0 {xs : List Int} {k : Nat} (h : ¬ 0 < xs.getD k 0) : lastP xs (k + 1) = lastP xs k := by
  show (if 0 < xs.getD k 0 then _ else _) = _; rw [if_neg h]

theorem psum_pos {xs : List Int} {n i : Nat} (h0 : ∀ i, i < n → 0 ≤ xs.getD i 0) (hi : i < n) (hx : 0 < xs.getD i 0) : 0 < psum xs n := by
  have mono : ∀ m j, j ≤ m → m ≤ n → psum xs j ≤ psum xs m := by
    intro m
    induction m with
    | zero => intro j hj _; obtain rfl : j = 0 := by omega
              exact Int.le_refl _
    | succ m ih =>
      intro j hj hm
      by_cases e : j = m + 1
      · subst e; exact Int.le_refl _
      · have := ih j (by omega) (by omega)
        have := h0 m (by omega)
        rw [psum_succ]; omega
  have h1 := mono i 0 (Nat.zero_le _) (by omega)
  have h2 := mono n (i + 1) (by omega) (Nat.le_refl _)
  have h3 : psum xs 0 = 0 := rfl
  rw [psum_succ] at h2
  omega
theorem lastP_none {xs : List Int} : ∀ {k : Nat}, lastP xs k = -1 → ∀ i, i < k → ¬ 0 < xs.getD i 0
  | 0, _, i, hi => absurd hi (by omega)
  | k + 1, h, i, hi => by
    by_cases c : 0 < xs.getD k 0
    · rw [lastP_1 c] at h; omega
    · rw [lastP_0 c] at h
      by_cases e : i = k
      · subst e; exact c
      · exact lastP_none h i (by omega)
theorem lastP_some {xs : List Int} : ∀ {k : Nat}, 0 ≤ lastP xs k → ∃ i, i < k ∧ 0 < xs.getD i 0
  | 0, h => by simp [lastP] at h
  | k + 1, h => by
    by_cases c : 0 < xs.getD k 0
    · exact ⟨k, by omega, c⟩
    · rw [lastP_0 c] at h
      obtain ⟨i, h1, h2⟩ := lastP_some h
      exact ⟨i, by omega, h2⟩
/-- whether there is contact, of sides of n and m entries -/
def contB (P n : Nat) (xs : List Int) (m : Nat) (ys : List Int) : Bool := decide ((P : Int) ≤ lastP xs n + lastP ys m)
theorem contB_over {P n m : Nat} {xs ys : List Int} (hn : n ≤ P + 1) (hm : m ≤ P + 1) (hx : ∀ i, i < n → 0 ≤ xs.getD i 0) (hy : ∀ i, i < m → 0 ≤ ys.getD i 0) (h : psum xs n = 0 ∨ psum ys m = 0) : contB P n xs m ys = false := by
  have b1 := lastP_bd xs n
  have b2 := lastP_bd ys m
  have : lastP xs n + lastP ys m < P := by
    rcases h with h | h
    · rcases Int.lt_or_le (lastP xs n) 0 with c | c
      · omega
      · obtain ⟨i, h1, h2⟩ := lastP_some c
        have := psum_pos hx h1 h2
        omega
    · rcases Int.lt_or_le (lastP ys m) 0 with c | c
      · omega
      · obtain ⟨i, h1, h2⟩ := lastP_some c
        have := psum_pos hy h1 h2
        omega
  unfold contB
  simp
  omega
theorem contB_neg {P n m : Nat} {xs ys : List Int} (hn : n ≤ P + 1) (hm : m ≤ P + 1) (h : lastP xs n < 0 ∨ lastP ys m < 0) : contB P n xs m ys = false := by
  have b1 := lastP_bd xs n
  have b2 := lastP_bd ys m
  unfold contB
  simp
  omega

/-- how many of a list answer q -/
def cntIf (q : Int → Bool) : List Int → Int
  | [] => 0
  | x :: l => (if q x then 1 else 0) + cntIf q l
theorem cntIf_app (q : Int → Bool) : ∀ l l', cntIf q (l ++ l') = cntIf q l + cntIf q l'
  | [], l' => by simp [cntIf]
  | x :: l, l' => by simp only [List.cons_append, cntIf, cntIf_app q l l']; omega
theorem cntIf_bd (q : Int → Bool) : ∀ l, 0 ≤ cntIf q l ∧ cntIf q l ≤ l.length
  | [] => by simp [cntIf]
  | x :: l => by
    have := cntIf_bd q l
    simp only [cntIf, List.length_cons]
    split <;> omega
theorem cntIf_snoc (q : Int → Bool) (l : List Int) (x : Int) : cntIf q (l ++ [x]) = cntIf q l + if q x then 1 else 0 := by
  rw [cntIf_app]; simp [cntIf]
/-- the made points at home, as the points below h -/
theorem cntIf_home {f : Int → Bool} {xs : List Int} {h : Nat} : ∀ {k : Nat}, h ≤ k → cntIf (fun i => decide (i < (h : Int))) (ptsL f xs k) = ((ptsL f xs h).length : Int)
  | 0, hk => by obtain rfl : h = 0 := by omega
                simp [ptsL, cntIf]
  | k + 1, hk => by
    by_cases e : h = k + 1
    · subst e
      have all : ∀ j, j ≤ k + 1 → cntIf (fun i => decide (i < ((k + 1 : Nat) : Int))) (ptsL f xs j) = ((ptsL f xs j).length : Int) := by
        intro j
        induction j with
        | zero => intro _; simp [ptsL, cntIf]
        | succ j ih =>
          intro hj
          have ih := ih (by omega)
          cases c : f (xs.getD j 0)
          · rw [ptsL_no c]; exact ih
          · rw [ptsL_yes c, cntIf_snoc, ih, if_pos (by simp; omega), List.length_append]; simp
      exact all _ (Nat.le_refl _)
    · have ih := cntIf_home (f := f) (xs := xs) (h := h) (k := k) (by omega)
      cases c : f (xs.getD k 0)
      · rw [ptsL_no c]; exact ih
      · rw [ptsL_yes c, cntIf_snoc, ih, if_neg (by simp; omega)]; simp

/-- the made points that are home points of the other player -/
def ancP (P : Nat) (h : Int) (f : Int → Bool) (xs : List Int) (k : Nat) : Int := cntIf (fun i => decide ((P : Int) - 1 - i < h)) (ptsL f xs k)
end Go.Proofs.Ytjfmpnkbocilpaa
