/-
  Sorting in place, the plain side: rows as functions, exchanges, rotations, merging (SymMerge).
-/
import Derived.Test.YtmhmhbiihcdgiaaPlain
import Derived.Sort.Lot0
namespace Go.Proofs.Ytmhmhbiihcdgiaa
open Go.RowKit
set_option linter.unusedVariables false

/-- f with i and j exchanged -/
def swF (f : Nat → Int) (i j : Nat) : Nat → Int := fun k => if k = j then f i else if k = i then f j else f k
def lsF (n : Nat) (f : Nat → Int) : List Int := (List.range n).map f
theorem lsF_len (n : Nat) (f : Nat → Int) : (lsF n f).length = n := by simp [lsF]
theorem lsF_get {n : Nat} {f : Nat → Int} {i : Nat} (h : i < (lsF n f).length) : (lsF n f)[i] = f i := by simp [lsF]
theorem lsF_congr {n : Nat} {f f' : Nat → Int} (h : ∀ i, i < n → f i = f' i) : lsF n f = lsF n f' := by
  unfold lsF
  exact List.map_congr_left (fun i hi => h i (List.mem_range.1 hi))
theorem swF_perm {n i j : Nat} (f : Nat → Int) (hi : i < n) (hj : j < n) : (lsF n (swF f i j)).Perm (lsF n f) := by
  have h := Go.Sort.perm_set_set (lsF n f) i j (by rw [lsF_len]; exact hi) (by rw [lsF_len]; exact hj)
  rw [lsF_get, lsF_get] at h
  have e : lsF n (swF f i j) = ((lsF n f).set i (f j)).set j (f i) := by
    refine List.ext_getElem (by simp [lsF]) (fun k h1 h2 => ?_)
    rw [lsF_get, List.getElem_set, List.getElem_set, lsF_get]
    unfold swF
    by_cases e1 : k = j
    · subst e1; simp
    · have e1' : ¬ j = k := fun e => e1 e.symm
      by_cases e2 : k = i
      · subst e2; simp [e1, e1']
      · have e2' : ¬ i = k := fun e => e2 e.symm
        simp [e1, e1', e2, e2']
  rw [e]
  exact h
/-- f' is f with the places from a to b - 1 permuted among themselves -/
structure Tr (n a b : Nat) (f f' : Nat → Int) : Prop where
  perm : (lsF n f').Perm (lsF n f)
  out : ∀ i, (i < a ∨ b ≤ i) → f' i = f i
  into : ∀ i, a ≤ i → i < b → ∃ j, a ≤ j ∧ j < b ∧ f' i = f j
theorem Tr.refl (n a b : Nat) (f : Nat → Int) : Tr n a b f f := ⟨.refl _, fun _ _ => rfl, fun i h1 h2 => ⟨i, h1, h2, rfl⟩⟩
theorem Tr.trans {n a b : Nat} {f g h : Nat → Int} (p : Tr n a b f g) (q : Tr n a b g h) : Tr n a b f h :=
  ⟨q.perm.trans p.perm, fun i hi => (q.out i hi).trans (p.out i hi), fun i h1 h2 => by
    obtain ⟨j, j1, j2, e⟩ := q.into i h1 h2
    obtain ⟨k, k1, k2, e'⟩ := p.into j j1 j2
    exact ⟨k, k1, k2, e.trans e'⟩⟩
theorem Tr.mono {n a b a' b' : Nat} {f g : Nat → Int} (p : Tr n a b f g) (h1 : a' ≤ a) (h2 : b ≤ b') : Tr n a' b' f g :=
  ⟨p.perm, fun i hi => p.out i (by omega), fun i h3 h4 => by
    by_cases e : a ≤ i ∧ i < b
    · obtain ⟨j, j1, j2, ej⟩ := p.into i e.1 e.2
      exact ⟨j, by omega, by omega, ej⟩
    · exact ⟨i, h3, h4, p.out i (by omega)⟩⟩
theorem Tr.swap {n a b i j : Nat} (f : Nat → Int) (hb : b ≤ n) (i1 : a ≤ i) (i2 : i < b) (j1 : a ≤ j) (j2 : j < b) : Tr n a b f (swF f i j) :=
  ⟨swF_perm f (by omega) (by omega), fun k hk => by
    unfold swF
    rw [if_neg (by omega), if_neg (by omega)], fun k k1 k2 => by
    unfold swF
    by_cases e1 : k = j
    · exact ⟨i, i1, i2, by rw [if_pos e1]⟩
    · by_cases e2 : k = i
      · exact ⟨j, j1, j2, by rw [if_neg e1, if_pos e2]⟩
      · exact ⟨k, k1, k2, by rw [if_neg e1, if_neg e2]⟩⟩
/-- the values of a row lie below n -/
def Vok (n : Nat) (f : Nat → Int) : Prop := ∀ i, i < n → 0 ≤ f i ∧ f i < n
theorem Vok.tr {n a b : Nat} {f g : Nat → Int} (h : Vok n f) (t : Tr n a b f g) (hb : b ≤ n) : Vok n g := fun i hi => by
  by_cases e : a ≤ i ∧ i < b
  · obtain ⟨j, j1, j2, ej⟩ := t.into i e.1 e.2
    rw [ej]; exact h j (by omega)
  · rw [t.out i (by omega)]; exact h i hi
/-- what is asked of 'comes ahead of': a strict order, total -/
structure STot (L : Int → Int → Bool) : Prop where
  irr : ∀ x, L x x = false
  tra : ∀ x y z, L x y = true → L y z = true → L x z = true
  tot : ∀ x y, x ≠ y → L x y = false → L y x = true
theorem STot.asym {L : Int → Int → Bool} (h : STot L) {x y : Int} (e : L x y = true) : L y x = false := by
  cases hq : L y x
  · rfl
  · have := h.tra x y x e hq
    rw [h.irr] at this
    cases this
/-- sorted from a to b - 1 -/
def SoF (L : Int → Int → Bool) (a b : Nat) (f : Nat → Int) : Prop := ∀ i j, a ≤ i → i < j → j < b → L (f i) (f j) = true
theorem SoF.part {L : Int → Int → Bool} {a b a' b' : Nat} {f : Nat → Int} (h : SoF L a b f) (h1 : a ≤ a') (h2 : b' ≤ b) : SoF L a' b' f := fun i j i1 i2 i3 => h i j (by omega) i2 (by omega)
theorem SoF.same {L : Int → Int → Bool} {a b : Nat} {f g : Nat → Int} (h : SoF L a b f) (e : ∀ i, a ≤ i → i < b → g i = f i) : SoF L a b g := fun i j i1 i2 i3 => by
  rw [e i i1 (by omega), e j (by omega) i3]; exact h i j i1 i2 i3
/-- two sorted parts, all of the first ahead of all of the second -/
theorem SoF.join {L : Int → Int → Bool} {a m b : Nat} {f : Nat → Int} (h1 : SoF L a m f) (h2 : SoF L m b f) (h : ∀ i j, a ≤ i → i < m → m ≤ j → j < b → L (f i) (f j) = true) : SoF L a b f := fun i j i1 i2 i3 => by
  by_cases c1 : j < m
  · exact h1 i j i1 i2 c1
  · by_cases c2 : i < m
    · exact h i j i1 c2 (by omega) i3
    · exact h2 i j (by omega) i2 i3
/-- two lists of the same values, both sorted, are one -/
theorem sorted_one {L : Int → Int → Bool} (hL : STot L) : ∀ (xs ys : List Int), xs.Perm ys → xs.Pairwise (fun x y => L x y = true) → ys.Pairwise (fun x y => L x y = true) → xs = ys
  | [], ys, hp, _, _ => by simpa using hp.symm.eq_nil.symm
  | x :: xs, [], hp, _, _ => by simpa using hp.eq_nil
  | x :: xs, y :: ys, hp, h1, h2 => by
    rw [List.pairwise_cons] at h1 h2
    have e : x = y := by
      by_cases e : x = y
      · exact e
      · have m1 : x ∈ ys := by
          have := hp.mem_iff.1 (List.mem_cons_self (a := x) (l := xs))
          rcases List.mem_cons.1 this with h | h
          · exact absurd h e
          · exact h
        have m2 : y ∈ xs := by
          have := hp.mem_iff.2 (List.mem_cons_self (a := y) (l := ys))
          rcases List.mem_cons.1 this with h | h
          · exact absurd h.symm e
          · exact h
        have a1 := h1.1 y m2
        have a2 := hL.asym (h2.1 x m1)
        rw [a1] at a2; cases a2
    subst e
    rw [sorted_one hL xs ys ((List.perm_cons x).1 hp) h1.2 h2.2]
theorem SoF.pw {L : Int → Int → Bool} {n : Nat} {f : Nat → Int} (h : SoF L 0 n f) : (lsF n f).Pairwise (fun x y => L x y = true) := by
  rw [List.pairwise_iff_getElem]
  intro i j hi hj hij
  rw [lsF_get, lsF_get]
  rw [lsF_len] at hj
  exact h i j (by omega) hij hj

/-! exchanging two stretches -/
def swR (f : Nat → Int) (a b : Nat) : Nat → Nat → Int
  | 0 => f
  | k + 1 => swF (swR f a b k) (a + k) (b + k)
theorem swR_at (f : Nat → Int) (a b : Nat) : ∀ (k : Nat), a + k ≤ b → ∀ x, swR f a b k x = if a ≤ x ∧ x < a + k then f (x + (b - a)) else if b ≤ x ∧ x < b + k then f (x - (b - a)) else f x
  | 0, h, x => by rw [swR, if_neg (by omega), if_neg (by omega)]
  | k + 1, h, x => by
    have ih := swR_at f a b k (by omega)
    rw [swR, swF]
    by_cases e1 : x = b + k
    · subst e1
      rw [if_pos rfl, ih, if_neg (by omega), if_neg (by omega), if_neg (by omega), if_pos (by omega)]
      congr 1
      omega
    · rw [if_neg e1]
      by_cases e2 : x = a + k
      · subst e2
        rw [if_pos rfl, ih, if_neg (by omega), if_neg (by omega), if_pos (by omega)]
        congr 1
        omega
      · rw [if_neg e2, ih]
        by_cases c1 : a ≤ x ∧ x < a + k
        · rw [if_pos c1, if_pos (by omega)]
        · rw [if_neg c1]
          by_cases c2 : b ≤ x ∧ x < b + k
          · rw [if_pos c2, if_neg (by omega), if_pos (by omega)]
          · rw [if_neg c2, if_neg (by omega), if_neg (by omega)]
theorem swR_tr {n lo hi : Nat} (f : Nat → Int) (a b : Nat) (hn : hi ≤ n) (h1 : lo ≤ a) (h2 : lo ≤ b) : ∀ k, a + k ≤ hi → b + k ≤ hi → Tr n lo hi f (swR f a b k)
  | 0, _, _ => Tr.refl _ _ _ _
  | k + 1, h3, h4 => (swR_tr f a b hn h1 h2 k (by omega) (by omega)).trans (Tr.swap _ hn (by omega) (by omega) (by omega) (by omega))
/-- f rotated: the stretch from m to b - 1 comes ahead of that from a to m - 1 -/
def roF (f : Nat → Int) (a m b : Nat) : Nat → Int := fun x => if a ≤ x ∧ x < b then (if x + (m - a) < b then f (x + (m - a)) else f (x - (b - m))) else f x
theorem roF_step1 (f : Nat → Int) (m i j : Nat) (h : j < i) (hi : i ≤ m) : ∀ x, roF (swR f (m - i) m j) (m - (i - j)) m (m + j) x = roF f (m - i) m (m + j) x := by
  intro x
  have sw := swR_at f (m - i) m j (by omega)
  unfold roF
  by_cases c0 : m - i ≤ x ∧ x < m + j
  · rw [if_pos c0]
    by_cases c1 : m - (i - j) ≤ x ∧ x < m + j
    · rw [if_pos c1]
      by_cases c2 : x + (m - (m - (i - j))) < m + j
      · rw [if_pos c2, sw, if_neg (by omega), if_pos (by omega)]
        rw [if_neg (by omega)]
        congr 1
        omega
      · rw [if_neg c2, sw, if_neg (by omega), if_neg (by omega), if_neg (by omega)]
    · rw [if_neg c1, sw, if_pos (by omega), if_pos (by omega)]
  · rw [if_neg c0, if_neg (by omega), sw, if_neg (by omega), if_neg (by omega)]
theorem roF_step2 (f : Nat → Int) (m i j : Nat) (h : i < j) (hi : i ≤ m) : ∀ x, roF (swR f (m - i) (m + j - i) i) (m - i) m (m + (j - i)) x = roF f (m - i) m (m + j) x := by
  intro x
  have sw := swR_at f (m - i) (m + j - i) i (by omega)
  unfold roF
  by_cases c0 : m - i ≤ x ∧ x < m + j
  · rw [if_pos c0]
    by_cases c1 : m - i ≤ x ∧ x < m + (j - i)
    · rw [if_pos c1]
      by_cases c2 : x + (m - (m - i)) < m + (j - i)
      · rw [if_pos c2, sw, if_neg (by omega), if_neg (by omega), if_pos (by omega)]
      · rw [if_neg c2, sw, if_pos (by omega), if_pos (by omega)]
        congr 1
        omega
    · rw [if_neg c1, sw, if_neg (by omega), if_pos (by omega), if_neg (by omega)]
      congr 1
      omega
  · rw [if_neg c0, if_neg (by omega), sw, if_neg (by omega), if_neg (by omega)]
theorem roF_last (f : Nat → Int) (m i : Nat) (hi : i ≤ m) : ∀ x, swR f (m - i) m i x = roF f (m - i) m (m + i) x := by
  intro x
  rw [swR_at f (m - i) m i (by omega)]
  unfold roF
  by_cases c0 : m - i ≤ x ∧ x < m + i
  · rw [if_pos c0]
    by_cases c1 : m - i ≤ x ∧ x < m - i + i
    · rw [if_pos c1, if_pos (by omega)]
    · rw [if_neg c1, if_pos (by omega), if_neg (by omega)]
      congr 1
      omega
  · rw [if_neg c0, if_neg (by omega), if_neg (by omega)]
end Go.Proofs.Ytmhmhbiihcdgiaa
