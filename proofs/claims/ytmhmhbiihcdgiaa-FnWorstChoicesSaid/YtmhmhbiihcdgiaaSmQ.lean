/-
  Merging in place (SymMerge), the plain side.
-/
import Derived.Test.YtmhmhbiihcdgiaaSmP
namespace Go.Proofs.Ytmhmhbiihcdgiaa
open Go.RowKit
set_option linter.unusedVariables false
variable {L : Int → Int → Bool}

/-- two neighbouring sorted stretches; the values of the first are smaller as numbers -/
structure Mg (L : Int → Int → Bool) (f : Nat → Int) (a m b : Nat) : Prop where
  A : SoF L a m f
  B : SoF L m b f
  lt : ∀ i j, a ≤ i → i < m → m ≤ j → j < b → f i < f j
theorem SoF.le {f : Nat → Int} {a b i j : Nat} (h : SoF L a b f) (h1 : a ≤ i) (h2 : i ≤ j) (h3 : j < b) : L (f i) (f j) = true ∨ f i = f j := by
  by_cases e : i = j
  · subst e; exact .inr rfl
  · exact .inl (h i j h1 (by omega) h3)
theorem STot.ch (hL : STot L) {x y z w : Int} (h1 : L x y = true ∨ x = y) (h2 : L y z = true) (h3 : L z w = true ∨ z = w) : L x w = true := by
  have e1 : L x z = true := by
    rcases h1 with h | h
    · exact hL.tra _ _ _ h h2
    · rw [h]; exact h2
  rcases h3 with h | h
  · exact hL.tra _ _ _ e1 h
  · rw [← h]; exact e1
theorem Mg.ahead (hL : STot L) {f : Nat → Int} {a m b i j : Nat} (h : Mg L f a m b) (i1 : a ≤ i) (i2 : i < m) (j1 : m ≤ j) (j2 : j < b) (hn : L (f j) (f i) = false) : L (f i) (f j) = true := by
  have := h.lt i j i1 i2 j1 j2
  exact hL.tot _ _ (by omega) hn
/-- the first stretch has one place -/
theorem Mg.one (hL : STot L) {f : Nat → Int} {a b i : Nat} (h : Mg L f a (a + 1) b) (i1 : a + 1 ≤ i) (i2 : i ≤ b) (lo : ∀ k, a + 1 ≤ k → k < i → L (f k) (f a) = true) (hi : ∀ k, i ≤ k → k < b → L (f a) (f k) = true) : SoF L a b (roF f a (a + 1) i) := by
  intro x y x1 xy yb
  unfold roF
  by_cases c1 : x + 1 < i
  · rw [if_pos (by omega), if_pos (by omega)]
    by_cases c2 : y < i
    · rw [if_pos (by omega)]
      by_cases c3 : y + 1 < i
      · rw [if_pos (by omega)]; exact h.B _ _ (by omega) (by omega) (by omega)
      · rw [if_neg (by omega), show y - (i - (a + 1)) = a by omega]; exact lo _ (by omega) (by omega)
    · rw [if_neg (by omega)]; exact h.B _ _ (by omega) (by omega) (by omega)
  · by_cases c2 : x < i
    · rw [if_pos (by omega), if_neg (by omega), show x - (i - (a + 1)) = a by omega, if_neg (by omega)]
      exact hi _ (by omega) (by omega)
    · rw [if_neg (by omega), if_neg (by omega)]
      exact h.B _ _ (by omega) (by omega) (by omega)
theorem one_step (f : Nat → Int) (a k : Nat) (h : a ≤ k) : swF (roF f a (a + 1) (k + 1)) k (k + 1) = roF f a (a + 1) (k + 2) := by
  funext x
  unfold swF
  by_cases e1 : x = k + 1
  · subst e1
    rw [if_pos rfl]
    unfold roF
    rw [if_pos (by omega), if_neg (by omega), if_pos (by omega), if_neg (by omega)]
    congr 1
    omega
  · rw [if_neg e1]
    by_cases e2 : x = k
    · subst e2
      rw [if_pos rfl]
      unfold roF
      rw [if_neg (by omega), if_pos (by omega), if_pos (by omega)]
      congr 1
      omega
    · rw [if_neg e2]
      unfold roF
      by_cases c : a ≤ x ∧ x < k + 1
      · rw [if_pos c, if_pos (by omega), if_pos (by omega), if_pos (by omega)]
      · rw [if_neg c, if_neg (by omega)]
theorem one_start (f : Nat → Int) (a : Nat) : roF f a (a + 1) (a + 1) = f := by
  funext x
  unfold roF
  by_cases c : a ≤ x ∧ x < a + 1
  · rw [if_pos c, if_neg (by omega)]
    congr 1
    omega
  · rw [if_neg c]
/-- the second stretch has one place -/
theorem Mg.two (hL : STot L) {f : Nat → Int} {a m i : Nat} (h : Mg L f a m (m + 1)) (i1 : a ≤ i) (i2 : i ≤ m) (lo : ∀ k, a ≤ k → k < i → L (f k) (f m) = true) (hi : ∀ k, i ≤ k → k < m → L (f m) (f k) = true) : SoF L a (m + 1) (roF f i m (m + 1)) := by
  intro x y x1 xy yb
  unfold roF
  by_cases c1 : x < i
  · rw [if_neg (by omega)]
    by_cases c2 : y < i
    · rw [if_neg (by omega)]; exact h.A _ _ (by omega) (by omega) (by omega)
    · rw [if_pos (by omega)]
      by_cases c3 : y = i
      · rw [if_pos (by omega), show y + (m - i) = m by omega]; exact lo _ (by omega) (by omega)
      · rw [if_neg (by omega)]; exact h.A _ _ (by omega) (by omega) (by omega)
  · rw [if_pos (by omega)]
    by_cases c2 : x = i
    · rw [if_pos (by omega), show x + (m - i) = m by omega, if_pos (by omega), if_neg (by omega)]
      exact hi _ (by omega) (by omega)
    · rw [if_neg (by omega), if_pos (by omega), if_neg (by omega)]
      exact h.A _ _ (by omega) (by omega) (by omega)
theorem two_step (f : Nat → Int) (m k : Nat) (h : k < m) : swF (roF f (k + 1) m (m + 1)) (k + 1) k = roF f k m (m + 1) := by
  funext x
  unfold swF
  by_cases e1 : x = k
  · subst e1
    rw [if_pos rfl]
    unfold roF
    rw [if_pos (by omega), if_pos (by omega), if_pos (by omega), if_pos (by omega)]
    congr 1
    omega
  · rw [if_neg e1]
    by_cases e2 : x = k + 1
    · subst e2
      rw [if_pos rfl]
      unfold roF
      rw [if_neg (by omega), if_pos (by omega), if_neg (by omega)]
      congr 1
      omega
    · rw [if_neg e2]
      unfold roF
      by_cases c : k + 1 ≤ x ∧ x < m + 1
      · rw [if_pos c, if_neg (by omega), if_pos (by omega), if_neg (by omega)]
      · rw [if_neg c, if_neg (by omega)]
theorem two_start (f : Nat → Int) (m : Nat) : roF f m m (m + 1) = f := by
  funext x
  unfold roF
  by_cases c : m ≤ x ∧ x < m + 1
  · rw [if_pos c, if_pos (by omega)]
    congr 1
    omega
  · rw [if_neg c]
/-! the general step: c and p - c are compared, where p = mid + m - 1 -/
theorem Mg.lo (hL : STot L) {f : Nat → Int} {a m b p c h : Nat} (M : Mg L f a m b) (c1 : a ≤ c) (ch : c ≤ h) (hm : h < m) (hp : h ≤ p) (p1 : m ≤ p - h) (p2 : p - c < b) (hn : L (f (p - h)) (f h) = false) : L (f c) (f (p - c)) = true :=
  hL.ch (M.A.le c1 ch hm) (M.ahead hL (by omega) hm p1 (by omega) hn) (M.B.le p1 (by omega) p2)
theorem Mg.hi (hL : STot L) {f : Nat → Int} {a m b p c h : Nat} (M : Mg L f a m b) (h1 : a ≤ h) (ch : h ≤ c) (cm : c < m) (hp : c ≤ p) (p1 : m ≤ p - c) (p2 : p - h < b) (hy : L (f (p - h)) (f h) = true) : L (f (p - c)) (f c) = true :=
  hL.ch (M.B.le p1 (by omega) p2) hy (M.A.le h1 ch cm)
/-- behind the rotation -/
structure Cut (L : Int → Int → Bool) (f g : Nat → Int) (a s e b mid : Nat) : Prop where
  left : Mg L g a s mid
  right : Mg L g mid e b
  cross : ∀ i j, a ≤ i → i < mid → mid ≤ j → j < b → L (g i) (g j) = true
theorem Mg.cut (hL : STot L) {f : Nat → Int} {a m b mid s0 r0 s : Nat} (M : Mg L f a m b) (ham : a < m) (hmb : m < b) (hmid : mid = (a + b) / 2)
    (h0 : (mid < m ∧ s0 = mid + m - b ∧ r0 = mid) ∨ (m ≤ mid ∧ s0 = a ∧ r0 = m)) (s1 : s0 ≤ s) (s2 : s ≤ r0)
    (lo : ∀ c, s0 ≤ c → c < s → L (f c) (f (mid + m - 1 - c)) = true) (hi : ∀ c, s ≤ c → c < r0 → L (f (mid + m - 1 - c)) (f c) = true) :
    Cut L f (roF f s m (mid + m - s)) a s (mid + m - s) b mid := by
  have as : a ≤ s := by omega
  have sm : s ≤ mid := by omega
  have sm' : s ≤ m := by omega
  have em : m ≤ mid + m - s := by omega
  have eb : mid + m - s ≤ b := by omega
  obtain ⟨e, he⟩ : ∃ e, mid + m - s = e := ⟨_, rfl⟩
  have hes : e - m = mid - s := by omega
  rw [he] at em eb ⊢
  have g1 : ∀ x, x < s → roF f s m e x = f x := fun x hx => by unfold roF; rw [if_neg (by omega)]
  have g2 : ∀ x, s ≤ x → x < mid → roF f s m e x = f (x + (m - s)) := fun x h1 h2 => by unfold roF; rw [if_pos (by omega), if_pos (by omega)]
  have g3 : ∀ x, mid ≤ x → x < e → roF f s m e x = f (x - (e - m)) := fun x h1 h2 => by unfold roF; rw [if_pos (by omega), if_neg (by omega)]
  have g4 : ∀ x, e ≤ x → roF f s m e x = f x := fun x hx => by unfold roF; rw [if_neg (by omega)]
  refine ⟨⟨?_, ?_, ?_⟩, ⟨?_, ?_, ?_⟩, ?_⟩
  · intro i j i1 i2 i3
    rw [g1 i (by omega), g1 j (by omega)]; exact M.A _ _ i1 i2 (by omega)
  · intro i j i1 i2 i3
    rw [g2 i (by omega) (by omega), g2 j (by omega) (by omega)]; exact M.B _ _ (by omega) (by omega) (by omega)
  · intro i j i1 i2 j1 j2
    rw [g1 i (by omega), g2 j (by omega) (by omega)]; exact M.lt _ _ (by omega) (by omega) (by omega) (by omega)
  · intro i j i1 i2 i3
    rw [g3 i (by omega) (by omega), g3 j (by omega) (by omega)]; exact M.A _ _ (by omega) (by omega) (by omega)
  · intro i j i1 i2 i3
    rw [g4 i (by omega), g4 j (by omega)]; exact M.B _ _ (by omega) (by omega) (by omega)
  · intro i j i1 i2 j1 j2
    rw [g3 i (by omega) (by omega), g4 j (by omega)]; exact M.lt _ _ (by omega) (by omega) (by omega) (by omega)
  · intro i j i1 i2 j1 j2
    by_cases c1 : i < s
    · rw [g1 i c1]
      by_cases c2 : j < e
      · rw [g3 j j1 c2]; exact M.A _ _ i1 (by omega) (by omega)
      · rw [g4 j (by omega)]
        have k := lo (s - 1) (by omega) (by omega)
        rw [show mid + m - 1 - (s - 1) = e by omega] at k
        exact hL.ch (M.A.le i1 (by omega) (by omega)) k (M.B.le (by omega) (by omega) (by omega))
    · rw [g2 i (by omega) i2]
      by_cases c2 : j < e
      · rw [g3 j j1 c2]
        have k := hi s (by omega) (by omega)
        rw [show mid + m - 1 - s = e - 1 by omega] at k
        exact hL.ch (M.B.le (by omega) (by omega) (by omega)) k (M.A.le (by omega) (by omega) (by omega))
      · rw [g4 j (by omega)]; exact M.B _ _ (by omega) (by omega) (by omega)
/-- both halves sorted by themselves: all is sorted -/
theorem Cut.join (hL : STot L) {f g h k : Nat → Int} {n a s e b mid : Nat} (C : Cut L f g a s e b mid) (h1 : Tr n a mid g h) (s1 : SoF L a mid h) (h2 : Tr n mid b h k) (s2 : SoF L mid b k) : SoF L a b k := by
  refine SoF.join (m := mid) (s1.same (fun i i1 i2 => h2.out i (by omega))) s2 (fun i j i1 i2 j1 j2 => ?_)
  rw [h2.out i (by omega)]
  obtain ⟨i', a1, a2, e1⟩ := h1.into i i1 i2
  obtain ⟨j', b1, b2, e2⟩ := h2.into j j1 j2
  rw [e1, e2, h1.out j' (by omega)]
  exact C.cross i' j' a1 a2 b1 b2
/-- a half with an empty stretch is sorted -/
theorem Mg.done {g : Nat → Int} {a m b : Nat} (M : Mg L g a m b) (h : ¬ (a < m ∧ m < b)) (h1 : a ≤ m) (h2 : m ≤ b) : SoF L a b g := by
  by_cases e : a = m
  · subst e; exact M.B
  · obtain rfl : m = b := by omega
    exact M.A
end Go.Proofs.Ytmhmhbiihcdgiaa
