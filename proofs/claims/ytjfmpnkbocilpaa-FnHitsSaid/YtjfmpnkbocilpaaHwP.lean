/-
  The plays of a roll in plain words: steps, boards behind them, the kept sequences, and whether some play hits.
-/
import Derived.Test.YtjfmpnkbocilpaaFeatV
namespace Go.Proofs.Ytjfmpnkbocilpaa
set_option linter.unusedVariables false

/-- a step -/
structure St where
  fr : Int
  to : Int
  die : Int
  hit : Bool
/-- a play: its steps and the board behind it -/
structure Pl where
  st : List St
  own : List Int
  oth : List Int
/-- the step of the checker at fr, if it is legal -/
def stF (P H : Int) (own oth : List Int) (die fr : Int) : Option St :=
  if own.getD fr.toNat 0 = 0 ∨ (0 < own.getD P.toNat 0 ∧ fr ≠ P) then none
  else if 0 ≤ fr - die then
    if oth.getD (P - 1 - (fr - die)).toNat 0 ≤ 1 then some ⟨fr, fr - die, die, decide (oth.getD (P - 1 - (fr - die)).toNat 0 = 1)⟩ else none
  else if H ≤ lastP own (P.toNat + 1) ∨ (fr ≠ die - 1 ∧ fr < lastP own (P.toNat + 1)) then none
  else some ⟨fr, -1, die, false⟩
/-- the steps from the i greatest points -/
def lgU (f : Int → Option St) (P : Int) : Nat → List St
  | 0 => []
  | i + 1 => lgU f P i ++ (f (P - i)).toList
def ovB (own oth : List Int) : Bool := psum own own.length == 0 || psum oth oth.length == 0
/-- the legal steps with a die -/
def lgF (P H : Int) (own oth : List Int) (die : Int) : List St := if ovB own oth then [] else lgU (stF P H own oth die) P (P.toNat + 1)
def ownA (own : List Int) (s : St) : List Int :=
  let o := own.set s.fr.toNat (own.getD s.fr.toNat 0 - 1)
  if 0 ≤ s.to then o.set s.to.toNat (o.getD s.to.toNat 0 + 1) else o
def othA (P : Int) (oth : List Int) (s : St) : List Int :=
  if s.hit then
    let o := oth.set (P - 1 - s.to).toNat (oth.getD (P - 1 - s.to).toNat 0 - 1)
    o.set P.toNat (o.getD P.toNat 0 + 1)
  else oth
theorem ownA_len (own : List Int) (s : St) : (ownA own s).length = own.length := by
  unfold ownA; dsimp only; split <;> simp
theorem othA_len (P : Int) (oth : List Int) (s : St) : (othA P oth s).length = oth.length := by
  unfold othA; dsimp only; split <;> simp
/-- is the board among the plays -/
def hasB (l : List Pl) (own oth : List Int) : Bool := l.any fun p => decide (p.own = own) && decide (p.oth = oth)
/-- one step more of one play, kept if its board is new -/
def nxS (P : Int) (p : Pl) (out : List Pl) (s : St) : List Pl :=
  if hasB out (ownA p.own s) (othA P p.oth s) then out else out ++ [⟨p.st ++ [s], ownA p.own s, othA P p.oth s⟩]
def nxP (P H die : Int) (out : List Pl) (p : Pl) : List Pl := (lgF P H p.own p.oth die).foldl (nxS P p) out
/-- all plays with one step more -/
def nxL (P H die : Int) (l : List Pl) : List Pl := l.foldl (nxP P H die) []
/-- the longest sequences for an order, their length, and whether no list is too long -/
def lng (P H : Int) : List Int → List Pl → List Pl × Nat × Bool
  | [], l => (l, 0, true)
  | d :: ds, l => if (nxL P H d l).isEmpty then (l, 0, true) else
    ((lng P H ds (nxL P H d l)).1, (lng P H ds (nxL P H d l)).2.1 + 1, decide ((nxL P H d l).length ≤ 3000) && (lng P H ds (nxL P H d l)).2.2)
/-- plays added if their board is new -/
def mgS (out : List Pl) (p : Pl) : List Pl := if hasB out p.own p.oth then out else out ++ [p]
def mgF (out l : List Pl) : List Pl := l.foldl mgS out
def ordF (a b : Int) : List (List Int) := if a = b then [[a, a, a, a]] else [[a, b], [b, a]]
def hitP (l : List Pl) : Bool := l.any fun p => p.st.any St.hit
theorem foldl_take {α β : Type} (f : β → α → β) (b : β) (l : List α) {k : Nat} (hk : k < l.length) : (l.take (k + 1)).foldl f b = f ((l.take k).foldl f b) l[k] := by
  rw [List.take_succ_eq_append_getElem hk, List.foldl_append]; rfl
/-- a list that is not empty stays so under one more visit -/
theorem nxS_some {P : Int} {p : Pl} {out : List Pl} {s : St} : nxS P p out s ≠ [] := by
  unfold nxS
  split
  · rename_i h
    intro e
    rw [e] at h
    exact absurd h (by simp [hasB])
  · intro e; exact absurd (congrArg List.length e) (by simp)
theorem mgS_some {out : List Pl} {p : Pl} : mgS out p ≠ [] := by
  unfold mgS
  split
  · rename_i h
    intro e
    rw [e] at h
    exact absurd h (by simp [hasB])
  · intro e; exact absurd (congrArg List.length e) (by simp)
theorem mgF_some {l : List Pl} : ∀ {out : List Pl}, l ≠ [] → mgF out l ≠ [] := by
  induction l with
  | nil => intro out h; exact absurd rfl h
  | cons p l ih =>
    intro out _
    show mgF (mgS out p) l ≠ []
    by_cases h : l = []
    · subst h; exact mgS_some
    · exact ih h
/-- what a legal step says -/
theorem stF_ok {P H die fr : Int} {own oth : List Int} {s : St} (h : stF P H own oth die fr = some s) :
    s.fr = fr ∧ own.getD fr.toNat 0 ≠ 0 ∧ s.die = die ∧ ((s.to = -1 ∧ s.hit = false) ∨ (s.to = fr - die ∧ 0 ≤ fr - die ∧ oth.getD (P - 1 - (fr - die)).toNat 0 ≤ 1 ∧ s.hit = decide (oth.getD (P - 1 - (fr - die)).toNat 0 = 1))) := by
  unfold stF at h
  split at h
  · exact absurd h (by simp)
  · rename_i h1
    have h1' : own.getD fr.toNat 0 ≠ 0 := fun e => h1 (.inl e)
    split at h
    · rename_i h2
      split at h
      · rename_i h3
        obtain rfl := Option.some.inj h
        exact ⟨rfl, h1', rfl, .inr ⟨rfl, h2, h3, rfl⟩⟩
      · exact absurd h (by simp)
    · split at h
      · exact absurd h (by simp)
      · obtain rfl := Option.some.inj h
        exact ⟨rfl, h1', rfl, .inl ⟨rfl, rfl⟩⟩
theorem lgU_mem {f : Int → Option St} {P : Int} {s : St} : ∀ {i : Nat}, s ∈ lgU f P i → ∃ j : Nat, j < i ∧ f (P - j) = some s
  | 0, h => absurd h (by simp [lgU])
  | i + 1, h => by
    rcases List.mem_append.1 h with h | h
    · obtain ⟨j, hj, e⟩ := lgU_mem h
      exact ⟨j, by omega, e⟩
    · exact ⟨i, by omega, by simpa using h⟩
theorem lgU_len {f : Int → Option St} {P : Int} : ∀ i : Nat, (lgU f P i).length ≤ i
  | 0 => Nat.le_refl _
  | i + 1 => by
    have := lgU_len (f := f) (P := P) i
    rw [lgU, List.length_append]
    have : ((f (P - i)).toList).length ≤ 1 := by cases f (P - i) <;> simp
    omega
theorem lgF_len (P H : Int) (own oth : List Int) (die : Int) : (lgF P H own oth die).length ≤ P.toNat + 1 := by
  unfold lgF
  split
  · exact Nat.zero_le _
  · exact lgU_len _
theorem nxS_len (P : Int) (p : Pl) (out : List Pl) (s : St) : (nxS P p out s).length ≤ out.length + 1 := by
  unfold nxS; split <;> simp
theorem foldl_len {α : Type} (f : List Pl → α → List Pl) (k : Nat) (hf : ∀ out x, (f out x).length ≤ out.length + k) : ∀ (l : List α) (out : List Pl), (l.foldl f out).length ≤ out.length + l.length * k
  | [], out => by simp
  | x :: l, out => by
    have h1 := foldl_len f k hf l (f out x)
    have h2 := hf out x
    rw [List.foldl_cons, List.length_cons, Nat.succ_mul]
    omega
theorem nxP_len (P H die : Int) (out : List Pl) (p : Pl) : (nxP P H die out p).length ≤ out.length + (P.toNat + 1) := by
  have h1 := foldl_len (nxS P p) 1 (nxS_len P p) (lgF P H p.own p.oth die) out
  have h2 := lgF_len P H p.own p.oth die
  unfold nxP
  omega
theorem nxL_len (P H die : Int) (l : List Pl) : (nxL P H die l).length ≤ l.length * (P.toNat + 1) := by
  have := foldl_len (nxP P H die) (P.toNat + 1) (nxP_len P H die) l []
  simpa [nxL] using this
end Go.Proofs.Ytjfmpnkbocilpaa
