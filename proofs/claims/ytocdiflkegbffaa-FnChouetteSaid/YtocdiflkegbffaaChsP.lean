/-
  The plain side of ChouetteScores: the scores and the order after some games.
-/
import Derived.Test.YtocdiflkegbffaaCh
import Derived.Test.YtocdiflkegbffaaNext
import Derived.Test.YtocdiflkegbffaaSetP
namespace Go.Proofs.Ytocdiflkegbffaa
open Go.RowKit
set_option linter.unusedVariables false

/-- one score turned by d -/
def upd (xs : List Int) (k : Nat) (d : Int) : List Int := xs.set k (xs.getD k 0 + d)
theorem upd_len (xs : List Int) (k : Nat) (d : Int) : (upd xs k d).length = xs.length := by simp [upd]
theorem upd_at {xs : List Int} {k : Nat} (d : Int) (h : k < xs.length) (i : Nat) : (upd xs k d).getD i 0 = if i = k then xs.getD k 0 + d else xs.getD i 0 := by
  rw [upd, getD_set _ h]
theorem upd_sum {xs : List Int} {k n : Nat} (d : Int) (h : k < xs.length) (hn : k < n) : psum (upd xs k d) n = psum xs n + d := by
  rw [upd, psum_set _ h, if_pos hn]; omega
/-- the scores after i outcomes of a game -/
def gmS (sc now ys : List Int) : Nat → List Int
  | 0 => sc
  | i + 1 => upd (upd (gmS sc now ys i) (now.getD 0 0).toNat (ys.getD i 0)) (now.getD (i + 1) 0).toNat (-(ys.getD i 0))
theorem gmS_len (sc now ys : List Int) : ∀ i, (gmS sc now ys i).length = sc.length
  | 0 => rfl
  | i + 1 => by rw [gmS, upd_len, upd_len, gmS_len sc now ys i]
/-- the scores and the order after g games -/
def stC (order : List Int) (X : Nat → List Int) (ln : Nat → Nat) : Nat → List Int × List Int
  | 0 => (List.replicate 8 0, order)
  | g + 1 => (gmS (stC order X ln g).1 (stC order X ln g).2 (X g) (ln g), nextL (stC order X ln g).2 ((X g).getD 0 0))
def okC (n : Nat) (X : Nat → List Int) (ln : Nat → Nat) : Nat → Bool
  | 0 => true
  | g + 1 => okC n X ln g && outB n (ln g) (X g)
theorem okC_no {n g : Nat} {X : Nat → List Int} {ln : Nat → Nat} (h : outB n (ln g) (X g) = false) : ∀ N, g < N → okC n X ln N = false
  | 0, h0 => absurd h0 (by omega)
  | N + 1, h0 => by
    by_cases e : g = N
    · subst e; rw [okC, h, Bool.and_false]
    · rw [okC, okC_no h N (by omega), Bool.false_and]
/-- the code of both ChouetteScores -/
def chC (n : Nat) (order : List Int) (N : Nat) (X : Nat → List Int) (ln : Nat → Nat) : Int := if 60 < N then 3 else if ordB n order = true then (if okC n X ln N = true then 0 else 1) else 1
theorem chC_0 {n N : Nat} {order : List Int} {X : Nat → List Int} {ln : Nat → Nat} (h : 60 < N) : chC n order N X ln = 3 := by unfold chC; rw [if_pos h]
theorem chC_1 {n N : Nat} {order : List Int} {X : Nat → List Int} {ln : Nat → Nat} (h : ¬ 60 < N) (h2 : ordB n order = false) : chC n order N X ln = 1 := by unfold chC; rw [if_neg h, h2]; rfl
theorem chC_2 {n N : Nat} {order : List Int} {X : Nat → List Int} {ln : Nat → Nat} (h : ¬ 60 < N) (h2 : ordB n order = true) (h3 : okC n X ln N = false) : chC n order N X ln = 1 := by unfold chC; rw [if_neg h, h2, h3]; rfl
theorem chC_3 {n N : Nat} {order : List Int} {X : Nat → List Int} {ln : Nat → Nat} (h : ¬ 60 < N) (h2 : ordB n order = true) (h3 : okC n X ln N = true) : chC n order N X ln = 0 := by unfold chC; rw [if_neg h, h2, h3]; rfl
theorem stC_len1 (order : List Int) (X : Nat → List Int) (ln : Nat → Nat) : ∀ g, (stC order X ln g).1.length = 8
  | 0 => rfl
  | g + 1 => by rw [stC, gmS_len, stC_len1 order X ln g]

/-! ### the order stays an order -/
theorem hasB_mem {xs : List Int} {x : Int} : ∀ {k : Nat}, k ≤ xs.length → (hasB xs x k = true ↔ x ∈ xs.take k) := by
  intro k hk
  constructor
  · intro h
    obtain ⟨i, hi, e⟩ := hasB_of h
    have hil : i < (xs.take k).length := by rw [List.length_take]; omega
    have : (xs.take k)[i] = x := by rw [List.getElem_take, ← e, List.getD_eq_getElem?_getD, List.getElem?_eq_getElem (by omega)]; rfl
    rw [← this]; exact List.getElem_mem hil
  · intro h
    obtain ⟨i, hi, e⟩ := List.getElem_of_mem h
    rw [List.length_take] at hi
    refine hasB_yes (i := i) (by omega) ?_
    rw [← e, List.getElem_take, List.getD_eq_getElem?_getD, List.getElem?_eq_getElem (by omega)]
    rfl
theorem getD_lt {xs : List Int} {i : Nat} (h : i < xs.length) : xs.getD i 0 = xs[i] := by rw [List.getD_eq_getElem?_getD, List.getElem?_eq_getElem h]; rfl
theorem allO_iff {xs : List Int} : ∀ {k : Nat}, k ≤ xs.length → (allO xs k = true ↔ (∀ x ∈ xs.take k, wB x 0 7 = true) ∧ (xs.take k).Nodup)
  | 0, _ => by simp [allO]
  | k + 1, hk => by
    have hs : xs.take (k + 1) = xs.take k ++ [xs.getD k 0] := by rw [getD_lt (by omega), List.take_append_getElem]
    rw [allO_succ, Bool.and_eq_true, Bool.and_eq_true, allO_iff (by omega : k ≤ xs.length), hs, List.nodup_append]
    have hm := hasB_mem (x := xs.getD k 0) (by omega : k ≤ xs.length)
    constructor
    · rintro ⟨⟨h1, h2⟩, h3, h4⟩
      refine ⟨fun x hx => ?_, h2, by simp, fun a ha b hb => ?_⟩
      · rcases List.mem_append.1 hx with h | h
        · exact h1 x h
        · rw [List.mem_singleton.1 h]; exact h3
      · rw [List.mem_singleton.1 hb]
        rintro rfl
        have : hasB xs (xs.getD k 0) k = true := hm.2 ha
        rw [this] at h4; cases h4
    · rintro ⟨h1, h2, _, h4⟩
      refine ⟨⟨fun x hx => h1 x (List.mem_append.2 (.inl hx)), h2⟩, h1 _ (List.mem_append.2 (.inr (by simp))), ?_⟩
      cases e : hasB xs (xs.getD k 0) k with
      | false => rfl
      | true => exact absurd rfl (h4 _ (hm.1 e) _ (by simp))
theorem next_perm {xs : List Int} (y : Int) (h : 2 ≤ xs.length) : (nextL xs y).Perm xs := by
  match xs, h with
  | a :: b :: r, _ =>
    unfold nextL
    split
    · show (a :: (r ++ [b])).Perm (a :: b :: r)
      exact List.Perm.cons a (List.perm_append_singleton b r)
    · show ((b :: r) ++ [a]).Perm (a :: b :: r)
      exact List.perm_append_singleton a (b :: r)
theorem ordB_perm {n : Nat} {xs ys : List Int} (hl : xs.length = n) (hp : ys.Perm xs) (h : ordB n xs = true) : ordB n ys = true := by
  obtain ⟨h1, h2, h3⟩ := ordB_out h
  have hl' : ys.length = n := by rw [hp.length_eq, hl]
  refine ordB_yes h1 h2 ?_
  rw [allO_iff (by omega)] at h3 ⊢
  rw [List.take_of_length_le (by omega)] at h3 ⊢
  exact ⟨fun x hx => h3.1 x (hp.mem_iff.1 hx), hp.nodup_iff.2 h3.2⟩
theorem stC_perm {n : Nat} {order : List Int} {X : Nat → List Int} {ln : Nat → Nat} (hl : order.length = n) (hn : 2 ≤ n) : ∀ g, (stC order X ln g).2.Perm order
  | 0 => List.Perm.refl _
  | g + 1 => by
    have ih := stC_perm (X := X) (ln := ln) hl hn g
    rw [stC]
    exact (next_perm _ (by rw [ih.length_eq, hl]; exact hn)).trans ih
theorem stC_ord {n : Nat} {order : List Int} {X : Nat → List Int} {ln : Nat → Nat} (hl : order.length = n) (h : ordB n order = true) (g : Nat) : ordB n (stC order X ln g).2 = true ∧ (stC order X ln g).2.length = n := by
  have hp := stC_perm (X := X) (ln := ln) hl (ordB_out h).1 g
  exact ⟨ordB_perm hl hp h, by rw [hp.length_eq, hl]⟩
theorem ordB_at {n : Nat} {xs : List Int} (h : ordB n xs = true) {i : Nat} (hi : i < n) : 0 ≤ xs.getD i 0 ∧ xs.getD i 0 ≤ 7 := wB_true.1 (allO_at (ordB_out h).2.2 i hi).1
theorem outB_at {n m : Nat} {ys : List Int} (h : outB n m ys = true) {i : Nat} (hi : i < m) : -1000000 ≤ ys.getD i 0 ∧ ys.getD i 0 ≤ 1000000 := wB_true.1 (allTo_at (outB_out h).2 i hi)

/-! ### bounds and the sum -/
theorem gmS_bd {n m : Nat} {sc now ys : List Int} {B : Int} (hs : sc.length = 8) (ho : ordB n now = true) (hy : outB n m ys = true) (hB : ∀ i, i < 8 → -B ≤ sc.getD i 0 ∧ sc.getD i 0 ≤ B) : ∀ i, i ≤ m → ∀ k, k < 8 → -(B + 2000000 * i) ≤ (gmS sc now ys i).getD k 0 ∧ (gmS sc now ys i).getD k 0 ≤ B + 2000000 * i
  | 0, _, k, hk => by have := hB k hk; simp only [gmS]; omega
  | i + 1, hi, k, hk => by
    obtain ⟨e1, _⟩ := outB_out hy
    have ih := gmS_bd hs ho hy hB i (by omega)
    have a0 := ordB_at ho (show 0 < n by omega)
    have a1 := ordB_at ho (show i + 1 < n by omega)
    have b := outB_at hy (show i < m by omega)
    have l1 : (gmS sc now ys i).length = 8 := by rw [gmS_len, hs]
    rw [gmS, upd_at _ (by rw [upd_len, l1]; omega)]
    have q0 := ih (now.getD 0 0).toNat (by omega)
    have q1 := ih (now.getD (i + 1) 0).toNat (by omega)
    have qk := ih k hk
    split
    · rw [upd_at _ (by rw [l1]; omega)]
      split <;> push_cast <;> omega
    · rw [upd_at _ (by rw [l1]; omega)]
      split <;> push_cast <;> omega
theorem gmS_sum {n m : Nat} {sc now ys : List Int} (hs : sc.length = 8) (ho : ordB n now = true) (hy : outB n m ys = true) : ∀ i, i ≤ m → psum (gmS sc now ys i) 8 = psum sc 8
  | 0, _ => rfl
  | i + 1, hi => by
    obtain ⟨e1, _⟩ := outB_out hy
    have a0 := ordB_at ho (show 0 < n by omega)
    have a1 := ordB_at ho (show i + 1 < n by omega)
    have l1 : (gmS sc now ys i).length = 8 := by rw [gmS_len, hs]
    rw [gmS, upd_sum _ (by rw [upd_len, l1]; omega) (by omega), upd_sum _ (by rw [l1]; omega) (by omega), gmS_sum hs ho hy i (by omega)]
    omega
theorem stC_bd {n : Nat} {order : List Int} {X : Nat → List Int} {ln : Nat → Nat} (hl : order.length = n) (h : ordB n order = true) : ∀ g, okC n X ln g = true → (∀ k, k < 8 → -(14000000 * (g : Int)) ≤ (stC order X ln g).1.getD k 0 ∧ (stC order X ln g).1.getD k 0 ≤ 14000000 * (g : Int)) ∧ psum (stC order X ln g).1 8 = 0
  | 0, _ => by
    refine ⟨fun k hk => ?_, by show psum (List.replicate 8 (0 : Int)) 8 = 0; decide⟩
    have : (stC order X ln 0).1.getD k 0 = 0 := by
      show (List.replicate 8 (0 : Int)).getD k 0 = 0
      rw [List.getD_eq_getElem?_getD, List.getElem?_replicate]
      split <;> rfl
    rw [this]; simp
  | g + 1, hg => by
    rw [okC, Bool.and_eq_true] at hg
    obtain ⟨ih1, ih2⟩ := stC_bd hl h g hg.1
    have ho := (stC_ord (X := X) (ln := ln) hl h g).1
    obtain ⟨e1, _⟩ := outB_out hg.2
    have h8 := (ordB_out h).2.1
    have hb := gmS_bd (stC_len1 order X ln g) ho hg.2 ih1 (ln g) (Nat.le_refl _)
    refine ⟨fun k hk => ?_, ?_⟩
    · have := hb k hk
      rw [stC]
      push_cast
      have hm : (ln g : Int) ≤ 7 := by omega
      omega
    · rw [stC, gmS_sum (stC_len1 order X ln g) ho hg.2 (ln g) (Nat.le_refl _)]
      exact ih2

theorem gm_data {n m : Nat} {now ys : List Int} (ho : ordB n now = true) (hy : outB n m ys = true) {i : Nat} (hi : i < m) : ∃ X Y : Nat, now.getD 0 0 = (X : Int) ∧ now.getD (i + 1) 0 = (Y : Int) ∧ X < 8 ∧ Y < 8 ∧ ¬ X = Y := by
  obtain ⟨e1, _⟩ := outB_out hy
  have a0 := ordB_at ho (show 0 < n by omega)
  have a1 := ordB_at ho (show i + 1 < n by omega)
  have hb := (allO_at (ordB_out ho).2.2 (i + 1) (by omega)).2
  obtain ⟨X, hX⟩ := Int.eq_ofNat_of_zero_le a0.1
  obtain ⟨Y, hY⟩ := Int.eq_ofNat_of_zero_le a1.1
  refine ⟨X, Y, hX, hY, by omega, by omega, fun e => ?_⟩
  have : hasB now (now.getD (i + 1) 0) (i + 1) = true := hasB_yes (i := 0) (by omega) (by rw [hX, hY, e])
  rw [this] at hb; cases hb
theorem gm_cell {sc now ys : List Int} {i X Y : Nat} {bX bY y : Int} (hs : sc.length = 8) (hX : now.getD 0 0 = (X : Int)) (hY : now.getD (i + 1) 0 = (Y : Int)) (hX8 : X < 8) (hY8 : Y < 8) (hne : ¬ X = Y) (e1 : (gmS sc now ys i).getD X 0 = bX) (e2 : (gmS sc now ys i).getD Y 0 = bY) (ey : ys.getD i 0 = y) (j : Nat) (hj : j < 8) :
    (if j = Y then Value.int .i64 (bY - y) else if j = X then Value.int .i64 (bX + y) else icell .i64 (gmS sc now ys i) j) = icell .i64 (gmS sc now ys (i + 1)) j := by
  have l1 : (gmS sc now ys i).length = 8 := by rw [gmS_len, hs]
  show _ = Value.int .i64 ((gmS sc now ys (i + 1)).getD j 0)
  rw [gmS, hX, hY, ey, Int.toNat_natCast, Int.toNat_natCast, upd_at _ (by rw [upd_len, l1]; exact hY8), upd_at _ (by rw [l1]; exact hX8), upd_at _ (by rw [l1]; exact hX8)]
  by_cases c1 : j = Y
  · subst c1
    rw [if_pos rfl, if_pos rfl, if_neg (fun e => hne e.symm), e2, Int.sub_eq_add_neg]
  · rw [if_neg c1, if_neg c1]
    by_cases c2 : j = X
    · subst c2
      rw [if_pos rfl, if_pos rfl, e1]
    · rw [if_neg c2, if_neg c2]
      rfl
end Go.Proofs.Ytocdiflkegbffaa
