/-
  Plain facts of settling balances: the poorest and the richest player, one transfer, all transfers. No program in sight; nothing is assumed.
-/
import Derived.Test.YtjfmpnkbocilpaaPlain
namespace Go.Proofs.Ytjfmpnkbocilpaa
open Go.RowKit

/-- the first place of a least one among the first k integers -/
def loI (L : List Int) : Nat → Nat
  | 0 => 0
  | k + 1 => if L.getD k 0 < L.getD (loI L k) 0 then k else loI L k
/-- the first place of a greatest one -/
def hiI (L : List Int) : Nat → Nat
  | 0 => 0
  | k + 1 => if L.getD (hiI L k) 0 < L.getD k 0 then k else hiI L k
theorem loI_succ (L : List Int) (k : Nat) : loI L (k + 1) = if L.getD k 0 < L.getD (loI L k) 0 then k else loI L k := rfl
theorem hiI_succ (L : List Int) (k : Nat) : hiI L (k + 1) = if L.getD (hiI L k) 0 < L.getD k 0 then k else hiI L k := rfl
theorem loI_lt (L : List Int) : ∀ k, loI L k < k ∨ loI L k = 0
  | 0 => .inr rfl
  | k + 1 => by
    rw [loI_succ]
    have := loI_lt L k
    split <;> omega
theorem hiI_lt (L : List Int) : ∀ k, hiI L k < k ∨ hiI L k = 0
  | 0 => .inr rfl
  | k + 1 => by
    rw [hiI_succ]
    have := hiI_lt L k
    split <;> omega
theorem loI_le (L : List Int) : ∀ k, ∀ i, i < k → L.getD (loI L k) 0 ≤ L.getD i 0
  | 0, i, hi => absurd hi (by omega)
  | k + 1, i, hi => by
    rw [loI_succ]
    by_cases e : i = k
    · subst e; split <;> omega
    · have := loI_le L k i (by omega)
      split <;> omega
theorem hiI_ge (L : List Int) : ∀ k, ∀ i, i < k → L.getD i 0 ≤ L.getD (hiI L k) 0
  | 0, i, hi => absurd hi (by omega)
  | k + 1, i, hi => by
    rw [hiI_succ]
    by_cases e : i = k
    · subst e; split <;> omega
    · have := hiI_ge L k i (by omega)
      split <;> omega

theorem psum_ge (L : List Int) : ∀ k, (∀ i, i < k → 0 ≤ L.getD i 0) → 0 ≤ psum L k ∧ ∀ j, j < k → L.getD j 0 ≤ psum L k
  | 0, _ => ⟨Int.le_refl _, fun j hj => absurd hj (by omega)⟩
  | k + 1, h => by
    obtain ⟨h1, h2⟩ := psum_ge L k (fun i hi => h i (by omega))
    have h3 := h k (by omega)
    rw [psum_succ]
    refine ⟨by omega, fun j hj => ?_⟩
    by_cases e : j = k
    · subst e; omega
    · have := h2 j (by omega); omega
theorem psum_le (L : List Int) : ∀ k, (∀ i, i < k → L.getD i 0 ≤ 0) → psum L k ≤ 0 ∧ ∀ j, j < k → psum L k ≤ L.getD j 0
  | 0, _ => ⟨Int.le_refl _, fun j hj => absurd hj (by omega)⟩
  | k + 1, h => by
    obtain ⟨h1, h2⟩ := psum_le L k (fun i hi => h i (by omega))
    have h3 := h k (by omega)
    rw [psum_succ]
    refine ⟨by omega, fun j hj => ?_⟩
    by_cases e : j = k
    · subst e; omega
    · have := h2 j (by omega); omega
theorem getD_set {L : List Int} {i : Nat} (v : Int) (hi : i < L.length) (j : Nat) : (L.set i v).getD j 0 = if j = i then v else L.getD j 0 := by
  rw [List.getD_eq_getElem?_getD, List.getD_eq_getElem?_getD, List.getElem?_set]
  by_cases e : j = i
  · subst e; simp [hi]
  · rw [if_neg (fun h => e h.symm), if_neg e]
theorem psum_set {L : List Int} {i : Nat} (v : Int) (hi : i < L.length) : ∀ k, psum (L.set i v) k = psum L k + (if i < k then v - L.getD i 0 else 0)
  | 0 => by simp [psum]
  | k + 1 => by
    rw [psum_succ, psum_succ, psum_set v hi k, getD_set v hi]
    by_cases e : k = i
    · subst e; simp; omega
    · rw [if_neg e]
      by_cases c : i < k
      · rw [if_pos c, if_pos (by omega)]; omega
      · rw [if_neg c, if_neg (by omega)]; omega

/-- the number of those of the first k integers that are not 0 -/
def nz (L : List Int) : Nat → Nat
  | 0 => 0
  | k + 1 => nz L k + if L.getD k 0 = 0 then 0 else 1
theorem nz_succ (L : List Int) (k : Nat) : nz L (k + 1) = nz L k + if L.getD k 0 = 0 then 0 else 1 := rfl
theorem nz_le (L : List Int) : ∀ k, nz L k ≤ k
  | 0 => Nat.le_refl _
  | k + 1 => by
    rw [nz_succ]
    have := nz_le L k
    split <;> omega
theorem nz_set {L : List Int} {i : Nat} (v : Int) (hi : i < L.length) : ∀ k, nz (L.set i v) k + (if i < k then (if L.getD i 0 = 0 then 0 else 1) else 0) = nz L k + (if i < k then (if v = 0 then 0 else 1) else 0)
  | 0 => by simp [nz]
  | k + 1 => by
    have h := nz_set (L := L) v hi k
    rw [nz_succ, nz_succ, getD_set v hi]
    by_cases e : k = i
    · subst e
      rw [if_neg (by omega), if_neg (by omega)] at h
      simp only [if_true, if_pos (Nat.lt_succ_self k)]
      omega
    · rw [if_neg e]
      by_cases c : i < k
      · rw [if_pos c, if_pos c] at h
        rw [if_pos (by omega : i < k + 1), if_pos (by omega : i < k + 1)]
        omega
      · rw [if_neg c, if_neg c] at h
        rw [if_neg (by omega : ¬ i < k + 1), if_neg (by omega : ¬ i < k + 1)]
        omega
theorem nz_zero {L : List Int} : ∀ {k}, nz L k = 0 → ∀ i, i < k → L.getD i 0 = 0
  | 0, _, i, hi => absurd hi (by omega)
  | k + 1, h, i, hi => by
    rw [nz_succ] at h
    by_cases e : i = k
    · subst e
      by_cases c : L.getD i 0 = 0
      · exact c
      · rw [if_neg c] at h; omega
    · exact nz_zero (L := L) (k := k) (by omega) i (by omega)
theorem nz_none {L : List Int} : ∀ {k}, (∀ i, i < k → L.getD i 0 = 0) → nz L k = 0
  | 0, _ => rfl
  | k + 1, h => by rw [nz_succ, nz_none (fun i hi => h i (by omega)), if_pos (h k (by omega))]

/-- who gives, who gets, how much -/
def fr (L : List Int) : Nat := loI L L.length
def tt (L : List Int) : Nat := hiI L L.length
def am (L : List Int) : Int := min (-(L.getD (fr L) 0)) (L.getD (tt L) 0)
/-- nothing is left to be settled -/
def dn (L : List Int) : Prop := L.length = 0 ∨ L.getD (fr L) 0 = 0
instance (L : List Int) : Decidable (dn L) := inferInstanceAs (Decidable (_ ∨ _))
/-- the balances after one transfer -/
def stL (L : List Int) : List Int := (L.set (fr L) (L.getD (fr L) 0 + am L)).set (tt L) (L.getD (tt L) 0 - am L)
/-- balances that can be settled -/
def okL (L : List Int) : Prop := psum L L.length = 0
theorem fr_lt {L : List Int} (h : 0 < L.length) : fr L < L.length := by
  have := loI_lt L L.length
  unfold fr; omega
theorem tt_lt {L : List Int} (h : 0 < L.length) : tt L < L.length := by
  have := hiI_lt L L.length
  unfold tt; omega
theorem dn_zero {L : List Int} (h : okL L) (hd : dn L) (i : Nat) (hi : i < L.length) : L.getD i 0 = 0 := by
  rcases hd with hd | hd
  · omega
  · have h1 : ∀ i, i < L.length → 0 ≤ L.getD i 0 := fun i hi => by
      have := loI_le L L.length i hi
      rw [fr] at hd; omega
    have h2 := (psum_ge L L.length h1).2 i hi
    have := h1 i hi
    unfold okL at h
    omega
theorem dn_hi {L : List Int} (h : okL L) (h0 : 0 < L.length) : dn L ↔ L.getD (tt L) 0 = 0 := by
  constructor
  · intro hd; exact dn_zero h hd _ (tt_lt h0)
  · intro ht
    right
    have h1 : ∀ i, i < L.length → L.getD i 0 ≤ 0 := fun i hi => by
      have := hiI_ge L L.length i hi
      rw [tt] at ht; omega
    have h2 := (psum_le L L.length h1).2 _ (fr_lt h0)
    have := h1 _ (fr_lt h0)
    unfold okL at h
    omega
theorem not_dn {L : List Int} (h : okL L) (hd : ¬ dn L) : 0 < L.length ∧ L.getD (fr L) 0 < 0 ∧ 0 < L.getD (tt L) 0 ∧ fr L ≠ tt L ∧ 1 ≤ am L ∧ am L ≤ -(L.getD (fr L) 0) ∧ am L ≤ L.getD (tt L) 0 ∧ (am L = -(L.getD (fr L) 0) ∨ am L = L.getD (tt L) 0) := by
  have h0 : 0 < L.length := by
    rcases Nat.eq_zero_or_pos L.length with e | e
    · exact absurd (.inl e) hd
    · exact e
  have hlo : L.getD (fr L) 0 < 0 := by
    rcases Int.lt_trichotomy (L.getD (fr L) 0) 0 with e | e | e
    · exact e
    · exact absurd (.inr e) hd
    · have h1 : ∀ i, i < L.length → 0 ≤ L.getD i 0 := fun i hi => by
        have := loI_le L L.length i hi
        rw [fr] at e; omega
      have := (psum_ge L L.length h1).2 _ (fr_lt h0)
      unfold okL at h; omega
  have hhi : 0 < L.getD (tt L) 0 := by
    rcases Int.lt_trichotomy (L.getD (tt L) 0) 0 with e | e | e
    · have h1 : ∀ i, i < L.length → L.getD i 0 ≤ 0 := fun i hi => by
        have := hiI_ge L L.length i hi
        rw [tt] at e; omega
      have := (psum_le L L.length h1).2 _ (tt_lt h0)
      unfold okL at h; omega
    · exact absurd ((dn_hi h h0).2 e) hd
    · exact e
  refine ⟨h0, hlo, hhi, fun e => by rw [e] at hlo; omega, ?_, ?_, ?_, ?_⟩ <;> unfold am <;> omega
theorem stL_len (L : List Int) : (stL L).length = L.length := by simp [stL]
theorem stL_at {L : List Int} (h : okL L) (hd : ¬ dn L) (j : Nat) : (stL L).getD j 0 = if j = tt L then L.getD (tt L) 0 - am L else if j = fr L then L.getD (fr L) 0 + am L else L.getD j 0 := by
  obtain ⟨h0, _⟩ := not_dn h hd
  rw [stL, getD_set _ (by rw [List.length_set]; exact tt_lt h0), getD_set _ (fr_lt h0)]
theorem stL_ok {L : List Int} (h : okL L) (hd : ¬ dn L) : okL (stL L) := by
  obtain ⟨h0, h1, h2, h3, _⟩ := not_dn h hd
  have a := fr_lt h0
  have b := tt_lt h0
  unfold okL at h ⊢
  rw [stL_len, stL, psum_set _ (by rw [List.length_set]; exact b), psum_set _ a, getD_set _ a, if_neg (fun e : tt L = fr L => h3 e.symm), if_pos a, if_pos b]
  omega
theorem stL_bd {L : List Int} (h : okL L) (hd : ¬ dn L) {B : Int} (hB : ∀ i, i < L.length → -B ≤ L.getD i 0 ∧ L.getD i 0 ≤ B) : ∀ i, i < (stL L).length → -B ≤ (stL L).getD i 0 ∧ (stL L).getD i 0 ≤ B := by
  intro i hi
  rw [stL_len] at hi
  obtain ⟨h0, h1, h2, h3, h4, h5, h6, h7⟩ := not_dn h hd
  have a := hB _ (fr_lt h0)
  have b := hB _ (tt_lt h0)
  have c := hB i hi
  rw [stL_at h hd]
  split
  · omega
  · split <;> omega
theorem stL_nz {L : List Int} (h : okL L) (hd : ¬ dn L) : nz (stL L) L.length + 1 ≤ nz L L.length := by
  obtain ⟨h0, h1, h2, h3, h4, h5, h6, h7⟩ := not_dn h hd
  have a := fr_lt h0
  have b := tt_lt h0
  have e1 := nz_set (L := L) (L.getD (fr L) 0 + am L) a L.length
  have e2 := nz_set (L := L.set (fr L) (L.getD (fr L) 0 + am L)) (L.getD (tt L) 0 - am L) (by rw [List.length_set]; exact b) L.length
  rw [if_pos a, if_pos a, if_neg (by omega : ¬ L.getD (fr L) 0 = 0)] at e1
  rw [getD_set _ a, if_neg (fun e : tt L = fr L => h3 e.symm), if_pos b, if_pos b, if_neg (by omega : ¬ L.getD (tt L) 0 = 0)] at e2
  rw [stL]
  rcases h7 with h7 | h7
  · rw [if_pos (by omega : L.getD (fr L) 0 + am L = 0)] at e1
    split at e2 <;> omega
  · rw [if_pos (by omega : L.getD (tt L) 0 - am L = 0)] at e2
    split at e1 <;> omega
theorem nz_two {L : List Int} (h : okL L) (hd : ¬ dn L) : 2 ≤ nz L L.length := by
  obtain ⟨h0, h1, h2, h3, h4, h5, h6, h7⟩ := not_dn h hd
  have a := fr_lt h0
  have b := tt_lt h0
  have e1 := nz_set (L := L) 0 a L.length
  have e2 := nz_set (L := L.set (fr L) 0) 0 (i := tt L) (by rw [List.length_set]; exact b) L.length
  rw [if_pos a, if_pos a, if_neg (by omega : ¬ L.getD (fr L) 0 = 0), if_pos rfl] at e1
  rw [getD_set _ a, if_neg (fun e : tt L = fr L => h3 e.symm), if_pos b, if_pos b, if_neg (by omega : ¬ L.getD (tt L) 0 = 0), if_pos rfl] at e2
  omega

/-- the balances after k transfers -/
def lf (L : List Int) : Nat → List Int
  | 0 => L
  | k + 1 => if dn (lf L k) then lf L k else stL (lf L k)
/-- the first k transfers -/
def tr (L : List Int) : Nat → List Int
  | 0 => []
  | k + 1 => if dn (lf L k) then tr L k else tr L k ++ [(fr (lf L k) : Int), (tt (lf L k) : Int), am (lf L k)]
theorem lf_succ (L : List Int) (k : Nat) : lf L (k + 1) = if dn (lf L k) then lf L k else stL (lf L k) := rfl
theorem tr_succ (L : List Int) (k : Nat) : tr L (k + 1) = if dn (lf L k) then tr L k else tr L k ++ [(fr (lf L k) : Int), (tt (lf L k) : Int), am (lf L k)] := rfl
theorem lf_len (L : List Int) : ∀ k, (lf L k).length = L.length
  | 0 => rfl
  | k + 1 => by
    rw [lf_succ]
    split
    · exact lf_len L k
    · rw [stL_len, lf_len L k]
theorem lf_ok {L : List Int} (h : okL L) : ∀ k, okL (lf L k)
  | 0 => h
  | k + 1 => by
    rw [lf_succ]
    split
    · exact lf_ok h k
    · rename_i hd; exact stL_ok (lf_ok h k) hd
theorem lf_bd {L : List Int} (h : okL L) {B : Int} (hB : ∀ i, i < L.length → -B ≤ L.getD i 0 ∧ L.getD i 0 ≤ B) : ∀ k, ∀ i, i < (lf L k).length → -B ≤ (lf L k).getD i 0 ∧ (lf L k).getD i 0 ≤ B
  | 0 => hB
  | k + 1 => by
    rw [lf_succ]
    split
    · exact lf_bd h hB k
    · rename_i hd; exact stL_bd (lf_ok h k) hd (lf_bd h hB k)
theorem dn_stay {L : List Int} {k : Nat} (hd : dn (lf L k)) : ∀ j, lf L (k + j) = lf L k ∧ tr L (k + j) = tr L k
  | 0 => ⟨rfl, rfl⟩
  | j + 1 => by
    obtain ⟨h1, h2⟩ := dn_stay hd j
    have e : dn (lf L (k + j)) := by rw [h1]; exact hd
    rw [← Nat.add_assoc, lf_succ, tr_succ, if_pos e, if_pos e]
    exact ⟨h1, h2⟩
/-- as long as something is left, every transfer settles a player -/
theorem lf_nz {L : List Int} (h : okL L) : ∀ k, ¬ dn (lf L k) → k + nz (lf L k) L.length ≤ nz L L.length ∧ (tr L k).length = k * 3
  | 0, _ => by simp [lf, tr]
  | k + 1, hd => by
    have hd0 : ¬ dn (lf L k) := fun e => hd (by rw [lf_succ, if_pos e]; exact e)
    obtain ⟨h1, h2⟩ := lf_nz h k hd0
    have h3 := stL_nz (lf_ok h k) hd0
    rw [lf_len] at h3
    rw [lf_succ, tr_succ, if_neg hd0, if_neg hd0]
    refine ⟨by omega, ?_⟩
    rw [List.length_append, h2]
    simp
    omega
theorem lf_lt {L : List Int} (h : okL L) {k : Nat} (hd : ¬ dn (lf L k)) : k + 2 ≤ L.length := by
  have h1 := (lf_nz h k hd).1
  have h2 := nz_two (lf_ok h k) hd
  rw [lf_len] at h2
  have := nz_le L L.length
  omega
/-- all transfers -/
def trL (L : List Int) : List Int := tr L L.length
theorem dn_end {L : List Int} (h : okL L) : dn (lf L L.length) := by
  by_cases hd : dn (lf L L.length)
  · exact hd
  · have := lf_lt h hd; omega
theorem tr_done {L : List Int} (_h : okL L) {k : Nat} (hk : k ≤ L.length) (hd : dn (lf L k)) : tr L k = trL L := by
  have h1 := (dn_stay hd (L.length - k)).2
  rw [show k + (L.length - k) = L.length by omega] at h1
  exact h1.symm
/-- the number of transfers -/
theorem tr_len (L : List Int) : ∀ k, (tr L k).length ≤ k * 3 ∧ ∃ m, (tr L k).length = m * 3 ∧ m ≤ k
  | 0 => ⟨Nat.le_refl _, 0, rfl, Nat.le_refl _⟩
  | k + 1 => by
    obtain ⟨h1, m, h2, h3⟩ := tr_len L k
    rw [tr_succ]
    split
    · exact ⟨by omega, m, h2, by omega⟩
    · rw [List.length_append]
      simp
      exact ⟨by omega, m + 1, by omega, by omega⟩
theorem trL_len {L : List Int} (h : okL L) : ∃ m, (trL L).length = m * 3 ∧ (m = 0 ∨ m < L.length) := by
  obtain ⟨_, m, h2, h3⟩ := tr_len L L.length
  refine ⟨m, h2, ?_⟩
  rcases Nat.eq_zero_or_pos L.length with e | e
  · omega
  · right
    have hd : dn (lf L (L.length - 1)) := by
      by_cases hd : dn (lf L (L.length - 1))
      · exact hd
      · have := lf_lt h hd; omega
    have h4 : tr L (L.length - 1) = trL L := tr_done h (by omega) hd
    obtain ⟨_, m', h5, h6⟩ := tr_len L (L.length - 1)
    rw [h4] at h5
    have h7 : (tr L L.length).length = m' * 3 := h5
    omega
end Go.Proofs.Ytjfmpnkbocilpaa
