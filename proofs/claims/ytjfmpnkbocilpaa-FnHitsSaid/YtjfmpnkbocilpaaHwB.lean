/-
  Boards stay boards under legal steps: counts between 0 and the number of checkers.
-/
import Derived.Test.YtjfmpnkbocilpaaHwP
import Derived.Test.YtjfmpnkbocilpaaSetP
namespace Go.Proofs.Ytjfmpnkbocilpaa
set_option linter.unusedVariables false

/-- a side: its length, no count below 0, the sum -/
structure SV (P c : Int) (xs : List Int) : Prop where
  len : xs.length = P.toNat + 1
  pos : ∀ i, i < xs.length → 0 ≤ xs.getD i 0
  sum : psum xs xs.length ≤ c
theorem SV.le {P c : Int} {xs : List Int} (h : SV P c xs) {i : Nat} (hi : i < xs.length) : xs.getD i 0 ≤ c := by
  have h1 := psum_mono (xs := xs) (j := i + 1) xs.length hi h.pos
  have h2 := psum_mono (xs := xs) (j := 0) i (Nat.zero_le _) (fun k hk => h.pos k (by omega))
  have h3 := h.sum
  rw [psum_succ] at h1
  have : psum xs 0 = 0 := rfl
  omega
theorem SV.dec {P c : Int} {xs : List Int} (h : SV P c xs) {i : Nat} (hi : i < xs.length) (h1 : 1 ≤ xs.getD i 0) : SV P (c - 1) (xs.set i (xs.getD i 0 - 1)) := by
  refine ⟨by rw [List.length_set]; exact h.len, fun j hj => ?_, ?_⟩
  · rw [List.length_set] at hj
    rw [getD_set _ hi]
    split
    · omega
    · exact h.pos j hj
  · rw [List.length_set, psum_set _ hi, if_pos hi]
    have := h.sum
    omega
theorem SV.inc {P c : Int} {xs : List Int} (h : SV P (c - 1) xs) {i : Nat} (hi : i < xs.length) : SV P c (xs.set i (xs.getD i 0 + 1)) := by
  refine ⟨by rw [List.length_set]; exact h.len, fun j hj => ?_, ?_⟩
  · rw [List.length_set] at hj
    rw [getD_set _ hi]
    split
    · have := h.pos i hi; omega
    · exact h.pos j hj
  · rw [List.length_set, psum_set _ hi, if_pos hi]
    have := h.sum
    omega
theorem SV.wide {P c c' : Int} {xs : List Int} (h : SV P c xs) (hc : c ≤ c') : SV P c' xs := ⟨h.len, h.pos, Int.le_trans h.sum hc⟩
/-- a step that is in the list of legal steps -/
structure StOk (P : Int) (own oth : List Int) (s : St) : Prop where
  f0 : 0 ≤ s.fr
  f1 : s.fr ≤ P
  one : 1 ≤ own.getD s.fr.toNat 0
  t0 : -1 ≤ s.to
  t1 : s.to < P
  hit : s.hit = true → 0 ≤ s.to ∧ oth.getD (P - 1 - s.to).toNat 0 = 1
theorem lgF_ok {P H c die : Int} {own oth : List Int} {s : St} (hP : 1 ≤ P) (hd : 1 ≤ die) (ho : SV P c own) (h : s ∈ lgF P H own oth die) : StOk P own oth s := by
  unfold lgF at h
  split at h
  · exact absurd h (by simp)
  · obtain ⟨j, hj, e⟩ := lgU_mem h
    obtain ⟨e1, e2, e3, e4⟩ := stF_ok e
    have hlen := ho.len
    have hp := ho.pos (P - j).toNat (by omega)
    refine ⟨by omega, by omega, by rw [e1]; omega, ?_, ?_, fun hh => ?_⟩
    · rcases e4 with ⟨t, _⟩ | ⟨t, t2, _⟩ <;> omega
    · rcases e4 with ⟨t, _⟩ | ⟨t, t2, _⟩ <;> omega
    · rcases e4 with ⟨_, t⟩ | ⟨t, t2, _, t3⟩
      · rw [t] at hh; exact absurd hh (by decide)
      · rw [t3] at hh
        have := of_decide_eq_true hh
        rw [t]
        exact ⟨t2, this⟩
theorem ownA_sv {P c : Int} {own oth : List Int} {s : St} (hP : 1 ≤ P) (ho : SV P c own) (h : StOk P own oth s) : SV P c (ownA own s) := by
  have hl := ho.len
  have a := h.f0; have b := h.f1
  have h1 := ho.dec (i := s.fr.toNat) (by omega) h.one
  unfold ownA
  dsimp only
  split
  · have d := h.t1
    exact h1.inc (by rw [List.length_set]; omega)
  · exact h1.wide (by omega)
theorem othA_sv {P c : Int} {own oth : List Int} {s : St} (hP : 1 ≤ P) (ho : SV P c oth) (h : StOk P own oth s) : SV P c (othA P oth s) := by
  have hl := ho.len
  unfold othA
  dsimp only
  split
  · rename_i hh
    obtain ⟨t0, t1⟩ := h.hit hh
    have d := h.t1
    have h1 := ho.dec (i := (P - 1 - s.to).toNat) (by omega) (by omega)
    exact h1.inc (by rw [List.length_set]; omega)
  · exact ho
end Go.Proofs.Ytjfmpnkbocilpaa
