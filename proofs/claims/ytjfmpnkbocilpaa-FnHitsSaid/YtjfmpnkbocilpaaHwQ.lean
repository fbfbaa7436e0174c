/-
  The plays of a roll in plain words: an order round by round, the plays of a roll, the weights of all rolls; what holds of them.
-/
import Derived.Test.YtjfmpnkbocilpaaHwB
namespace Go.Proofs.Ytjfmpnkbocilpaa
set_option linter.unusedVariables false

def PlOk (P c : Int) (k : Nat) (p : Pl) : Prop := SV P c p.own ∧ SV P c p.oth ∧ p.st.length = k
def PlsOk (P c : Int) (k : Nat) (l : List Pl) : Prop := ∀ p ∈ l, PlOk P c k p
theorem foldl_inv {α β : Type} (f : β → α → β) (I : β → Prop) : ∀ (l : List α) (b : β), (∀ b a, a ∈ l → I b → I (f b a)) → I b → I (l.foldl f b)
  | [], b, _, h => h
  | x :: l, b, hf, h => foldl_inv f I l (f b x) (fun b a ha => hf b a (List.mem_cons_of_mem _ ha)) (hf b x List.mem_cons_self h)
theorem nxS_ok {P c : Int} {k : Nat} {p : Pl} {out : List Pl} {s : St} (hP : 1 ≤ P) (ho : PlsOk P c (k + 1) out) (hp : PlOk P c k p) (hs : StOk P p.own p.oth s) : PlsOk P c (k + 1) (nxS P p out s) := by
  unfold nxS
  split
  · exact ho
  · intro q hq
    rcases List.mem_append.1 hq with h | h
    · exact ho q h
    · obtain rfl := List.mem_singleton.1 h
      exact ⟨ownA_sv hP hp.1 hs, othA_sv hP hp.2.1 hs, by rw [List.length_append, hp.2.2]; rfl⟩
theorem nxP_ok {P H c die : Int} {k : Nat} {p : Pl} {out : List Pl} (hP : 1 ≤ P) (hd : 1 ≤ die) (ho : PlsOk P c (k + 1) out) (hp : PlOk P c k p) : PlsOk P c (k + 1) (nxP P H die out p) :=
  foldl_inv (nxS P p) (PlsOk P c (k + 1)) _ _ (fun b s hs hb => nxS_ok hP hb hp (lgF_ok hP hd hp.1 hs)) ho
theorem nxL_ok {P H c die : Int} {k : Nat} {l : List Pl} (hP : 1 ≤ P) (hd : 1 ≤ die) (hl : PlsOk P c k l) : PlsOk P c (k + 1) (nxL P H die l) :=
  foldl_inv (nxP P H die) (PlsOk P c (k + 1)) _ _ (fun b p hp hb => nxP_ok hP hd hb (hl p hp)) (fun _ h => absurd h (by simp))
def sq0 (own oth : List Int) : List Pl := [⟨[], own, oth⟩]
theorem sq0_ok {P c : Int} {own oth : List Int} (h1 : SV P c own) (h2 : SV P c oth) : PlsOk P c 0 (sq0 own oth) := fun p hp => by
  obtain rfl := List.mem_singleton.1 hp
  exact ⟨h1, h2, rfl⟩
/-- an order behind its first j dice -/
def LgAt (P H : Int) (order : List Int) (l0 : List Pl) (j : Nat) (cur : List Pl) (f : Bool) : Prop :=
  lng P H order l0 = ((lng P H (order.drop j) cur).1, (lng P H (order.drop j) cur).2.1 + j, f && (lng P H (order.drop j) cur).2.2)
section
variable {P H : Int} {order : List Int} {l0 cur : List Pl} {j : Nat} {f : Bool}
theorem LgAt.start : LgAt P H order l0 0 l0 true := by simp [LgAt]
theorem drop_at (hj : j < order.length) : order.drop j = order.getD j 0 :: order.drop (j + 1) := by
  rw [List.drop_eq_getElem_cons hj, List.getD_eq_getElem?_getD, List.getElem?_eq_getElem hj]; rfl
theorem LgAt.step (h : LgAt P H order l0 j cur f) (hj : j < order.length) (hne : ¬ (nxL P H (order.getD j 0) cur).length = 0) :
    LgAt P H order l0 (j + 1) (nxL P H (order.getD j 0) cur) (f && decide ((nxL P H (order.getD j 0) cur).length ≤ 3000)) := by
  have he : (nxL P H (order.getD j 0) cur).isEmpty = false := by
    cases hx : nxL P H (order.getD j 0) cur with
    | nil => rw [hx] at hne; exact absurd rfl hne
    | cons _ _ => rfl
  unfold LgAt at h ⊢
  rw [h, drop_at hj, lng, he]
  simp only [Bool.false_eq_true, if_false, Bool.and_assoc]
  refine Prod.ext rfl (Prod.ext ?_ rfl)
  show _ + 1 + j = _ + (j + 1)
  omega
theorem LgAt.stop (h : LgAt P H order l0 j cur f) (hj : j < order.length) (he : (nxL P H (order.getD j 0) cur).length = 0) : lng P H order l0 = (cur, j, f) := by
  have he' : (nxL P H (order.getD j 0) cur).isEmpty = true := by rw [List.eq_nil_of_length_eq_zero he]; rfl
  unfold LgAt at h
  rw [h, drop_at hj, lng, he']
  simp
theorem LgAt.fin (h : LgAt P H order l0 j cur f) (hj : j = order.length) : lng P H order l0 = (cur, j, f) := by
  unfold LgAt at h
  rw [h, hj, List.drop_length]
  simp [lng]
end
theorem lng_zero {P H : Int} : ∀ {ds : List Int} {l : List Pl}, (lng P H ds l).2.1 = 0 → (lng P H ds l).1 = l
  | [], l, _ => rfl
  | d :: ds, l, h => by
    unfold lng at h ⊢
    split
    · rfl
    · rename_i hx
      rw [if_neg hx] at h
      exact absurd h (by simp)
theorem lng_some {P H : Int} : ∀ {ds : List Int} {l : List Pl}, l ≠ [] → (lng P H ds l).1 ≠ []
  | [], l, h => h
  | d :: ds, l, h => by
    unfold lng
    split
    · exact h
    · rename_i hx
      exact lng_some (fun e => hx (by rw [e]; rfl))
/-- the plays of a roll from the results of its orders -/
def mgR (n : Nat) (out : List Pl) (x : List Pl × Nat × Bool) : List Pl := if x.2.1 ≠ n ∨ (n = 1 ∧ out ≠ []) then out else mgF out x.1
def resF (P H : Int) (own oth : List Int) (a b : Int) : List (List Pl × Nat × Bool) := (ordF a b).map fun o => lng P H o (sq0 own oth)
def mostF (r : List (List Pl × Nat × Bool)) : Nat := r.foldl (fun m x => max m x.2.1) 0
def fitsF (r : List (List Pl × Nat × Bool)) : Bool := r.foldl (fun m x => m && x.2.2) true
def mrgF (n : Nat) (r : List (List Pl × Nat × Bool)) : List Pl := r.foldl (mgR n) []
def allF (P H : Int) (own oth : List Int) (a b : Int) : List Pl := mrgF (mostF (resF P H own oth a b)) (resF P H own oth a b)
theorem foldl_max_ge {r : List (List Pl × Nat × Bool)} : ∀ {m : Nat}, m ≤ r.foldl (fun m x => max m x.2.1) m ∧ ∀ x ∈ r, x.2.1 ≤ r.foldl (fun m x => max m x.2.1) m := by
  induction r with
  | nil => exact fun {m} => ⟨Nat.le_refl _, fun x h => absurd h (by simp)⟩
  | cons y r ih =>
    intro m
    have h := ih (m := max m y.2.1)
    refine ⟨by have := h.1; simp only [List.foldl_cons]; omega, fun x hx => ?_⟩
    rcases List.mem_cons.1 hx with rfl | hx
    · have := h.1; simp only [List.foldl_cons]; omega
    · exact h.2 x hx
theorem mostF_ge {r : List (List Pl × Nat × Bool)} {x : List Pl × Nat × Bool} (h : x ∈ r) : x.2.1 ≤ mostF r := foldl_max_ge.2 x h
/-- if no die can be used, the board itself is the only play -/
theorem mgF_sq0 (own oth : List Int) : mgF (sq0 own oth) (sq0 own oth) = sq0 own oth := by simp [mgF, mgS, sq0, hasB]
theorem mgF_nil0 (own oth : List Int) : mgF [] (sq0 own oth) = sq0 own oth := by simp [mgF, mgS, sq0, hasB]
theorem resF_mem {P H : Int} {own oth : List Int} {a b : Int} {x : List Pl × Nat × Bool} (h : x ∈ resF P H own oth a b) : ∃ o, x = lng P H o (sq0 own oth) := by
  obtain ⟨o, _, e⟩ := List.mem_map.1 h
  exact ⟨o, e.symm⟩
theorem allF_zero {P H : Int} {own oth : List Int} {a b : Int} (h : mostF (resF P H own oth a b) = 0) : allF P H own oth a b = sq0 own oth := by
  have hall : ∀ x ∈ resF P H own oth a b, x.2.1 = 0 ∧ x.1 = sq0 own oth := by
    intro x hx
    have h0 : x.2.1 = 0 := by have := mostF_ge hx; omega
    obtain ⟨o, rfl⟩ := resF_mem hx
    exact ⟨h0, lng_zero h0⟩
  unfold allF mrgF
  rw [h]
  have hne : resF P H own oth a b ≠ [] := by
    unfold resF ordF
    split <;> simp
  revert hall hne
  generalize resF P H own oth a b = r
  intro hall hne
  have key : ∀ (r : List (List Pl × Nat × Bool)) (out : List Pl), (∀ x ∈ r, x.2.1 = 0 ∧ x.1 = sq0 own oth) → out = sq0 own oth → r.foldl (mgR 0) out = sq0 own oth := by
    intro r
    induction r with
    | nil => exact fun out _ h => h
    | cons y r ih =>
      intro out hr ho
      obtain ⟨e1, e2⟩ := hr y List.mem_cons_self
      refine ih _ (fun x hx => hr x (List.mem_cons_of_mem _ hx)) ?_
      unfold mgR
      rw [e1, e2, if_neg (by simp), ho, mgF_sq0]
  cases r with
  | nil => exact absurd rfl hne
  | cons y r =>
    obtain ⟨e1, e2⟩ := hall y List.mem_cons_self
    refine key r _ (fun x hx => hall x (List.mem_cons_of_mem _ hx)) ?_
    unfold mgR
    rw [e1, e2, if_neg (by simp), mgF_nil0]
/-- the rolls, in order -/
def rlB (a : Nat) : Nat → List (Int × Int)
  | 0 => []
  | j + 1 => rlB a j ++ [((a : Int), (j : Int) + 1)]
def rlA : Nat → List (Int × Int)
  | 0 => []
  | i + 1 => rlA i ++ rlB (i + 1) (i + 1)
def flR (l : List (Int × Int)) : List Int := l.flatMap fun p => [p.1, p.2]
theorem flR_app (l m : List (Int × Int)) : flR (l ++ m) = flR l ++ flR m := by simp [flR]
theorem flR_len (l : List (Int × Int)) : (flR l).length = l.length * 2 := by
  induction l with
  | nil => rfl
  | cons p l ih => have : flR (p :: l) = p.1 :: p.2 :: flR l := by simp [flR]
                   rw [this, List.length_cons, List.length_cons, List.length_cons, ih]; omega
theorem flR_at {l : List (Int × Int)} : ∀ {k : Nat}, k < l.length → (flR l).getD (k * 2) 0 = (l.getD k (0, 0)).1 ∧ (flR l).getD (k * 2 + 1) 0 = (l.getD k (0, 0)).2 := by
  induction l with
  | nil => intro k hk; exact absurd hk (by simp)
  | cons p l ih =>
    intro k hk
    have e : flR (p :: l) = p.1 :: p.2 :: flR l := by simp [flR]
    rw [e]
    cases k with
    | zero => exact ⟨rfl, rfl⟩
    | succ k =>
      have := ih (k := k) (by simpa using hk)
      rw [show (k + 1) * 2 = k * 2 + 1 + 1 from by omega, show k * 2 + 1 + 1 + 1 = (k * 2 + 1) + 1 + 1 from rfl]
      simpa using this
theorem rlB_len (a : Nat) : ∀ j, (rlB a j).length = j
  | 0 => rfl
  | j + 1 => by rw [rlB, List.length_append, rlB_len a j]; rfl
theorem rlB_mem {a : Nat} {p : Int × Int} : ∀ {j : Nat}, p ∈ rlB a j → p.1 = a ∧ 1 ≤ p.2 ∧ p.2 ≤ j
  | 0, h => absurd h (by simp [rlB])
  | j + 1, h => by
    rcases List.mem_append.1 h with h | h
    · have := rlB_mem h
      exact ⟨this.1, this.2.1, by omega⟩
    · obtain rfl := List.mem_singleton.1 h
      exact ⟨rfl, by show 1 ≤ (j : Int) + 1; omega, by show (j : Int) + 1 ≤ _; omega⟩
theorem rlA_mem {p : Int × Int} : ∀ {i : Nat}, p ∈ rlA i → 1 ≤ p.2 ∧ p.2 ≤ p.1 ∧ p.1 ≤ i
  | 0, h => absurd h (by simp [rlA])
  | i + 1, h => by
    rcases List.mem_append.1 h with h | h
    · have := rlA_mem h
      exact ⟨this.1, this.2.1, by omega⟩
    · have := rlB_mem h
      exact ⟨this.2.1, by omega, by omega⟩
theorem rlA_len6 {s : Nat} (h : s ≤ 6) : (rlA s).length ≤ 21 := by
  have : ∀ s : Fin 7, (rlA s.val).length ≤ 21 := by decide +kernel
  exact this ⟨s, by omega⟩
def wtF (p : Int × Int) : Int := if p.1 = p.2 then 1 else 2
theorem wtF_bd (p : Int × Int) : 1 ≤ wtF p ∧ wtF p ≤ 2 := by unfold wtF; split <;> omega
def hitF (P H : Int) (own oth : List Int) (p : Int × Int) : Bool := hitP (allF P H own oth p.1 p.2)
def dncF (P H : Int) (own oth : List Int) (p : Int × Int) : Bool := (lgF P H own oth p.1).isEmpty && (lgF P H own oth p.2).isEmpty
/-- the weight of the rolls below k that answer g -/
def wtK (g : Int × Int → Bool) (l : List (Int × Int)) : Nat → Int
  | 0 => 0
  | k + 1 => if g (l.getD k (0, 0)) then wtK g l k + wtF (l.getD k (0, 0)) else wtK g l k
def okK (P H : Int) (own oth : List Int) (l : List (Int × Int)) : Nat → Bool
  | 0 => true
  | k + 1 => okK P H own oth l k && fitsF (resF P H own oth (l.getD k (0, 0)).1 (l.getD k (0, 0)).2)
theorem okK_no {P H : Int} {own oth : List Int} {l : List (Int × Int)} {k : Nat} (h : fitsF (resF P H own oth (l.getD k (0, 0)).1 (l.getD k (0, 0)).2) = false) : ∀ n, k < n → okK P H own oth l n = false
  | 0, h0 => absurd h0 (by omega)
  | n + 1, h0 => by
    by_cases e : k = n
    · subst e; rw [okK, h]; simp
    · rw [okK, okK_no h n (by omega)]; rfl
theorem wtK_bd (g : Int × Int → Bool) (l : List (Int × Int)) : ∀ k : Nat, 0 ≤ wtK g l k ∧ wtK g l k ≤ 2 * k
  | 0 => by simp [wtK]
  | k + 1 => by
    have := wtK_bd g l k
    have := wtF_bd (l.getD k (0, 0))
    unfold wtK
    split <;> omega
theorem wtK_two {g h : Int × Int → Bool} {l : List (Int × Int)} (hx : ∀ p, g p = true → h p = true → False) : ∀ k, wtK g l k + wtK h l k ≤ wtK (fun _ => true) l k
  | 0 => by simp [wtK]
  | k + 1 => by
    have ih := wtK_two (l := l) hx k
    have := wtF_bd (l.getD k (0, 0))
    have hp := hx (l.getD k (0, 0))
    unfold wtK
    cases h1 : g (l.getD k (0, 0)) <;> cases h2 : h (l.getD k (0, 0)) <;> simp only [if_true, if_false, Bool.false_eq_true]
    · omega
    · omega
    · omega
    · exact absurd (hp h1 h2) id
theorem wtK_all {s : Nat} (h : s ≤ 6) : wtK (fun _ => true) (rlA s) (rlA s).length = (s : Int) * s := by
  have : ∀ s : Fin 7, wtK (fun _ => true) (rlA s.val) (rlA s.val).length = (s.val : Int) * s.val := by decide +kernel
  exact this ⟨s, by omega⟩
theorem wtK_zero {g : Int × Int → Bool} {l : List (Int × Int)} (h : ∀ p, g p = false) : ∀ k, wtK g l k = 0
  | 0 => rfl
  | k + 1 => by unfold wtK; rw [h, if_neg (by simp)]; exact wtK_zero h k
/-- a roll that dances has no hit -/
theorem lng_none {P H d : Int} {ds : List Int} {own oth : List Int} (h : (lgF P H own oth d).isEmpty = true) : lng P H (d :: ds) (sq0 own oth) = (sq0 own oth, 0, true) := by
  have e : nxL P H d (sq0 own oth) = [] := by
    show nxP P H d [] ⟨[], own, oth⟩ = []
    unfold nxP
    show (lgF P H own oth d).foldl _ [] = []
    rw [List.isEmpty_iff.1 h]; rfl
  unfold lng
  rw [e]; rfl
theorem dance_no_hit {P H : Int} {own oth : List Int} (p : Int × Int) (h1 : hitF P H own oth p = true) (h2 : dncF P H own oth p = true) : False := by
  unfold dncF at h2
  obtain ⟨ha, hb⟩ := Bool.and_eq_true_iff.1 h2
  have h0 : mostF (resF P H own oth p.1 p.2) = 0 := by
    unfold resF ordF
    split
    · simp [mostF, lng_none ha]
    · simp [mostF, lng_none ha, lng_none hb]
  unfold hitF at h1
  rw [allF_zero h0] at h1
  simp [hitP, sq0] at h1
/-- no contact: each checker of the one side has passed each of the other -/
def noC (P : Int) (own oth : List Int) : Prop := ∀ i j : Nat, 0 < own.getD i 0 → 0 < oth.getD j 0 → (i : Int) + j < P
def noH (P c : Int) (p : Pl) : Prop := noC P p.own p.oth ∧ (∀ s ∈ p.st, s.hit = false) ∧ SV P c p.own
theorem noC_step {P H c die : Int} {own oth : List Int} {s : St} (hP : 1 ≤ P) (hd : 1 ≤ die) (ho : SV P c own) (h : noC P own oth) (hs : s ∈ lgF P H own oth die) : s.hit = false ∧ noC P (ownA own s) (othA P oth s) := by
  have hk := lgF_ok hP hd ho hs
  have hl := ho.len
  have a := hk.f0; have b := hk.f1; have one := hk.one; have d := hk.t1
  have hto : s.to < s.fr := by
    unfold lgF at hs
    split at hs
    · exact absurd hs (by simp)
    · obtain ⟨j, hj, e⟩ := lgU_mem hs
      obtain ⟨e1, e2, e3, e4⟩ := stF_ok e
      rcases e4 with ⟨t, _⟩ | ⟨t, _⟩ <;> omega
  have hh : s.hit = false := by
    cases hx : s.hit
    · rfl
    · obtain ⟨t0, t1⟩ := hk.hit hx
      have := h s.fr.toNat (P - 1 - s.to).toNat (by omega) (by omega)
      omega
  refine ⟨hh, fun i j hi hj => ?_⟩
  have hj' : 0 < oth.getD j 0 := by
    unfold othA at hj
    rw [hh, if_neg (by simp)] at hj
    exact hj
  unfold ownA at hi
  dsimp only at hi
  have h1 : ∀ i : Nat, 0 < (own.set s.fr.toNat (own.getD s.fr.toNat 0 - 1)).getD i 0 → 0 < own.getD i 0 := by
    intro i hx
    rw [getD_set _ (by omega)] at hx
    split at hx
    · rename_i e; subst e; omega
    · exact hx
  split at hi
  · rename_i t0
    rw [getD_set _ (by rw [List.length_set]; omega)] at hi
    split at hi
    · rename_i e
      have := h s.fr.toNat j (by omega) hj'
      omega
    · exact h i j (h1 i hi) hj'
  · exact h i j (h1 i hi) hj'
theorem nxL_noH {P H c die : Int} {l : List Pl} (hP : 1 ≤ P) (hd : 1 ≤ die) (hl : ∀ p ∈ l, noH P c p) : ∀ p ∈ nxL P H die l, noH P c p := by
  refine foldl_inv (nxP P H die) (fun out => ∀ p ∈ out, noH P c p) _ _ (fun b p hp hb => ?_) (fun _ h => absurd h (by simp))
  refine foldl_inv (nxS P p) (fun out => ∀ p ∈ out, noH P c p) _ _ (fun b s hs hb => ?_) hb
  obtain ⟨n1, n2, n3⟩ := hl p hp
  obtain ⟨q1, q2⟩ := noC_step hP hd n3 n1 hs
  unfold nxS
  split
  · exact hb
  · intro q hq
    rcases List.mem_append.1 hq with h | h
    · exact hb q h
    · obtain rfl := List.mem_singleton.1 h
      refine ⟨q2, fun t ht => ?_, ownA_sv hP n3 (lgF_ok hP hd n3 hs)⟩
      rcases List.mem_append.1 ht with h | h
      · exact n2 t h
      · obtain rfl := List.mem_singleton.1 h
        exact q1
theorem lng_noH {P H c : Int} (hP : 1 ≤ P) : ∀ {ds : List Int} {l : List Pl}, (∀ d ∈ ds, 1 ≤ d) → (∀ p ∈ l, noH P c p) → ∀ p ∈ (lng P H ds l).1, noH P c p
  | [], l, _, h => h
  | d :: ds, l, hd, h => by
    unfold lng
    split
    · exact h
    · exact lng_noH hP (fun e he => hd e (List.mem_cons_of_mem _ he)) (nxL_noH hP (hd d List.mem_cons_self) h)
theorem mgF_sub {l : List Pl} : ∀ {out : List Pl} {p : Pl}, p ∈ mgF out l → p ∈ out ∨ p ∈ l := by
  induction l with
  | nil => intro out p h; exact .inl h
  | cons q l ih =>
    intro out p h
    rcases ih (out := mgS out q) h with h | h
    · unfold mgS at h
      split at h
      · exact .inl h
      · rcases List.mem_append.1 h with h | h
        · exact .inl h
        · exact .inr (by rw [List.mem_singleton.1 h]; exact List.mem_cons_self)
    · exact .inr (List.mem_cons_of_mem _ h)
theorem mrgF_sub {n : Nat} {I : Pl → Prop} {r : List (List Pl × Nat × Bool)} (h : ∀ x ∈ r, ∀ p ∈ x.1, I p) : ∀ p ∈ mrgF n r, I p := by
  refine foldl_inv (mgR n) (fun out => ∀ p ∈ out, I p) _ _ (fun b x hx hb => ?_) (fun _ h => absurd h (by simp))
  unfold mgR
  split
  · exact hb
  · intro p hp
    rcases mgF_sub hp with h' | h'
    · exact hb p h'
    · exact h x hx p h'
theorem hit_none {P H c a b : Int} {own oth : List Int} (hP : 1 ≤ P) (ha : 1 ≤ a) (hb : 1 ≤ b) (ho : SV P c own) (h : noC P own oth) : hitF P H own oth (a, b) = false := by
  have h0 : ∀ p ∈ sq0 own oth, noH P c p := fun p hp => by
    obtain rfl := List.mem_singleton.1 hp
    exact ⟨h, fun s hs => absurd hs (by simp), ho⟩
  have key : ∀ p ∈ allF P H own oth a b, noH P c p := by
    refine mrgF_sub fun x hx => ?_
    obtain ⟨o, ho', rfl⟩ := List.mem_map.1 hx
    refine lng_noH hP (fun d hd => ?_) h0
    unfold ordF at ho'
    split at ho' <;> simp at ho'
    · subst ho'; simp at hd; omega
    · rcases ho' with rfl | rfl <;> simp at hd <;> omega
  unfold hitF hitP
  rw [List.any_eq_false]
  intro p hp
  rw [Bool.not_eq_true, List.any_eq_false]
  intro s hs
  rw [(key p hp).2.1 s hs]; simp
/-- a board that is over has no step -/
theorem lgF_over {P H die : Int} {own oth : List Int} (h : ovB own oth = true) : lgF P H own oth die = [] := by unfold lgF; rw [h]; rfl
theorem hit_over {P H a b : Int} {own oth : List Int} (h : ovB own oth = true) : hitF P H own oth (a, b) = false := by
  cases hx : hitF P H own oth (a, b)
  · rfl
  · exact (dance_no_hit (a, b) hx (by unfold dncF; rw [lgF_over h, lgF_over h]; rfl)).elim
end Go.Proofs.Ytjfmpnkbocilpaa
