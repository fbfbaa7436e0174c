/-
  used and allPlays of the program: the plays of a roll.
-/
import Derived.Test.YtjfmpnkbocilpaaHwZ
namespace Go.Proofs.Ytjfmpnkbocilpaa
open Go.ChangeShapes Go.WideShapes Go.ChangeAt Go.RowKit
set_option linter.unusedVariables false

theorem lng_pl {P H c : Int} (hP : 1 ≤ P) : ∀ {ds : List Int} {l : List Pl} {k : Nat}, (∀ d ∈ ds, 1 ≤ d) → PlsOk P c k l → ∀ p ∈ (lng P H ds l).1, SV P c p.own ∧ SV P c p.oth ∧ p.st.length ≤ k + ds.length
  | [], l, k, _, h => fun p hp => ⟨(h p hp).1, (h p hp).2.1, by rw [(h p hp).2.2]; exact Nat.le_refl _⟩
  | d :: ds, l, k, hd, h => by
    unfold lng
    split
    · exact fun p hp => ⟨(h p hp).1, (h p hp).2.1, by rw [(h p hp).2.2]; exact Nat.le_add_right _ _⟩
    · intro p hp
      obtain ⟨a, b, e⟩ := lng_pl hP (fun e he => hd e (List.mem_cons_of_mem _ he)) (nxL_ok hP (hd d List.mem_cons_self) h) p hp
      exact ⟨a, b, by rw [List.length_cons]; omega⟩
theorem lng_len {P H : Int} : ∀ {ds : List Int} {l : List Pl}, l ≠ [] → (lng P H ds l).1.length ≤ l.length * (P.toNat + 1) ^ ds.length
  | [], l, _ => by simp [lng]
  | d :: ds, l, h0 => by
    unfold lng
    split
    · exact Nat.le_mul_of_pos_right _ (Nat.pow_pos (by omega))
    · rename_i hx
      have h1 := lng_len (P := P) (H := H) (ds := ds) (l := nxL P H d l) (fun e => hx (by rw [e]; rfl))
      have h2 := nxL_len P H d l
      refine Nat.le_trans h1 ?_
      rw [List.length_cons, Nat.pow_succ]
      calc (nxL P H d l).length * (P.toNat + 1) ^ ds.length ≤ (l.length * (P.toNat + 1)) * (P.toNat + 1) ^ ds.length := Nat.mul_le_mul_right _ h2
        _ = l.length * ((P.toNat + 1) ^ ds.length * (P.toNat + 1)) := by rw [Nat.mul_assoc, Nat.mul_comm ((P.toNat + 1) ^ ds.length)]
/-- what is known of the results of the orders -/
structure RsOk (P c : Int) (x : Rs) : Prop where
  sv : ∀ p ∈ x.1, SV P c p.own ∧ SV P c p.oth ∧ p.st.length ≤ 4
  len : x.1.length ≤ 390625
  ne : x.1 ≠ []
  cnt : x.2.1 ≤ 4
theorem resF_ok {P : Nat} {H c A B : Int} {xs ys : List Int} (hP0 : 1 ≤ P) (hP : P ≤ 24) (hx : SV P c xs) (hy : SV P c ys) (hA1 : 1 ≤ A) (hB1 : 1 ≤ B) : ∀ x ∈ resF P H xs ys A B, RsOk P c x := by
  intro x hxr
  obtain ⟨o, ho, rfl⟩ := List.mem_map.1 hxr
  have hd : ∀ d ∈ o, 1 ≤ d ∧ o.length ≤ 4 := by
    intro d hd
    unfold ordF at ho
    split at ho <;> simp at ho
    · subst ho; simp at hd; subst hd; exact ⟨hA1, by simp⟩
    · rcases ho with rfl | rfl <;> simp at hd <;> rcases hd with rfl | rfl <;> exact ⟨by omega, by simp⟩
  have ol : o.length ≤ 4 := by
    unfold ordF at ho
    split at ho <;> simp at ho
    · subst ho; simp
    · rcases ho with rfl | rfl <;> simp
  have hs : sq0 xs ys ≠ [] := by simp [sq0]
  refine ⟨fun p hp => ?_, ?_, lng_some hs, Nat.le_trans lng_le ol⟩
  · obtain ⟨a, b, e⟩ := lng_pl (P := (P : Int)) (H := H) (by omega) (fun d h => (hd d h).1) (sq0_ok hx hy) p hp
    exact ⟨a, b, by omega⟩
  · have h := lng_len (P := (P : Int)) (H := H) (ds := o) hs
    refine Nat.le_trans h ?_
    show 1 * _ ≤ _
    rw [Nat.one_mul, Int.toNat_natCast]
    exact Nat.le_trans (Nat.pow_le_pow_left (by omega : P + 1 ≤ 25) _) (pow25' ol)
theorem mgR_skip {n : Nat} {out : List Pl} {x : Rs} (h : x.2.1 ≠ n) : mgR n out x = out := by unfold mgR; rw [if_pos (.inl h)]
theorem mgR_take {n : Nat} {out : List Pl} {x : Rs} (h : x.2.1 = n) (h1 : n = 1 → out = []) : mgR n out x = mgF out x.1 := by
  unfold mgR
  rw [if_neg (fun q => q.elim (fun e => e h) (fun e => e.2 (h1 e.1)))]
theorem mrg_rest {n : Nat} (hn : n = 1) : ∀ {r : List Rs} {out : List Pl}, out ≠ [] → r.foldl (mgR n) out = out
  | [], _, _ => rfl
  | x :: r, out, h => by
    rw [List.foldl_cons]
    have : mgR n out x = out := by unfold mgR; rw [if_pos (.inr ⟨hn, h⟩)]
    rw [this]; exact mrg_rest hn h
theorem mrg_break {n i : Nat} (hn : n = 1) {r : List Rs} {out : List Pl} (hi : (r.take (i + 1)).foldl (mgR n) [] = out) (h : out ≠ []) : mrgF n r = out := by
  unfold mrgF
  rw [← List.take_append_drop (i + 1) r, List.foldl_append, hi]
  exact mrg_rest hn h
theorem mrg_take {n k : Nat} {r : List Rs} (hk : k < r.length) : (r.take (k + 1)).foldl (mgR n) [] = mgR n ((r.take k).foldl (mgR n) []) (r.getD k rs0) := by rw [take_snocR hk, List.foldl_append]; rfl
theorem mgF_take {l : List Pl} {out : List Pl} {k : Nat} (hk : k < l.length) : mgF out (l.take (k + 1)) = mgS (mgF out (l.take k)) (l.getD k pl0) := by unfold mgF; rw [take_snocP hk, List.foldl_append]; rfl
theorem mgS_len (out : List Pl) (p : Pl) : (mgS out p).length ≤ out.length + 1 := by unfold mgS; split <;> simp
theorem mgF_len (out l : List Pl) : (mgF out l).length ≤ out.length + l.length := by have := foldl_len mgS 1 mgS_len l out; unfold mgF; omega
theorem mgS_yes {out : List Pl} {p : Pl} (h : hasB out p.own p.oth = true) : mgS out p = out := by unfold mgS; rw [h]; rfl
theorem mgS_no {out : List Pl} {p : Pl} (h : hasB out p.own p.oth = false) : mgS out p = out ++ [p] := by unfold mgS; rw [h]; rfl
theorem rs_mem {r : List Rs} {k : Nat} (hk : k < r.length) : r.getD k rs0 ∈ r := by
  rw [List.getD_eq_getElem?_getD, List.getElem?_eq_getElem hk]; exact List.getElem_mem hk
def ApPost (P N : Nat) (H : Int) (xs ys : List Int) (A B : Int) (w : World) (e : Ending) (w' : World) : Prop :=
  ∃ v, e = .returned (.tuple #[v, .bool (fitsF (resF P H xs ys A B))]) ∧ (fitsF (resF P H xs ys A B) = true → PlsO w' w.heap.size N v (allF P H xs ys A B)) ∧ Below w.heap.size w w'
theorem PlsO.one {w : World} {base N gA gB cA cB lo : Nat} {sa : Option Addr} {sc : Nat} {xs ys : List Int} (h : Bd2 w lo gA gB N N xs ys) (h1 : xs.length = N) (h2 : ys.length = N) (ha : gA < w.heap.size) (hb : gB < w.heap.size) (hbase : base ≤ w.heap.size) :
    PlsO (w.alloc (.cells #[.slice sa 0 sc, .slice (some ⟨gA, 0, none⟩) N cA, .slice (some ⟨gB, 0, none⟩) N cB] 70)) base N (.slice (some ⟨w.heap.size, 0, none⟩) 1 1) (sq0 xs ys) := by
  refine ⟨[⟨sa, 0, sc, some ⟨gA, 0, none⟩, cA, some ⟨gB, 0, none⟩, cB⟩], rfl, World.ownsRow_lit w _ 1 hbase (by unfold maxLen; omega) rfl, fun i hi => ?_⟩
  obtain rfl : i = 0 := by simp [sq0] at hi; omega
  exact PvOk.start (h.al _) h1 h2 (by simp; omega) (by simp; omega)
set_option maxHeartbeats 1600000 in
theorem used_any (N B : Nat) (v : Value) (r : List Rs) (w : World) (h : AlR w B N v r) (hr2 : r.length ≤ 2) (hk : ∀ x ∈ r, x.2.1 ≤ 4) :
    Calls Try.prog 44 #[v] w fun e w' => e = .returned (.int .i64 (mostF r : Nat)) ∧ w = w' := by
  obtain ⟨g, cap, rfl, hg, hgz, hc⟩ := h
  obtain ⟨m, hm⟩ : ∃ m, r.length = m := ⟨_, rfl⟩
  rw [hm] at hc hr2 ⊢
  have HC := Lib.hid hc
  have HK := Lib.hid hk
  have HM := Lib.hid hm
  clear hc hk hm
  go_enter Try.func44, Try.ntmps44
  go_wp2_with fail
  go_loop [3, 8] (fun mv ix => ∃ (i M : Nat), i ≤ m ∧ ix = .int .i64 i ∧ mv = .int .i64 M ∧ Hid (mostF (r.take i) = M)) (fun _ ix => m - (intOf ix).toNat)
  case atStart => exact ⟨0, 0, Nat.zero_le _, rfl, rfl, Lib.hid rfl⟩
  case round =>
    obtain ⟨i, M, hi, rfl, rfl, HMF⟩ := hrel
    by_cases hlt : i < m
    · obtain ⟨u, c0, hs⟩ := HC.out i hlt
      obtain ⟨gR, cR, lA, lc, hu, _, _, _, _⟩ := hs.at
      subst hu
      have hxk := HK.out _ (rs_mem (k := i) (by have := HM.out; omega))
      have HT := Lib.hid (mostF_take (r := r) (k := i) (by have := HM.out; omega))
      obtain ⟨x, hx⟩ : ∃ x, r.getD i rs0 = x := ⟨_, rfl⟩
      rw [hx] at hxk HT c0
      clear hs hx
      obtain ⟨K, hK⟩ : ∃ K, x.2.1 = K := ⟨_, rfl⟩
      rw [hK] at hxk HT c0
      obtain ⟨nR, hnR⟩ : ∃ nR, K + 1 = nR := ⟨_, rfl⟩
      rw [hnR] at c0
      have wn : IntKind.i64.wrap ((nR : Int) - 1) = (K : Int) := by rw [IntWalk.i64_in _ (by omega)]; omega
      have hmx : max (M : Int) (K : Int) = ((max M K : Nat) : Int) := by omega
      have HT2 := Lib.hid (show mostF (r.take (i + 1)) = max M K by rw [HT.out, HMF.out])
      clear hK hnR
      go_wp2_with fail
      go_round
      case rel => exact ⟨i + 1, max M K, by omega, by go_num, by first | rfl | rw [hmx], HT2⟩
      case measure => (simp [intOf]; try omega)
    · obtain rfl : i = m := by omega
      have HF := Lib.hid (show mostF r = M by have := HMF.out; rwa [List.take_of_length_le (by have := HM.out; omega)] at this)
      go_wp2_with fail
      go_ret
      exact ⟨by rw [HF.out]; rfl, rfl⟩
end Go.Proofs.Ytjfmpnkbocilpaa
