/-
  The orders of a roll, all rolls and their weights, in both packages.
-/
import Derived.Test.YtjfmpnkbocilpaaHwG
namespace Go.Proofs.Ytjfmpnkbocilpaa
open Go.ChangeShapes Go.WideShapes Go.ChangeAt Go.RowKit
set_option linter.unusedVariables false

/-- a list of lists of dice that can be read -/
def OrdR (w : World) (B : Nat) (a : Option Addr) (n : Nat) (os : List (List Int)) : Prop :=
  os.length = n ∧ ∃ g, a = some ⟨g, 0, none⟩ ∧ g < B ∧ g < w.heap.size ∧ ∀ i, i < n → ∃ (ai : Option Addr) (ci : Nat), w.cell? ⟨g, i, none⟩ = some (.slice ai (os.getD i []).length ci) ∧ Ints w B .i64 ai (os.getD i []).length (os.getD i [])
theorem OrdR.bel {w w' : World} {B B' n : Nat} {a : Option Addr} {os : List (List Int)} (h : OrdR w B a n os) (hb : Below B' w w') (hB : B ≤ B') : OrdR w' B a n os := by
  obtain ⟨h1, g, e, hg, hz, hc⟩ := h
  refine ⟨h1, g, e, hg, Nat.lt_of_lt_of_le hz hb.size, fun i hi => ?_⟩
  obtain ⟨ai, ci, h2, h3⟩ := hc i hi
  exact ⟨ai, ci, (hb.cell (p := ⟨g, i, none⟩) (by show g < B'; omega)).trans h2, h3.below (hb.mono hB)⟩
theorem OrdR.more {w : World} {B B' n : Nat} {a : Option Addr} {os : List (List Int)} (h : OrdR w B a n os) (hB : B ≤ B') : OrdR w B' a n os := by
  obtain ⟨h1, g, e, hg, hz, hc⟩ := h
  refine ⟨h1, g, e, by omega, hz, fun i hi => ?_⟩
  obtain ⟨ai, ci, h2, h3⟩ := hc i hi
  exact ⟨ai, ci, h2, h3.more hB⟩
theorem ordF_len (a b : Int) : (ordF a b).length = 1 ∨ (ordF a b).length = 2 := by unfold ordF; split <;> simp
theorem ordF_mem {a b : Int} {o : List Int} (h : o ∈ ordF a b) : (o.length = 2 ∨ o.length = 4) ∧ ∀ d ∈ o, d = a ∨ d = b := by
  unfold ordF at h
  split at h <;> simp at h
  · subst h; refine ⟨.inr rfl, fun d hd => ?_⟩; simp at hd; exact .inl hd
  · rcases h with rfl | rfl
    · refine ⟨.inl rfl, fun d hd => ?_⟩; simp at hd; exact hd
    · refine ⟨.inl rfl, fun d hd => ?_⟩; simp at hd; exact hd.symm
theorem ordF_eq {a b : Int} (h : a = b) : ordF a b = [[a, a, a, a]] := if_pos h
theorem ordF_ne {a b : Int} (h : a ≠ b) : ordF a b = [[a, b], [b, a]] := if_neg h
def OrPost (os : List (List Int)) (w : World) (e : Ending) (w' : World) : Prop := ∃ a c, e = .returned (.slice a os.length c) ∧ OrdR w' w'.heap.size a os.length os ∧ Below w.heap.size w w'

set_option maxHeartbeats 1600000 in
theorem ordersOf_any (a b : Int) (w : World) : Calls Try.prog 59 #[.agg #[.int .i64 a, .int .i64 b]] w fun e w' => OrPost (ordF a b) w e w' := by
  by_cases hab : a = b
  · have HO := Lib.hid (ordF_eq hab)
    have hq : (a == b) = true := by simpa using hab
    subst hab
    go_enter Try.func59, Try.ntmps59
    go_wp2_with fail
    go_ret
    rw [HO.out]
    have c0 := fun (k : Nat) => new_cell (w.alloc (.cells #[.int .i64 a, .int .i64 a] 49)) #[.int .i64 a, .int .i64 a, .int .i64 a, .int .i64 a] 2 k
    have d0 := fun (k : Nat) (v : Value) => new_cell ((w.alloc (.cells #[.int .i64 a, .int .i64 a] 49)).alloc (.cells #[.int .i64 a, .int .i64 a, .int .i64 a, .int .i64 a] 2)) #[v] 24 k
    simp only [World.size_alloc] at c0 d0
    refine ⟨some ⟨w.heap.size + 1 + 1, 0, none⟩, 1, rfl, ⟨rfl, _, rfl, by simp, by simp, fun i hi => ?_⟩, ?_⟩
    · obtain rfl : i = 0 := by simp at hi; omega
      refine ⟨some ⟨w.heap.size + 1, 0, none⟩, 4, d0 0 _, rfl, fun _ => ⟨_, 0, rfl, by simp, fun j hj => ?_⟩⟩
      refine (((Below.refl _ _).alloc (Nat.le_refl _) _).cell (p := ⟨w.heap.size + 1, 0 + j, none⟩) (by simp)).trans ((c0 (0 + j)).trans ?_)
      match j, hj with
      | 0, _ => rfl
      | 1, _ => rfl
      | 2, _ => rfl
      | 3, _ => rfl
    · exact (((Below.refl _ _).alloc (Nat.le_refl _) _).alloc (by simp) _).alloc (by simp; omega) _
  · have HO := Lib.hid (ordF_ne hab)
    have hq : (a == b) = false := by simpa using hab
    go_enter Try.func59, Try.ntmps59
    go_wp2_with fail
    go_ret
    rw [HO.out]
    have c0 := fun (k : Nat) => new_cell (w.alloc (.cells #[.int .i64 a, .int .i64 b] 49)) #[.int .i64 a, .int .i64 b] 2 k
    have c1 := fun (k : Nat) => new_cell ((w.alloc (.cells #[.int .i64 a, .int .i64 b] 49)).alloc (.cells #[.int .i64 a, .int .i64 b] 2)) #[.int .i64 b, .int .i64 a] 2 k
    have d0 := fun (k : Nat) (u v : Value) => new_cell (((w.alloc (.cells #[.int .i64 a, .int .i64 b] 49)).alloc (.cells #[.int .i64 a, .int .i64 b] 2)).alloc (.cells #[.int .i64 b, .int .i64 a] 2)) #[u, v] 24 k
    simp only [World.size_alloc] at c0 c1 d0
    refine ⟨some ⟨w.heap.size + 1 + 1 + 1, 0, none⟩, 2, rfl, ⟨rfl, _, rfl, by simp, by simp, fun i hi => ?_⟩, ?_⟩
    · match i, hi with
      | 0, _ =>
        refine ⟨some ⟨w.heap.size + 1, 0, none⟩, 2, d0 0 _ _, rfl, fun _ => ⟨_, 0, rfl, by first | (simp; done) | (simp; omega), fun j hj => ?_⟩⟩
        refine (((Below.refl _ _).alloc (by simp) _).alloc (by first | (simp; done) | (simp; omega)) _).cell (B := w.heap.size + 1 + 1) (p := ⟨w.heap.size + 1, 0 + j, none⟩) (by show w.heap.size + 1 < _; omega) |>.trans ((c0 (0 + j)).trans ?_)
        match j, hj with
        | 0, _ => rfl
        | 1, _ => rfl
      | 1, _ =>
        refine ⟨some ⟨w.heap.size + 1 + 1, 0, none⟩, 2, d0 1 _ _, rfl, fun _ => ⟨_, 0, rfl, by simp, fun j hj => ?_⟩⟩
        refine (((Below.refl _ _).alloc (Nat.le_refl _) _).cell (p := ⟨w.heap.size + 1 + 1, 0 + j, none⟩) (by simp)).trans ((c1 (0 + j)).trans ?_)
        match j, hj with
        | 0, _ => rfl
        | 1, _ => rfl
    · exact ((((Below.refl _ _).alloc (Nat.le_refl _) _).alloc (by simp) _).alloc (by simp; omega) _).alloc (by simp; omega) _

set_option maxHeartbeats 1600000 in
theorem l05Orders_any (a b : Int) (w : World) : Calls Try.prog 38 #[.agg #[.int .i64 a, .int .i64 b]] w fun e w' => OrPost (ordF a b) w e w' := by
  by_cases hab : a = b
  · have HO := Lib.hid (ordF_eq hab)
    have hq : (a == b) = true := by simpa using hab
    subst hab
    go_enter Try.func38, Try.ntmps38
    go_wp2_with fail
    go_ret
    rw [HO.out]
    have c0 := fun (k : Nat) => new_cell (w.alloc (.cells #[.int .i64 a, .int .i64 a] 49)) #[.int .i64 a, .int .i64 a, .int .i64 a, .int .i64 a] 2 k
    have d0 := fun (k : Nat) (v : Value) => new_cell ((w.alloc (.cells #[.int .i64 a, .int .i64 a] 49)).alloc (.cells #[.int .i64 a, .int .i64 a, .int .i64 a, .int .i64 a] 2)) #[v] 24 k
    simp only [World.size_alloc] at c0 d0
    refine ⟨some ⟨w.heap.size + 1 + 1, 0, none⟩, 1, rfl, ⟨rfl, _, rfl, by simp, by simp, fun i hi => ?_⟩, ?_⟩
    · obtain rfl : i = 0 := by simp at hi; omega
      refine ⟨some ⟨w.heap.size + 1, 0, none⟩, 4, d0 0 _, rfl, fun _ => ⟨_, 0, rfl, by simp, fun j hj => ?_⟩⟩
      refine (((Below.refl _ _).alloc (Nat.le_refl _) _).cell (p := ⟨w.heap.size + 1, 0 + j, none⟩) (by simp)).trans ((c0 (0 + j)).trans ?_)
      match j, hj with
      | 0, _ => rfl
      | 1, _ => rfl
      | 2, _ => rfl
      | 3, _ => rfl
    · exact (((Below.refl _ _).alloc (Nat.le_refl _) _).alloc (by simp) _).alloc (by simp; omega) _
  · have HO := Lib.hid (ordF_ne hab)
    have hq : (a == b) = false := by simpa using hab
    go_enter Try.func38, Try.ntmps38
    go_wp2_with fail
    go_ret
    rw [HO.out]
    have c0 := fun (k : Nat) => new_cell (w.alloc (.cells #[.int .i64 a, .int .i64 b] 49)) #[.int .i64 a, .int .i64 b] 2 k
    have c1 := fun (k : Nat) => new_cell ((w.alloc (.cells #[.int .i64 a, .int .i64 b] 49)).alloc (.cells #[.int .i64 a, .int .i64 b] 2)) #[.int .i64 b, .int .i64 a] 2 k
    have d0 := fun (k : Nat) (u v : Value) => new_cell (((w.alloc (.cells #[.int .i64 a, .int .i64 b] 49)).alloc (.cells #[.int .i64 a, .int .i64 b] 2)).alloc (.cells #[.int .i64 b, .int .i64 a] 2)) #[u, v] 24 k
    simp only [World.size_alloc] at c0 c1 d0
    refine ⟨some ⟨w.heap.size + 1 + 1 + 1, 0, none⟩, 2, rfl, ⟨rfl, _, rfl, by simp, by simp, fun i hi => ?_⟩, ?_⟩
    · match i, hi with
      | 0, _ =>
        refine ⟨some ⟨w.heap.size + 1, 0, none⟩, 2, d0 0 _ _, rfl, fun _ => ⟨_, 0, rfl, by first | (simp; done) | (simp; omega), fun j hj => ?_⟩⟩
        refine (((Below.refl _ _).alloc (by simp) _).alloc (by first | (simp; done) | (simp; omega)) _).cell (B := w.heap.size + 1 + 1) (p := ⟨w.heap.size + 1, 0 + j, none⟩) (by show w.heap.size + 1 < _; omega) |>.trans ((c0 (0 + j)).trans ?_)
        match j, hj with
        | 0, _ => rfl
        | 1, _ => rfl
      | 1, _ =>
        refine ⟨some ⟨w.heap.size + 1 + 1, 0, none⟩, 2, d0 1 _ _, rfl, fun _ => ⟨_, 0, rfl, by simp, fun j hj => ?_⟩⟩
        refine (((Below.refl _ _).alloc (Nat.le_refl _) _).cell (p := ⟨w.heap.size + 1 + 1, 0 + j, none⟩) (by simp)).trans ((c1 (0 + j)).trans ?_)
        match j, hj with
        | 0, _ => rfl
        | 1, _ => rfl
    · exact ((((Below.refl _ _).alloc (Nat.le_refl _) _).alloc (by simp) _).alloc (by simp; omega) _).alloc (by simp; omega) _

/-! rolls -/
def rlC (p : Int × Int) : List Value := [.int .i64 p.1, .int .i64 p.2]
theorem rlC_len (p : Int × Int) : (rlC p).length = 2 := rfl
theorem rlC_one (p : Int × Int) : ∀ u ∈ rlC p, u.oneCell' = true := by
  intro u hu
  simp [rlC] at hu
  rcases hu with rfl | rfl <;> rfl
def RlO (w : World) (base : Nat) (v : Value) (l : List (Int × Int)) : Prop := w.ownsRow base 49 2 v l.length (l.flatMap rlC)
/-- a list of rolls that can be read -/
def RlR (w : World) (hi : Nat) (a : Option Addr) (n : Nat) (l : List (Int × Int)) : Prop := n = l.length ∧ RowN w 0 hi 49 a (n * 2) (fun i => (l.flatMap rlC).getD i undef)
theorem RlO.out {w : World} {base : Nat} {v : Value} {l : List (Int × Int)} (h : RlO w base v l) : ∃ a c, v = .slice a l.length c ∧ RlR w w.heap.size a l.length l := by
  obtain ⟨a, c, e, _, hr⟩ := ow_out h
  exact ⟨a, c, e, rfl, hr.wide (Nat.zero_le _) (Nat.le_refl _)⟩
theorem RlR.bel {w w' : World} {hi B : Nat} {a : Option Addr} {n : Nat} {l : List (Int × Int)} (h : RlR w hi a n l) (hb : Below B w w') (hB : hi ≤ B) : RlR w' hi a n l := ⟨h.1, rown_bel h.2 hb hB⟩
theorem RlR.at {w : World} {hi : Nat} {a : Option Addr} {n : Nat} {l : List (Int × Int)} (h : RlR w hi a n l) {k : Nat} (hk : k < n) : ∃ g, a = some ⟨g, 0, none⟩ ∧ g < hi ∧ g < w.heap.size ∧
    w.cell? ⟨g, k * 2, none⟩ = some (.int .i64 (l.getD k (0, 0)).1) ∧ w.cell? ⟨g, k * 2 + 1, none⟩ = some (.int .i64 (l.getD k (0, 0)).2) := by
  obtain ⟨hn, hr⟩ := h
  obtain ⟨g, rfl, _, hg, hz, hc⟩ := hr.blk (by omega)
  have c : ∀ j, j < 2 → w.cell? ⟨g, k * 2 + j, none⟩ = some ((rlC (l.getD k (0, 0))).getD j undef) := fun j hj => by
    rw [(hc (k * 2 + j) (by omega)).1, flat_at rlC 2 rlC_len (0, 0) l k j (by omega) hj]
  exact ⟨g, rfl, hg, hz, c 0 (by omega), c 1 (by omega)⟩
theorem rl_mem {l : List (Int × Int)} {k : Nat} (hk : k < l.length) : l.getD k (0, 0) ∈ l := by
  rw [List.getD_eq_getElem?_getD, List.getElem?_eq_getElem hk]; exact List.getElem_mem hk
theorem rlA_succ (i : Nat) : rlA (i + 1) = rlA i ++ rlB (i + 1) (i + 1) := rfl
theorem rlB_succ (a j : Nat) : rlB a (j + 1) = rlB a j ++ [((a : Int), (j : Int) + 1)] := rfl
theorem rlA_le : ∀ {i s : Nat}, i ≤ s → s ≤ 6 → (rlA i).length ≤ 21 := fun h h6 => rlA_len6 (by omega)
theorem info_roll : (Try.prog.info? 49).map (fun i => (i.zero, i.size, i.bytes)) = some (some (.agg #[.int .i64 0, .int .i64 0]), 2, 16) := by kernel_rfl
theorem rl_news {w : World} {b : Nat} {p q : Int} (c0 : w.cell? ⟨b, 0, none⟩ = some (.int .i64 p)) (c1 : w.cell? ⟨b, 1, none⟩ = some (.int .i64 q)) : ∀ j u, (rlC (p, q))[j]? = some u → w.cell? ((⟨b, 0, none⟩ : Addr).add j) = some u := by
  intro j u hj
  match j, hj with
  | 0, hj => simp [rlC] at hj; subst hj; simpa [Addr.add] using c0
  | 1, hj => simp [rlC] at hj; subst hj; simpa [Addr.add] using c1
  | j + 2, hj => simp [rlC] at hj
theorem app_rl {ops : Array Oper} {rest : List Oper} {o : Oper} {a : Act} {Q : Exit → Act → World → Prop} {w : World} {base : Nat} {v : Value} {l : List (Int × Int)} (hgd : o.guard = none) (s x : Operand)
    (ho : o.op = .call { callee := .builtin .append, args := #[s, x], argTypes := #[43, 43] })
    (hs : a.eval s = v) (hown : RlO w base v l) (b : Nat) (hx : a.eval x = .slice (some ⟨b, 0, none⟩) 1 1) (p q : Int) (c0 : w.cell? ⟨b, 0, none⟩ = some (.int .i64 p)) (c1 : w.cell? ⟨b, 1, none⟩ = some (.int .i64 q)) (hn : l.length ≤ 1000) (hbase : base ≤ w.heap.size)
    (h : ∀ v' w', RlO w' base v' (l ++ [(p, q)]) → w.grownBy w' v.ownBlock → wpList Try.prog ops Q rest (a.put o.dst v') w') : wpList Try.prog ops Q (o :: rest) a w := by
  refine app_row hgd s x 43 49 _ 2 16 ho Try.underlying43 info_roll rfl (by omega) (by omega) hs hown ⟨b, 0, none⟩ 1 1 (rlC (p, q)) hx rfl (rl_news c0 c1) (rlC_one _) (by omega) hbase ?_
  intro v' w' hv' hg'
  refine h v' w' ?_ hg'
  unfold RlO
  rw [flat_app1, List.length_append]
  exact hv'
def RlPost (l : List (Int × Int)) (w : World) (e : Ending) (w' : World) : Prop := ∃ v, e = .returned v ∧ RlO w' w.heap.size v l ∧ Below w.heap.size w w'

set_option maxRecDepth 16000 in
set_option maxHeartbeats 1600000 in
theorem AllRolls_any (P c H : Int) (S : Nat) (w : World) (hv : vrB P c H S = true) (hS : S ≤ 6) : Calls Try.prog 24 #[vrV P c H S] w fun e w' => RlPost (rlA S) w e w' := by
  have HB0 := Lib.hid ((Below.refl w.heap.size w).alloc (Nat.le_refl _) (.cells #[.int .i64 P, .int .i64 c, .int .i64 H, .int .i64 S] 30))
  have V0 := Lib.hid (vr4_new w (.int .i64 P) (.int .i64 c) (.int .i64 H) (.int .i64 S) 30)
  have HI := Lib.hid (impl_IsVariant_any P c H S (w.alloc (.cells #[.int .i64 P, .int .i64 c, .int .i64 H, .int .i64 S] 30)))
  rw [hv] at HI
  clear hv
  obtain ⟨v0, v1, v2, v3⟩ := vr4_cells V0.out
  go_enter Try.func24, Try.ntmps24
  go_wp2_with fail
  refine HI.out.mono ?_
  rintro e w1 ⟨rfl, hb1⟩
  have V1 := Lib.hid (rowIs_below V0.out hb1 V0.out.lt)
  have B1 := Lib.hid (HB0.out.trans (hb1.mono HB0.out.size))
  have z1 := B1.out.size
  have z2 := V1.out.lt
  clear hb1 v0 v1 v2 v3
  go_wp2_with fail
  go_loopw [3, 4] (fun ov ix wr => ∃ (i : Nat) (v : Value), v = ov ∧ i ≤ S ∧ ix = .int .i64 ((i : Int) + 1) ∧ Hid (RlO wr (w.heap.size + 1) v (rlA i)) ∧ Hid (wr.rowIs w.heap.size 30 4 (vr4 (.int .i64 P) (.int .i64 c) (.int .i64 H) (.int .i64 S))) ∧ Hid (Below w.heap.size w wr) ∧ w.heap.size + 1 ≤ wr.heap.size) (fun _ ix _ => ((S : Int) + 1 - intOf ix).toNat)
  case atStart => exact ⟨0, _, rfl, Nat.zero_le _, rfl, Lib.hid (ow_nil _ _ _ _), V1, B1, by omega⟩
  case round =>
    obtain ⟨i, v, rfl, hi, rfl, HO, HV, HB, hz⟩ := hrel
    obtain ⟨v0, v1, v2, v3⟩ := vr4_cells HV.out
    have LA := rlA_len6 (s := i) (by omega)
    have wi : IntKind.i64.wrap ((i : Int) + 1 + 1) = (i : Int) + 1 + 1 := IntWalk.i64_in _ (by omega)
    by_cases hlt : i < S
    · have hle : decide ((i : Int) + 1 ≤ (S : Int)) = true := decide_eq_true (by omega)
      have hle2 : (i : Int) + 1 ≤ (S : Int) := by omega
      have HO2 := Lib.hid (show RlO wr (w.heap.size + 1) v (rlA i ++ rlB (i + 1) 0) by rw [rlB, List.append_nil]; exact HO.out)
      obtain ⟨wo, hwo⟩ : ∃ wo, wo = wr := ⟨_, rfl⟩
      subst hwo
      go_wp2_with fail
      go_loopw [3, 5] (fun ov ix wr => ∃ (j : Nat) (v : Value), v = ov ∧ j ≤ i + 1 ∧ ix = .int .i64 ((j : Int) + 1) ∧ Hid (RlO wr (w.heap.size + 1) v (rlA i ++ rlB (i + 1) j)) ∧ Hid (wr.rowIs w.heap.size 30 4 (vr4 (.int .i64 P) (.int .i64 c) (.int .i64 H) (.int .i64 S))) ∧ Hid (Below w.heap.size w wr) ∧ w.heap.size + 1 ≤ wr.heap.size) (fun _ ix _ => ((i : Int) + 2 - intOf ix).toNat)
      case atStart => exact ⟨0, v, rfl, Nat.zero_le _, rfl, HO2, HV, HB, hz⟩
      case round =>
        obtain ⟨j, v', rfl, hj, rfl, HO3, HV3, HB3, hz3⟩ := hrel
        have wj : IntKind.i64.wrap ((j : Int) + 1 + 1) = (j : Int) + 1 + 1 := IntWalk.i64_in _ (by omega)
        by_cases hlt2 : j < i + 1
        · have hj2 : (j : Int) + 1 ≤ (i : Int) + 1 := by omega
          have hj3 : decide ((j : Int) + 1 ≤ (i : Int) + 1) = true := decide_eq_true hj2
          have c0 := new_cell wr #[.int .i64 ((i : Int) + 1), .int .i64 ((j : Int) + 1)] 49
          have c0' := c0 0
          have c1' := c0 1
          clear c0
          have LB : (rlA i ++ rlB (i + 1) j).length ≤ 1000 := by rw [List.length_append, rlB_len]; omega
          go_wp2_with (first | (at_builtin; refine app_rl rfl (.tmp 20) (.tmp 24) rfl rfl (ow_alloc HO3.out _) wr.heap.size rfl ((i : Int) + 1) ((j : Int) + 1) c0' c1' LB (by simp; omega) ?_; intro v5 w5 hg5 hr5))
          have R5 := fun b e => (ow_in HO3.out b e).1
          have hb5 : Below (w.heap.size + 1) (wr.alloc (.cells #[.int .i64 ((i : Int) + 1), .int .i64 ((j : Int) + 1)] 49)) w5 := grown_below' (Below.refl _ _) hr5 R5 (by simp; omega)
          have z5 := hb5.size
          simp only [World.size_alloc] at z5
          go_roundw
          case rel => exact ⟨j + 1, _, rfl, by omega, by go_num, Lib.hid (by rw [rlB_succ, ← List.append_assoc]; exact hg5), Lib.hid (rowIs_below (HV3.out.alloc _) hb5 (by omega)), Lib.hid ((HB3.out.alloc HB3.out.size _).trans (hb5.mono (by omega))), by omega⟩
          case measure => (simp [intOf]; try omega)
        · obtain rfl : j = i + 1 := by omega
          have hj2 : ¬ ((i + 1 : Nat) : Int) + 1 ≤ (i : Int) + 1 := by omega
          have hj3 : decide (((i + 1 : Nat) : Int) + 1 ≤ (i : Int) + 1) = false := decide_eq_false hj2
          have HO4 := Lib.hid (show RlO wr (w.heap.size + 1) v' (rlA (i + 1)) from HO3.out)
          go_wp2_with fail
          go_roundw
          case rel => exact ⟨i + 1, _, rfl, by omega, by go_num, HO4, HV3, HB3, by omega⟩
          case measure => (simp [intOf]; try omega)
    · obtain rfl : i = S := by omega
      have hle2 : ¬ (i : Int) + 1 ≤ (i : Int) := by omega
      go_wp2_with fail
      go_ret
      exact ⟨_, rfl, ow_lower HO.out (by omega), HB.out⟩

set_option maxRecDepth 16000 in
set_option maxHeartbeats 1600000 in
theorem l07All_any (P c H : Int) (S : Nat) (w : World) (hv : vrB P c H S = true) (hS : S ≤ 6) : Calls Try.prog 18 #[vrV P c H S] w fun e w' => RlPost (rlA S) w e w' := by
  have HB0 := Lib.hid ((Below.refl w.heap.size w).alloc (Nat.le_refl _) (.cells #[.int .i64 P, .int .i64 c, .int .i64 H, .int .i64 S] 30))
  have V0 := Lib.hid (vr4_new w (.int .i64 P) (.int .i64 c) (.int .i64 H) (.int .i64 S) 30)
  clear hv
  obtain ⟨v0, v1, v2, v3⟩ := vr4_cells V0.out
  go_enter Try.func18, Try.ntmps18
  go_wp2_with fail
  go_loopw [3, 4] (fun ov ix wr => ∃ (i : Nat) (v : Value), v = ov ∧ i ≤ S ∧ ix = .int .i64 ((i : Int) + 1) ∧ Hid (RlO wr (w.heap.size + 1) v (rlA i)) ∧ Hid (wr.rowIs w.heap.size 30 4 (vr4 (.int .i64 P) (.int .i64 c) (.int .i64 H) (.int .i64 S))) ∧ Hid (Below w.heap.size w wr) ∧ w.heap.size + 1 ≤ wr.heap.size) (fun _ ix _ => ((S : Int) + 1 - intOf ix).toNat)
  case atStart => exact ⟨0, _, rfl, Nat.zero_le _, rfl, Lib.hid (by have e := ow_new (w.alloc (.cells #[.int .i64 P, .int .i64 c, .int .i64 H, .int .i64 S] 30)) (w.heap.size + 1) 49 2 (by simp); rw [World.size_alloc] at e; exact e), Lib.hid (V0.out.alloc _), Lib.hid (HB0.out.alloc HB0.out.size _), by simp⟩
  case round =>
    obtain ⟨i, v, rfl, hi, rfl, HO, HV, HB, hz⟩ := hrel
    obtain ⟨v0, v1, v2, v3⟩ := vr4_cells HV.out
    have LA := rlA_len6 (s := i) (by omega)
    have wi : IntKind.i64.wrap ((i : Int) + 1 + 1) = (i : Int) + 1 + 1 := IntWalk.i64_in _ (by omega)
    by_cases hlt : i < S
    · have hle : decide ((i : Int) + 1 ≤ (S : Int)) = true := decide_eq_true (by omega)
      have hle2 : (i : Int) + 1 ≤ (S : Int) := by omega
      have HO2 := Lib.hid (show RlO wr (w.heap.size + 1) v (rlA i ++ rlB (i + 1) 0) by rw [rlB, List.append_nil]; exact HO.out)
      obtain ⟨wo, hwo⟩ : ∃ wo, wo = wr := ⟨_, rfl⟩
      subst hwo
      go_wp2_with fail
      go_loopw [3, 5] (fun ov ix wr => ∃ (j : Nat) (v : Value), v = ov ∧ j ≤ i + 1 ∧ ix = .int .i64 ((j : Int) + 1) ∧ Hid (RlO wr (w.heap.size + 1) v (rlA i ++ rlB (i + 1) j)) ∧ Hid (wr.rowIs w.heap.size 30 4 (vr4 (.int .i64 P) (.int .i64 c) (.int .i64 H) (.int .i64 S))) ∧ Hid (Below w.heap.size w wr) ∧ w.heap.size + 1 ≤ wr.heap.size) (fun _ ix _ => ((i : Int) + 2 - intOf ix).toNat)
      case atStart => exact ⟨0, v, rfl, Nat.zero_le _, rfl, HO2, HV, HB, hz⟩
      case round =>
        obtain ⟨j, v', rfl, hj, rfl, HO3, HV3, HB3, hz3⟩ := hrel
        have wj : IntKind.i64.wrap ((j : Int) + 1 + 1) = (j : Int) + 1 + 1 := IntWalk.i64_in _ (by omega)
        by_cases hlt2 : j < i + 1
        · have hj2 : (j : Int) + 1 ≤ (i : Int) + 1 := by omega
          have hj3 : decide ((j : Int) + 1 ≤ (i : Int) + 1) = true := decide_eq_true hj2
          have c0 := new_cell wr #[.int .i64 ((i : Int) + 1), .int .i64 ((j : Int) + 1)] 49
          have c0' := c0 0
          have c1' := c0 1
          clear c0
          have LB : (rlA i ++ rlB (i + 1) j).length ≤ 1000 := by rw [List.length_append, rlB_len]; omega
          go_wp2_with (first | (at_builtin; refine app_rl rfl (.tmp 18) (.tmp 22) rfl rfl (ow_alloc HO3.out _) wr.heap.size rfl ((i : Int) + 1) ((j : Int) + 1) c0' c1' LB (by simp; omega) ?_; intro v5 w5 hg5 hr5))
          have R5 := fun b e => (ow_in HO3.out b e).1
          have hb5 : Below (w.heap.size + 1) (wr.alloc (.cells #[.int .i64 ((i : Int) + 1), .int .i64 ((j : Int) + 1)] 49)) w5 := grown_below' (Below.refl _ _) hr5 R5 (by simp; omega)
          have z5 := hb5.size
          simp only [World.size_alloc] at z5
          go_roundw
          case rel => exact ⟨j + 1, _, rfl, by omega, by go_num, Lib.hid (by rw [rlB_succ, ← List.append_assoc]; exact hg5), Lib.hid (rowIs_below (HV3.out.alloc _) hb5 (by omega)), Lib.hid ((HB3.out.alloc HB3.out.size _).trans (hb5.mono (by omega))), by omega⟩
          case measure => (simp [intOf]; try omega)
        · obtain rfl : j = i + 1 := by omega
          have hj2 : ¬ ((i + 1 : Nat) : Int) + 1 ≤ (i : Int) + 1 := by omega
          have hj3 : decide (((i + 1 : Nat) : Int) + 1 ≤ (i : Int) + 1) = false := decide_eq_false hj2
          have HO4 := Lib.hid (show RlO wr (w.heap.size + 1) v' (rlA (i + 1)) from HO3.out)
          go_wp2_with fail
          go_roundw
          case rel => exact ⟨i + 1, _, rfl, by omega, by go_num, HO4, HV3, HB3, by omega⟩
          case measure => (simp [intOf]; try omega)
    · obtain rfl : i = S := by omega
      have hle2 : ¬ (i : Int) + 1 ≤ (i : Int) := by omega
      go_wp2_with fail
      go_ret
      exact ⟨_, rfl, ow_lower HO.out (by omega), HB.out⟩

theorem l07Weight_any (a b : Int) (w : World) : Calls Try.prog 21 #[.agg #[.int .i64 a, .int .i64 b]] w fun e w' => e = .returned (.int .i64 (wtF (a, b))) ∧ Below w.heap.size w w' := by
  have HB0 := Lib.hid ((Below.refl w.heap.size w).alloc (Nat.le_refl _) (.cells #[.int .i64 a, .int .i64 b] 49))
  by_cases hab : a = b
  · have HW := Lib.hid (show wtF (a, b) = 1 from if_pos hab)
    subst hab
    go_enter Try.func21, Try.ntmps21
    go_wp2_with fail
    go_ret
    exact ⟨by rw [HW.out]; rfl, HB0.out⟩
  · have HW := Lib.hid (show wtF (a, b) = 2 from if_neg hab)
    have hq : (a == b) = false := by simpa using hab
    go_enter Try.func21, Try.ntmps21
    go_wp2_with fail
    go_ret
    exact ⟨by rw [HW.out]; rfl, HB0.out⟩
set_option maxHeartbeats 800000 in
theorem IsRoll_any (P c H S a b : Int) (w : World) (hv : vrB P c H S = true) (h1 : 1 ≤ b) (h2 : b ≤ a) (h3 : a ≤ S) : Calls Try.prog 47 #[vrV P c H S, .agg #[.int .i64 a, .int .i64 b]] w fun e w' => e = .returned (.bool true) ∧ Below w.heap.size w w' := by
  have HB0 := Lib.hid (((Below.refl w.heap.size w).alloc (Nat.le_refl _) (.cells #[.int .i64 P, .int .i64 c, .int .i64 H, .int .i64 S] 30)).alloc (by simp) (.cells #[.int .i64 a, .int .i64 b] 49))
  have V0 := Lib.hid ((vr4_new w (.int .i64 P) (.int .i64 c) (.int .i64 H) (.int .i64 S) 30).alloc (.cells #[.int .i64 a, .int .i64 b] 49))
  have r0 := pr_new (w.alloc (.cells #[.int .i64 P, .int .i64 c, .int .i64 H, .int .i64 S] 30)) (.int .i64 a) (.int .i64 b) 49
  rw [World.size_alloc] at r0
  have R0 := Lib.hid r0
  have W1 : wB a 1 S = true := wB_true.2 ⟨by omega, h3⟩
  have W2 : wB b 1 a = true := wB_true.2 ⟨h1, h2⟩
  have HI := Lib.hid (fun W => impl_IsVariant_any P c H S W)
  rw [hv] at HI
  clear hv r0
  obtain ⟨v0, v1, v2, v3⟩ := vr4_cells V0.out
  obtain ⟨d0, d1⟩ := pr_cells R0.out
  go_enter Try.func47, Try.ntmps47
  go_wp2_with fail
  refine (HI.out _).mono ?_
  rintro e w1 ⟨rfl, hb1⟩
  have V1 := Lib.hid (rowIs_below V0.out hb1 V0.out.lt)
  have R1 := Lib.hid (rowIs_below R0.out hb1 R0.out.lt)
  have B1 := Lib.hid (HB0.out.trans (hb1.mono HB0.out.size))
  clear hb1 v0 v1 v2 v3 d0 d1
  obtain ⟨v0, v1, v2, v3⟩ := vr4_cells V1.out
  obtain ⟨d0, d1⟩ := pr_cells R1.out
  go_wp2_with ((go_at_call 53; refine (within_any _ _ _ _).mono ?_; rintro e w' ⟨rfl, rfl⟩))
  go_ret
  exact ⟨ret_bool (by simp), B1.out⟩
set_option maxHeartbeats 800000 in
theorem RollWeight_any (P c H S a b : Int) (w : World) (hv : vrB P c H S = true) (h1 : 1 ≤ b) (h2 : b ≤ a) (h3 : a ≤ S) : Calls Try.prog 27 #[vrV P c H S, .agg #[.int .i64 a, .int .i64 b]] w fun e w' => e = .returned (.int .i64 (wtF (a, b))) ∧ Below w.heap.size w w' := by
  have HB0 := Lib.hid (((Below.refl w.heap.size w).alloc (Nat.le_refl _) (.cells #[.int .i64 P, .int .i64 c, .int .i64 H, .int .i64 S] 30)).alloc (by simp) (.cells #[.int .i64 a, .int .i64 b] 49))
  have V0 := Lib.hid ((vr4_new w (.int .i64 P) (.int .i64 c) (.int .i64 H) (.int .i64 S) 30).alloc (.cells #[.int .i64 a, .int .i64 b] 49))
  have r0 := pr_new (w.alloc (.cells #[.int .i64 P, .int .i64 c, .int .i64 H, .int .i64 S] 30)) (.int .i64 a) (.int .i64 b) 49
  rw [World.size_alloc] at r0
  have R0 := Lib.hid r0
  have HI := Lib.hid (fun W => IsRoll_any P c H S a b W hv h1 h2 h3)
  clear hv r0
  obtain ⟨v0, v1, v2, v3⟩ := vr4_cells V0.out
  obtain ⟨d0, d1⟩ := pr_cells R0.out
  by_cases hab : a = b
  · have HW := Lib.hid (show wtF (a, b) = 1 from if_pos hab)
    have hq : (a == b) = true := by simpa using hab
    clear hab
    go_enter Try.func27, Try.ntmps27
    go_wp2_with fail
    refine (HI.out _).mono ?_
    rintro e w1 ⟨rfl, hb1⟩
    have R1 := Lib.hid (rowIs_below R0.out hb1 R0.out.lt)
    have B1 := Lib.hid (HB0.out.trans (hb1.mono HB0.out.size))
    clear hb1 v0 v1 v2 v3 d0 d1
    obtain ⟨d0, d1⟩ := pr_cells R1.out
    go_wp2_with fail
    go_ret
    exact ⟨by rw [HW.out]; rfl, B1.out⟩
  · have HW := Lib.hid (show wtF (a, b) = 2 from if_neg hab)
    have hq : (a == b) = false := by simpa using hab
    go_enter Try.func27, Try.ntmps27
    go_wp2_with fail
    refine (HI.out _).mono ?_
    rintro e w1 ⟨rfl, hb1⟩
    have R1 := Lib.hid (rowIs_below R0.out hb1 R0.out.lt)
    have B1 := Lib.hid (HB0.out.trans (hb1.mono HB0.out.size))
    clear hb1 v0 v1 v2 v3 d0 d1
    obtain ⟨d0, d1⟩ := pr_cells R1.out
    go_wp2_with fail
    go_ret
    exact ⟨by rw [HW.out]; rfl, B1.out⟩
end Go.Proofs.Ytjfmpnkbocilpaa
