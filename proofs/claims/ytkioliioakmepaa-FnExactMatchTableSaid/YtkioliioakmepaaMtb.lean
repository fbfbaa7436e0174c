/-
  MatchTable of both packages: what it returns (plain), and the walks of its two loops.
-/
import Derived.Test.YtkioliioakmepaaMchR
import Derived.Test.YtkioliioakmepaaShs
import Derived.Test.YtkioliioakmepaaGrow
import Derived.Deep.AppendLies
import Derived.Deep.Heap
import Derived.Deep.RegionHeld3
import Derived.Deep.RegionLaw
namespace Go.Proofs.Ytkioliioakmepaa
open Go.ChangeShapes Go.WideShapes Go.ChangeAt Go.RowKit
set_option linter.unusedVariables false

/-- the flat list of the shares of a row -/
def rowL (M : Mm) (a : Nat) : Nat → List Int
  | 0 => []
  | j + 1 => rowL M a j ++ [sN ((M.ch a (j + 1) 0).getD 0), sD ((M.ch a (j + 1) 0).getD 0)]
theorem rowL_len (M : Mm) (a : Nat) : ∀ j, (rowL M a j).length = j * 2
  | 0 => rfl
  | j + 1 => by rw [rowL, List.length_append, rowL_len M a j]; simp; omega
def okR (M : Mm) (a : Nat) : Nat → Bool
  | 0 => true
  | j + 1 => okR M a j && (M.ch a (j + 1) 0).isSome
def okT (M : Mm) (L : Nat) : Nat → Bool
  | 0 => true
  | i + 1 => okT M L i && okR M (i + 1) L
theorem okR_no {M : Mm} {a j : Nat} (h : M.ch a (j + 1) 0 = none) : ∀ n, j < n → okR M a n = false
  | 0, h0 => absurd h0 (by omega)
  | n + 1, h0 => by
    by_cases e : j = n
    · subst e; rw [okR, h]; simp
    · rw [okR, okR_no h n (by omega)]; rfl
theorem okT_no {M : Mm} {L i : Nat} (h : okR M (i + 1) L = false) : ∀ n, i < n → okT M L n = false
  | 0, h0 => absurd h0 (by omega)
  | n + 1, h0 => by
    by_cases e : i = n
    · subst e; rw [okT, h]; simp
    · rw [okT, okT_no h n (by omega)]; rfl
def mtbC (M : Mm) (len : Int) : Int := if M.good = true then (if wB len 1 9 = true then (if okT M len.toNat len.toNat = true then 0 else 3) else 2) else 1
def mtbN (M : Mm) (len : Int) : Nat := if mtbC M len = 0 then len.toNat else 0
theorem mtbC_0 {M : Mm} {len : Int} (h : M.good = false) : mtbC M len = 1 := by unfold mtbC; rw [h]; rfl
theorem mtbC_1 {M : Mm} {len : Int} (h : M.good = true) (h2 : wB len 1 9 = false) : mtbC M len = 2 := by unfold mtbC; rw [h, h2]; rfl
theorem mtbC_2 {M : Mm} {len : Int} (h : M.good = true) (h2 : wB len 1 9 = true) (h3 : okT M len.toNat len.toNat = false) : mtbC M len = 3 := by unfold mtbC; rw [h, h2, h3]; rfl
theorem mtbC_3 {M : Mm} {len : Int} (h : M.good = true) (h2 : wB len 1 9 = true) (h3 : okT M len.toNat len.toNat = true) : mtbC M len = 0 := by unfold mtbC; rw [h, h2, h3]; rfl
theorem Sm.rowL {K M : Mm} (h : Sm K M) (a : Nat) : ∀ j, rowL K a j = Go.Proofs.Ytkioliioakmepaa.rowL M a j
  | 0 => rfl
  | j + 1 => by rw [Go.Proofs.Ytkioliioakmepaa.rowL, Go.Proofs.Ytkioliioakmepaa.rowL, h.rowL a j, h.ch]
theorem Sm.okR {K M : Mm} (h : Sm K M) (a : Nat) : ∀ j, okR K a j = Go.Proofs.Ytkioliioakmepaa.okR M a j
  | 0 => rfl
  | j + 1 => by rw [Go.Proofs.Ytkioliioakmepaa.okR, Go.Proofs.Ytkioliioakmepaa.okR, h.okR a j, h.ch]
theorem Sm.okT {K M : Mm} (h : Sm K M) (L : Nat) : ∀ i, okT K L i = Go.Proofs.Ytkioliioakmepaa.okT M L i
  | 0 => rfl
  | i + 1 => by rw [Go.Proofs.Ytkioliioakmepaa.okT, Go.Proofs.Ytkioliioakmepaa.okT, h.okT L i, h.okR]
theorem Sm.mtbC {K M : Mm} (h : Sm K M) (len : Int) : mtbC K len = Go.Proofs.Ytkioliioakmepaa.mtbC M len := by unfold Go.Proofs.Ytkioliioakmepaa.mtbC; rw [h.good, h.okT]
theorem Sm.mtbN {K M : Mm} (h : Sm K M) (len : Int) : mtbN K len = Go.Proofs.Ytkioliioakmepaa.mtbN M len := by unfold Go.Proofs.Ytkioliioakmepaa.mtbN; rw [h.mtbC]
/-- what both MatchTable return -/
def MtPost (M : Mm) (len : Int) (w : World) (e : Ending) (w' : World) : Prop :=
  ∃ a c, e = .returned (.tuple #[.slice a (mtbN M len) c, .int .i64 (mtbC M len)]) ∧ Rss w' w.heap.size w'.heap.size a (mtbN M len) len.toNat (fun i => icell .i64 (rowL M (i + 1) len.toNat)) ∧ Below w.heap.size w w'
theorem MtPost.no {M : Mm} {len : Int} {w w' : World} {e : Ending} {C : Int} (he : e = .returned (.tuple #[.slice none 0 0, .int .i64 C])) (hC : mtbC M len = C) (h0 : ¬ C = 0) (hb : Below w.heap.size w w') : MtPost M len w e w' := by
  have hn : mtbN M len = 0 := by unfold mtbN; rw [hC, if_neg h0]
  refine ⟨none, 0, ?_, .inl hn, hb⟩
  rw [he, hC, hn]

/-- an own list of shares -/
def Gs (w : World) (base : Nat) (v : Value) (n : Nat) (xs : List Int) : Prop := w.ownsRow base 30 2 v n (xs.map (.int .i64))
/-- an own list of lists of shares -/
def Osl (w : World) (base : Nat) (v : Value) (n : Nat) (vs : List Value) : Prop := w.ownsRow base 63 1 v n vs
theorem own_blk {w w' : World} {base : Nat} {t : TypeId} {sz : Nat} {v : Value} {n : Nat} {vs : List Value} (h : w.ownsRow base t sz v n vs) (hk : ∀ b, v.ownBlock = some b → w'.heap[b]? = w.heap[b]?) : w'.ownsRow base t sz v n vs := by
  obtain ⟨h0, h1 | ⟨g', cap', cur, h1, h2, h3, h4⟩⟩ := h
  · exact ⟨h0, .inl h1⟩
  · exact ⟨h0, .inr ⟨g', cap', cur, h1, h2, (hk g' (by rw [h1]; rfl)).trans h3, h4⟩⟩
theorem own_in {w : World} {base : Nat} {t : TypeId} {sz : Nat} {v : Value} {n : Nat} {vs : List Value} (h : w.ownsRow base t sz v n vs) : ∀ b, v.ownBlock = some b → base ≤ b ∧ b < w.heap.size := by
  intro b hb
  obtain ⟨h0, ⟨h1, h2⟩ | ⟨g', cap', cur, h1, h2, h3, h4⟩⟩ := h
  · rw [h1] at hb; cases hb
  · rw [h1] at hb
    have e : g' = b := by simpa [Value.ownBlock] using hb
    subst e
    refine ⟨h2, ?_⟩
    rcases Nat.lt_or_ge g' w.heap.size with h | h
    · exact h
    · rw [Array.getElem?_eq_none h] at h3; cases h3
theorem own_room {w : World} {base : Nat} {t : TypeId} {sz g n c : Nat} {vs : List Value} (h : w.ownsRow base t sz (.slice (some ⟨g, 0, none⟩) n c) n vs) : w.heap[g]? ≠ none := by
  obtain ⟨h0, ⟨h1, h2⟩ | ⟨g', cap', cur, h1, h2, h3, h4⟩⟩ := h
  · cases h1
  · injection h1 with e1 e2 e3
    injection e1 with e1
    injection e1 with e1
    subst e1
    rw [h3]; simp
/-- blocks of cells of other types are other blocks -/
theorem own_ne {w : World} {base G m : Nat} {t t' : TypeId} {sz : Nat} {v : Value} {n : Nat} {vs : List Value} {lo hi : Nat} {f : Nat → Value} (h : w.ownsRow base t sz v n vs) (hr : RowN w lo hi t' (some ⟨G, 0, none⟩) m f) (hm : 0 < m) (ht : t ≠ t') : v.ownBlock ≠ some G := by
  intro hb
  obtain ⟨h0, ⟨h1, h2⟩ | ⟨g', cap', cur, h1, h2, h3, h4⟩⟩ := h
  · rw [h1] at hb; cases hb
  · rw [h1] at hb
    have e : g' = G := by simpa [Value.ownBlock] using hb
    subst e
    rcases hr with h | ⟨g2, e2, _, _, N, f', _, hrow, _⟩
    · omega
    · injection e2 with e2
      injection e2 with e2
      subst e2
      obtain ⟨c, hb2, _, _⟩ := hrow
      rw [h3] at hb2
      injection hb2 with hb2
      injection hb2 with _ hb2
      exact ht hb2
theorem info_sh2 : (Try.prog.info? 30).map (fun i => (i.zero, i.size, i.bytes)) = some (some (.agg #[.int .i64 0, .int .i64 0]), 2, 16) := by kernel_rfl
theorem info_ss1 : (Try.prog.info? 63).map (fun i => (i.zero, i.size, i.bytes)) = some (some (.slice none 0 0), 1, 24) := by kernel_rfl
theorem sh_cells {w : World} {b : Nat} {p q : Int} (h0 : w.cell? ⟨b, 0, none⟩ = some (.int .i64 p)) (h1 : w.cell? ⟨b, 1, none⟩ = some (.int .i64 q)) : ∀ j u, ([Value.int .i64 p, .int .i64 q] : List Value)[j]? = some u → w.cell? ((⟨b, 0, none⟩ : Addr).add j) = some u := by
  intro j u hj
  match j, hj with
  | 0, hj => simp at hj; subst hj; simpa [Addr.add] using h0
  | 1, hj => simp at hj; subst hj; simpa [Addr.add] using h1
  | j + 2, hj => simp at hj
theorem sh_ints {p q : Int} : ∀ u ∈ ([Value.int .i64 p, .int .i64 q] : List Value), u.oneCell' = true := by
  intro u hu
  simp at hu
  rcases hu with rfl | rfl <;> rfl
theorem app_share {ops : Array Oper} {rest : List Oper} {o : Oper} {a : Act} {Q : Exit → Act → World → Prop} {w : World} {base n : Nat} {v : Value} {xs : List Int} (hgd : o.guard = none) (s x : Operand)
    (ho : o.op = .call { callee := .builtin .append, args := #[s, x], argTypes := #[63, 63] })
    (hs : a.eval s = v) (hown : Gs w base v n xs) (p q : Int) (b : Nat) (hx : a.eval x = .slice (some ⟨b, 0, none⟩) 1 1) (h0 : w.cell? ⟨b, 0, none⟩ = some (.int .i64 p)) (h1 : w.cell? ⟨b, 1, none⟩ = some (.int .i64 q)) (hn : n ≤ 1000) (hbase : base ≤ w.heap.size)
    (h : ∀ v' w', Gs w' base v' (n + 1) (xs ++ [p, q]) → w.grownBy w' v.ownBlock → wpList Try.prog ops Q rest (a.put o.dst v') w') : wpList Try.prog ops Q (o :: rest) a w := by
  obtain ⟨i, hi, hz, hsize, hb⟩ := info_parts info_sh2
  refine wpList_append_own _ hgd s x 63 ho base 30 i (.agg #[.int .i64 0, .int .i64 0]) 2 16 Try.underlying63 hi hz hsize hb rfl (by omega) v n _ hs hown ⟨b, 0, none⟩ 1 1 [.int .i64 p, .int .i64 q] hx rfl (sh_cells h0 h1) sh_ints (by unfold maxLen; omega) (by omega) hbase ?_
  intro v' w' hv' hg' _
  refine h v' w' ?_ hg'
  unfold Gs
  rw [List.map_append]
  exact hv'
theorem step_app_share {ops : Array Oper} {o : Oper} {a : Act} {K : Act → World → Prop} {Q : Exit → Act → World → Prop} {E : Prop} {w : World} {base n : Nat} {v : Value} {xs : List Int} (hgd : o.guard = none) (s x : Operand)
    (ho : o.op = .call { callee := .builtin .append, args := #[s, x], argTypes := #[63, 63] })
    (hs : a.eval s = v) (hown : Gs w base v n xs) (p q : Int) (b : Nat) (hx : a.eval x = .slice (some ⟨b, 0, none⟩) 1 1) (h0 : w.cell? ⟨b, 0, none⟩ = some (.int .i64 p)) (h1 : w.cell? ⟨b, 1, none⟩ = some (.int .i64 q)) (hn : n ≤ 1000) (hbase : base ≤ w.heap.size)
    (h : ∀ v' w', Gs w' base v' (n + 1) (xs ++ [p, q]) → w.grownBy w' v.ownBlock → K (a.put o.dst v') w') :
    if Region.wanted o (yielded ops a.tmps) = true then Oper.wp Try.prog o a w K Q else E := by
  obtain ⟨i, hi, hz, hsize, hb⟩ := info_parts info_sh2
  refine step_append_lies _ hgd s x 63 ho base 30 i (.agg #[.int .i64 0, .int .i64 0]) 2 16 Try.underlying63 hi hz hsize hb rfl (by omega) v n _ hs hown ⟨b, 0, none⟩ 1 1 [.int .i64 p, .int .i64 q] hx rfl (sh_cells h0 h1) sh_ints (by omega) (by unfold maxLen; omega) (by omega) hbase w.heap.size rfl ?_
  intro g cap w' hv' hg' _ _
  refine h _ w' ?_ hg'
  unfold Gs
  rw [List.map_append]
  exact hv'
theorem app_rowv {ops : Array Oper} {rest : List Oper} {o : Oper} {a : Act} {Q : Exit → Act → World → Prop} {w : World} {base n : Nat} {v r : Value} {vs : List Value} (hgd : o.guard = none) (s x : Operand)
    (ho : o.op = .call { callee := .builtin .append, args := #[s, x], argTypes := #[51, 51] })
    (hs : a.eval s = v) (hown : Osl w base v n vs) (b : Nat) (hx : a.eval x = .slice (some ⟨b, 0, none⟩) 1 1) (h0 : w.cell? ⟨b, 0, none⟩ = some r) (hr : r.oneCell' = true) (hn : n ≤ 1000) (hbase : base ≤ w.heap.size)
    (h : ∀ v' w', Osl w' base v' (n + 1) (vs ++ [r]) → w.grownBy w' v.ownBlock → wpList Try.prog ops Q rest (a.put o.dst v') w') : wpList Try.prog ops Q (o :: rest) a w := by
  obtain ⟨i, hi, hz, hsize, hb⟩ := info_parts info_ss1
  refine wpList_append_own _ hgd s x 51 ho base 63 i (.slice none 0 0) 1 24 Try.underlying51 hi hz hsize hb rfl (by omega) v n _ hs hown ⟨b, 0, none⟩ 1 1 [r] hx rfl (one_news h0) (by intro u hu; simp at hu; subst hu; exact hr) (by unfold maxLen; omega) (by omega) hbase ?_
  intro v' w' hv' hg' _
  exact h v' w' hv' hg'

theorem Gs.len {w : World} {base n : Nat} {v : Value} {xs : List Int} (h : Gs w base v n xs) : xs.length = n * 2 := by have := h.1; simpa using this
theorem rown_at1 {w : World} {lo hi m g : Nat} {t : TypeId} {f : Nat → Value} (h : RowN w lo hi t (some ⟨g, 0, none⟩) m f) (h0 : 0 < m) : RowN w g (g + 1) t (some ⟨g, 0, none⟩) m f := by
  rcases h with h | ⟨g', e1, e2, e3, N, F, h3, h4, h5⟩
  · omega
  · injection e1 with e1
    injection e1 with e1
    subst e1
    exact .inr ⟨_, rfl, Nat.le_refl _, Nat.lt_succ_self _, N, F, h3, h4, h5⟩
/-- a finished list of shares -/
theorem Gs.fin {w : World} {base n : Nat} {v : Value} {xs : List Int} (h : Gs w base v n xs) (hn : 0 < n) : ∃ g c, v = .slice (some ⟨g, 0, none⟩) n c ∧ base ≤ g ∧ g < w.heap.size ∧ RowN w g (g + 1) 30 (some ⟨g, 0, none⟩) (n * 2) (icell .i64 xs) := by
  have hl := h.len
  have hin := own_in h
  have h' := h
  obtain ⟨h0, ⟨h1, h2⟩ | ⟨g', cap', cur, h1, h2, h3, h4, _⟩⟩ := h
  · omega
  · subst h1
    have hr := (RowN.of_own h').congr (f' := icell .i64 xs) fun i hi => ints_getD .i64 xs (by omega)
    exact ⟨g', cap', rfl, h2, (hin g' rfl).2, rown_at1 hr (by omega)⟩

/-- the rows that are finished: the blocks G j, each a block of its own below base -/
def Rws (w : World) (lo base i L : Nat) (G : Nat → Nat) (f : Nat → Nat → Value) : Prop :=
  (∀ j, j < i → RowN w (G j) (G j + 1) 30 (some ⟨G j, 0, none⟩) (L * 2) (f j) ∧ lo ≤ G j ∧ G j < base) ∧ ∀ j k, j < i → k < i → ¬ j = k → ¬ G j = G k
theorem row_blk {w w' : World} {g m : Nat} {t : TypeId} {f : Nat → Value} (h : RowN w g (g + 1) t (some ⟨g, 0, none⟩) m f) (e : w'.heap[g]? = w.heap[g]?) : RowN w' g (g + 1) t (some ⟨g, 0, none⟩) m f := by
  rcases h with h | ⟨g', e', h1, h2, N, f', h3, h4, h5⟩
  · exact .inl h
  · injection e' with e'
    injection e' with e'
    subst e'
    exact .inr ⟨g, rfl, h1, h2, N, f', h3, h4.of_block e, h5⟩
theorem Rws.to {w w' : World} {lo base base' i L : Nat} {G : Nat → Nat} {f : Nat → Nat → Value} (h : Rws w lo base i L G f) (hb : base ≤ base') (hk : ∀ j, j < i → w'.heap[G j]? = w.heap[G j]?) : Rws w' lo base' i L G f :=
  ⟨fun j hj => ⟨row_blk (h.1 j hj).1 (hk j hj), (h.1 j hj).2.1, by have := h.1 j hj; omega⟩, h.2⟩
theorem Rws.step {w : World} {lo base base' i L g : Nat} {G : Nat → Nat} {f : Nat → Nat → Value} {fi : Nat → Value} (h : Rws w lo base i L G f) (hr : RowN w g (g + 1) 30 (some ⟨g, 0, none⟩) (L * 2) fi) (h1 : base ≤ g) (h2 : g < base') (h3 : lo ≤ base) :
    Rws w lo base' (i + 1) L (fun j => if j = i then g else G j) (fun j => if j = i then fi else f j) := by
  refine ⟨fun j hj => ?_, fun j k hj hk hjk => ?_⟩
  · by_cases e : j = i
    · subst e
      simp only [if_true]
      exact ⟨hr, by omega, h2⟩
    · simp only [if_neg e]
      have := h.1 j (by omega)
      exact ⟨this.1, this.2.1, by omega⟩
  · by_cases e1 : j = i
    · subst e1
      have := h.1 k (by omega)
      simp only [if_true, if_neg (show ¬ k = j from fun e => hjk e.symm)]
      omega
    · by_cases e2 : k = i
      · subst e2
        have := h.1 j (by omega)
        simp only [if_true, if_neg e1]
        omega
      · simp only [if_neg e1, if_neg e2]
        exact h.2 j k (by omega) (by omega) hjk
def rowsV (G C : Nat → Nat) (L : Nat) (j : Nat) : Value := .slice (some ⟨G j, 0, none⟩) L (C j)
theorem rowsV_step (G C : Nat → Nat) (L i g c : Nat) : (List.range i).map (rowsV G C L) ++ [.slice (some ⟨g, 0, none⟩) L c] = (List.range (i + 1)).map (rowsV (fun j => if j = i then g else G j) (fun j => if j = i then c else C j) L) := by
  rw [List.range_succ, List.map_append]
  congr 1
  · refine List.map_congr_left fun j hj => ?_
    have := List.mem_range.1 hj
    simp only [rowsV, if_neg (show ¬ j = i by omega)]
  · simp [rowsV]
theorem grown_blk {w w' : World} {v : Value} (hg : w.grownBy w' v.ownBlock) {base : Nat} (hv : ∀ b, v.ownBlock = some b → base ≤ b) (hz : base ≤ w.heap.size) : ∀ b, b < base → w'.heap[b]? = w.heap[b]? :=
  fun b hb => hg.block b (by omega) (fun e => by have := hv b e.symm; omega)
theorem grown_below {w w' : World} {v : Value} (hg : w.grownBy w' v.ownBlock) {base : Nat} (hv : ∀ b, v.ownBlock = some b → base ≤ b) (hz : base ≤ w.heap.size) : Below base w w' :=
  (Below.refl base w).grown hg hz fun b e => hv b e
theorem mt_fits {M : Mm} {L : Nat} {fb : Bool} : (fb = false → okT M L L = true) → (fb = true → okT M L L = false) → okT M L L = !fb := by
  cases fb
  · intro h _; exact h rfl
  · intro _ h; exact h rfl

/-- what holds in the reference's outer loop, before row i -/
def SpO (M : Mm) (w : World) (lo hi g k v L base i : Nat) (o : Value) (fb : Bool) (wr : World) : Prop :=
  ∃ (G C : Nat → Nat) (f : Nat → Nat → Value), Osl wr hi o i ((List.range i).map (rowsV G C L)) ∧ (∀ b, o.ownBlock = some b → b < base) ∧ Rws wr hi base i L G f ∧ Tb M g k v fb wr ∧ M.at wr lo ∧ (w.heap.size ≤ lo ∧ Lie lo hi g k v ∧ hi ≤ base ∧ base ≤ wr.heap.size) ∧ Below w.heap.size w wr ∧
    (fb = false → okT M L i = true ∧ ∀ j, j < i → f j = icell .i64 (rowL M (j + 1) L)) ∧ (fb = true → okT M L L = false)
section
variable {M : Mm} {w wr w' : World} {lo hi g k v L base base' i : Nat} {o : Value} {fb fb' : Bool}
theorem SpO.mem (h : SpO M w lo hi g k v L base i o fb wr) : Tb M g k v fb wr ∧ M.at wr lo ∧ (w.heap.size ≤ lo ∧ Lie lo hi g k v ∧ hi ≤ base ∧ base ≤ wr.heap.size) ∧ Below w.heap.size w wr := by
  obtain ⟨G, C, f, a1, a2, a3, a4, a5, a6, a7, a8, a9⟩ := h
  exact ⟨a4, a5, a6, a7⟩
theorem SpO.sz (h : SpO M w lo hi g k v L base i o fb wr) : w.heap.size ≤ lo ∧ lo < hi ∧ hi ≤ base ∧ base ≤ wr.heap.size ∧ w.heap.size ≤ wr.heap.size ∧ hi ≤ wr.heap.size := by
  obtain ⟨_, _, ⟨b1, ⟨b2, b3, _⟩, b4, b5⟩, _⟩ := h.mem
  omega
theorem SpO.no (h : SpO M w lo hi g k v L base i o fb wr) : fb = true → okT M L L = false := by
  obtain ⟨G, C, f, a1, a2, a3, a4, a5, a6, a7, a8, a9⟩ := h
  exact a9
theorem SpO.to (h : SpO M w lo hi g k v L base i o fb wr) (hb : base ≤ base') (hk : ∀ b, hi ≤ b → b < base → w'.heap[b]? = wr.heap[b]?) (hz : base' ≤ w'.heap.size) (hT : Tb M g k v fb' w') (hM : M.at w' lo) (hB : Below w.heap.size w w') (h1 : fb = true → fb' = true) (h2 : fb = false → fb' = true → okT M L L = false) : SpO M w lo hi g k v L base' i o fb' w' := by
  obtain ⟨G, C, f, a1, a2, a3, a4, a5, a6, a7, a8, a9⟩ := h
  refine ⟨G, C, f, own_blk a1 (fun b e => hk b (own_in a1 b e).1 (a2 b e)), fun b e => by have := a2 b e; omega, a3.to hb (fun j hj => hk _ (a3.1 j hj).2.1 (a3.1 j hj).2.2), hT, hM, ⟨a6.1, a6.2.1, by omega, hz⟩, hB, fun e => ?_, fun e => ?_⟩
  · cases fb
    · exact a8 rfl
    · rw [h1 rfl] at e; cases e
  · cases fb
    · exact h2 rfl e
    · exact a9 rfl
theorem SpO.rebase (h : SpO M w lo hi g k v L base i o fb wr) : SpO M w lo hi g k v L wr.heap.size i o fb wr := by
  obtain ⟨m1, m2, m3, m4⟩ := h.mem
  exact h.to m3.2.2.2 (fun _ _ _ => rfl) (Nat.le_refl _) m1 m2 m4 (fun e => e) (fun h h' => by rw [h] at h'; cases h')
theorem SpO.alloc (h : SpO M w lo hi g k v L base i o fb wr) (x : Obj) : SpO M w lo hi g k v L base i o fb (wr.alloc x) := by
  obtain ⟨m1, m2, m3, m4⟩ := h.mem
  have z := h.sz
  exact h.to (Nat.le_refl _) (fun b _ hb => Deep.blk_alloc_lt _ _ _ (by omega)) (by simp; omega) (m1.alloc x) (m2.keep ((Below.refl lo wr).alloc (by omega) x)) (m4.alloc (by omega) x) (fun e => e) (fun h h' => by rw [h] at h'; cases h')
theorem SpO.grown {r : Value} (h : SpO M w lo hi g k v L base i o fb wr) (hg : wr.grownBy w' r.ownBlock) (hr : ∀ b, r.ownBlock = some b → base ≤ b) : SpO M w lo hi g k v L base i o fb w' := by
  obtain ⟨m1, m2, m3, m4⟩ := h.mem
  have z := h.sz
  have hb := grown_below hg hr m3.2.2.2
  obtain ⟨q1, q2, q3, q4, q5, q6, _⟩ := m3.2.1
  exact h.to (Nat.le_refl _) (fun b _ hb => grown_blk hg hr m3.2.2.2 b hb) (by have := hg.size; omega) (m1.keep hb (by omega) (by omega) (by omega)) (m2.keep (hb.mono (by omega))) (m4.trans (hb.mono (by omega))) (fun e => e) (fun h h' => by rw [h] at h'; cases h')
theorem SpO.ch (h : SpO M w lo hi g k v L base i o fb wr) (ho : Out lo hi wr w') (hT : Tb M g k v fb' w') (h1 : fb = true → fb' = true) (h2 : fb = false → fb' = true → okT M L L = false) : SpO M w lo hi g k v L base i o fb' w' := by
  obtain ⟨m1, m2, m3, m4⟩ := h.mem
  have z := h.sz
  exact h.to (Nat.le_refl _) (fun b h1 hb => ho.block b (by omega) (.inr h1)) (by have := ho.size; omega) hT (m2.out ho (by omega)) (Out.below m4 ho (by omega)) h1 h2
/-- a row is done -/
theorem SpO.row {r : Value} {xs : List Int} (h : SpO M w lo hi g k v L base i o fb wr) (hr : Gs wr base r L xs) (hL0 : 0 < L) (hx : fb = false → okR M (i + 1) L = true ∧ xs = rowL M (i + 1) L) :
    ∃ vs, Osl wr hi o i vs ∧ r.oneCell' = true ∧ ∀ o' w5, Osl w5 hi o' (i + 1) (vs ++ [r]) → wr.grownBy w5 o.ownBlock → SpO M w lo hi g k v L w5.heap.size (i + 1) o' fb w5 := by
  have z := h.sz
  obtain ⟨G, C, f, a1, a2, a3, a4, a5, a6, a7, a8, a9⟩ := h
  obtain ⟨gr, c, rfl, g1, g2, hrow⟩ := hr.fin hL0
  refine ⟨_, a1, rfl, fun o' w5 ho hg => ?_⟩
  rw [rowsV_step] at ho
  have hob := own_in a1
  have hb := grown_below hg (fun b e => (hob b e).1) (by omega)
  obtain ⟨q1, q2, q3, q4, q5, q6, _⟩ := a6.2.1
  have hz := hg.size
  refine ⟨_, _, _, ho, fun b e => (own_in ho b e).2, (a3.to (Nat.le_refl _) (fun j hj => hg.block _ (by have := a3.1 j hj; omega) (fun e => own_ne a1 (a3.1 j hj).1 (by omega) (by decide) e.symm))).step (row_blk hrow (hg.block _ g2 (fun e => own_ne a1 hrow (by omega) (by decide) e.symm))) g1 (by omega) (by omega), a4.keep hb q2 q4 q6, a5.keep (hb.mono (by omega)), ⟨a6.1, a6.2.1, by omega, Nat.le_refl _⟩, a7.trans (hb.mono (by omega)), fun e => ?_, a9⟩
  obtain ⟨o1, o2⟩ := hx e
  obtain ⟨o3, o4⟩ := a8 e
  refine ⟨by rw [okT, o3, o1]; rfl, fun j hj => ?_⟩
  by_cases e2 : j = i
  · subst e2; simp only [if_true]; rw [o2]
  · simp only [if_neg e2]; exact o4 j (by omega)
theorem SpO.fin (h : SpO M w lo hi g k v L base L o false wr) (hL0 : 0 < L) : ∃ b c, o = .slice (some ⟨b, 0, none⟩) L c ∧ okT M L L = true ∧ Rss wr w.heap.size wr.heap.size (some ⟨b, 0, none⟩) L L (fun i => icell .i64 (rowL M (i + 1) L)) := by
  have z := h.sz
  obtain ⟨G, C, f, a1, a2, a3, a4, a5, a6, a7, a8, a9⟩ := h
  obtain ⟨o3, o4⟩ := a8 rfl
  have hob := own_in a1
  have a1' := a1
  obtain ⟨h0, ⟨h1, h2⟩ | ⟨g', cap', cur, h1, h2, h3, h4, _⟩⟩ := a1
  · omega
  · subst h1
    have hin := hob g' rfl
    have hr := rown_at1 (RowN.of_own a1') (by omega)
    rw [Nat.mul_one] at hr
    refine ⟨g', cap', rfl, o3, .inr ⟨g', G, C, rfl, by omega, hr.congr (fun j hj => by simp [rowsV, List.getD_eq_getElem?_getD, hj]), fun j hj => ?_, a3.2⟩⟩
    have := a3.1 j hj
    refine ⟨by have e := this.1; rw [o4 j hj] at e; exact e, by omega, by omega, fun e => own_ne a1' this.1 (by omega) (by decide) (by rw [e]; rfl)⟩
end
set_option maxRecDepth 16000 in
set_option maxHeartbeats 3200000 in
theorem spec_MatchTable_any (M : Mm) (len : Int) (w : World) (hA : M.at w w.heap.size) (hs : M.sz) :
    Calls Try.prog 36 #[M.V, .int .i64 len] w fun e w' => MtPost M len w e w' := by
  have hb0 := (Below.refl w.heap.size w).alloc (Nat.le_refl _) (.cells #[.slice M.a M.n M.c, .slice M.b M.m M.d, .slice M.e M.p M.f] 26)
  have HB := Lib.hid hb0
  have HA := Lib.hid (hA.keep hb0)
  have RM := Lib.hid (three_new w (.slice M.a M.n M.c) (.slice M.b M.m M.d) (.slice M.e M.p M.f) 26)
  obtain ⟨K, hK⟩ : ∃ K, M.good = K := ⟨_, rfl⟩
  have HK := Lib.hid hK
  have GA := Lib.hid hA
  clear hb0 hK hA
  go_enter Try.func36, Try.ntmps36
  go_wp2_with fail
  refine (spec_mm M _ (HA.out.more HB.out.size) hs K HK.out).mono ?_
  rintro e w1 ⟨rfl, hb1⟩
  have z1 := hb1.size
  simp only [World.size_alloc] at z1
  have B1 := Lib.hid (HB.out.trans (hb1.mono HB.out.size))
  have A1 := Lib.hid (HA.out.keep (hb1.mono HB.out.size))
  have M1 := Lib.hid (rowIs_below RM.out hb1 RM.out.lt)
  obtain ⟨m0, m1, m2⟩ := three_cells M1.out
  clear hb1
  cases K
  · have HV := Lib.hid (mtbC_0 (len := len) HK.out)
    go_wp2_with fail
    go_ret2
    exact MtPost.no rfl HV.out (by decide) B1.out
  · obtain ⟨S, hS⟩ : ∃ S, wB len 1 9 = S := ⟨_, rfl⟩
    have HS := Lib.hid hS
    clear hS
    go_wp2_with fail
    refine (l01In_any len 1 9 _).mono ?_
    rw [HS.out]
    rintro e w2 ⟨rfl, rfl⟩
    cases S
    · have HV := Lib.hid (mtbC_1 HK.out HS.out)
      go_wp2_with fail
      go_ret2
      exact MtPost.no rfl HV.out (by decide) B1.out
    · obtain ⟨l1, l9⟩ := wB_true.1 HS.out
      obtain ⟨L, rfl⟩ := Int.eq_ofNat_of_zero_le (show 0 ≤ len by omega)
      have hM := Mm.good_ok HK.out GA.out
      go_wp2_with fail
      refine (l18New_any M _).mono ?_
      rintro e w2 ⟨g, k, v, rfl, hL, hT, hb2⟩
      have z2 := hb2.size
      have B2 := B1.out.trans (hb2.mono B1.out.size)
      have A2 := (A1.out.keep (hb2.mono B1.out.size)).more B1.out.size
      have HL := Lib.hid hL
      have O2 := Own.new w2 w2.heap.size 63 1 #[] 0 (Nat.le_refl _) (by unfold maxLen; omega) rfl
      obtain ⟨lq1, lq2, lq3, lq4, lq5, lq6, _⟩ := hL
      have S0 : Hid (SpO M w w1.heap.size w2.heap.size g k v L (w2.heap.size + 1) 0 (.slice (some ⟨w2.heap.size, 0, none⟩) 0 0) false (w2.alloc (.cells #[] 63))) :=
        Lib.hid ⟨fun _ => 0, fun _ => 0, fun _ _ => undef, O2, fun b e => by have := own_at e; omega, ⟨fun j hj => absurd hj (by omega), fun j k hj => absurd hj (by omega)⟩, hT.alloc _, A2.keep ((Below.refl _ _).alloc (by omega) _), ⟨by omega, HL.out, by omega, by simp⟩, B2.alloc (by omega) _, fun _ => ⟨rfl, fun j hj => absurd hj (by omega)⟩, fun h => by cases h⟩
      have SPC := Lib.hid (fun n => l18Chance_any M hM w1.heap.size w2.heap.size g k v HL.out n)
      clear hT hb2 m0 m1 m2 O2 A2 B2 lq1 lq2 lq3 lq4 lq5 lq6 A1 M1
      go_wp2_with fail
      go_loopw [7, 8] (fun o a wr => ∃ (ov : Value) (i A : Nat) (base : Nat) (fb : Bool), ov = o ∧ Hid (A = i + 1) ∧ i + 1 ≤ A ∧ A ≤ i + 1 ∧ i ≤ L ∧ a = .int .i64 (A : Int) ∧ Hid (SpO M w w1.heap.size w2.heap.size g k v L base i ov fb wr)) (fun _ a _ => L + 1 - (intOf a).toNat)
      case atStart => exact ⟨_, 0, 1, _, _, rfl, Lib.hid rfl, Nat.le_refl _, Nat.le_refl _, Nat.zero_le _, rfl, S0⟩
      case round =>
        obtain ⟨ov, i, A, base, fb, rfl, hAi, ha1, ha2, hiL, rfl, HO⟩ := hrel
        obtain ⟨wo, hwo⟩ : ∃ wo, wo = wr := ⟨_, rfl⟩
        subst hwo
        by_cases hlt : i < L
        · have hAL : (A : Int) ≤ (L : Int) := by omega
          have hd : decide ((A : Int) ≤ (L : Int)) = true := decide_eq_true hAL
          have hzo := HO.out.sz
          have HO2 := Lib.hid (HO.out.rebase.alloc (.cells #[] 30))
          have G0 := Lib.hid (show Gs (wo.alloc (.cells #[] 30)) wo.heap.size (.slice (some ⟨wo.heap.size, 0, none⟩) 0 0) 0 [] from Own.new wo wo.heap.size 30 2 #[] 0 (Nat.le_refl _) (by unfold maxLen; omega) rfl)
          clear HO
          go_wp2_with fail
          go_loopw [9, 10] (fun r b wr => ∃ (rv : Value) (j D : Nat) (fb : Bool) (xs : List Int), rv = r ∧ Hid (D = j + 1) ∧ j + 1 ≤ D ∧ D ≤ j + 1 ∧ j ≤ L ∧ b = .int .i64 (D : Int) ∧ Hid (Gs wr wo.heap.size rv j xs) ∧ Hid (SpO M w w1.heap.size w2.heap.size g k v L wo.heap.size i ov fb wr) ∧ Hid (fb = false → okR M (i + 1) j = true ∧ xs = rowL M (i + 1) j)) (fun _ b _ => L + 1 - (intOf b).toNat)
          case atStart => exact ⟨_, 0, 1, _, [], rfl, Lib.hid rfl, Nat.le_refl _, Nat.le_refl _, Nat.zero_le _, rfl, G0, HO2, Lib.hid (fun _ => ⟨rfl, rfl⟩)⟩
          case round =>
            obtain ⟨rv, j, D, fb, xs, rfl, hDj, hd1, hd2, hjL, rfl, HG, HO, HX⟩ := hrel
            have hzi := HO.out.sz
            by_cases hlt2 : j < L
            · have hDL : (D : Int) ≤ (L : Int) := by omega
              obtain ⟨m1, m2, m3, m4⟩ := HO.out.mem
              have CH := Lib.hid (SPC.out (A + D) A D 0 fb wr (Nat.le_refl _) (by omega) (by omega) (by omega) (by omega) m2 m1 (by omega))
              clear m1 m2 m3 m4
              go_wp2_with fail
              refine CH.out.mono ?_
              rintro e w3 ⟨x, y, fb', rfl, hT3, ho3, h31, h32, h33⟩
              have z3 := ho3.size
              have HG3 := Lib.hid (show Gs w3 wo.heap.size rv j xs from own_blk HG.out (fun b e => ho3.block b (own_in HG.out b e).2 (.inr (by have := (own_in HG.out b e).1; omega))))
              have HO3 := Lib.hid ((HO.out.ch ho3 hT3 h31 (fun e1 e2 => okT_no (i := i) (okR_no (j := j) (by have := h33 e1 e2; rw [hAi.out, hDj.out] at this; exact this) L hlt2) L hlt)).alloc (.cells #[.int .i64 x, .int .i64 y] 30))
              have HG4 := Lib.hid (show Gs (w3.alloc (.cells #[.int .i64 x, .int .i64 y] 30)) wo.heap.size rv j xs from World.ownsRow.alloc HG3.out _)
              have HX3 : Hid (fb' = false → okR M (i + 1) (j + 1) = true ∧ xs ++ [x, y] = rowL M (i + 1) (j + 1)) := by
                refine Lib.hid (fun e => ?_)
                have e0 : fb = false := by cases fb; rfl; rw [h31 rfl] at e; cases e
                obtain ⟨o1, o2⟩ := HX.out e0
                obtain ⟨c, c1, c2, c3⟩ := h32 e
                rw [hAi.out, hDj.out] at c1
                refine ⟨by rw [okR, o1, c1]; rfl, by rw [rowL, c1, o2, c2, c3]; rfl⟩
              have x0 := new_cell w3 #[.int .i64 x, .int .i64 y] 30 0
              have x1 := new_cell w3 #[.int .i64 x, .int .i64 y] 30 1
              have X0 := Lib.hid x0
              have X1 := Lib.hid x1
              clear HG HO HX CH hT3 ho3 h31 h32 h33 x0 x1
              go_wp2_with (at_builtin; refine app_share rfl (.tmp 31) (.tmp 36) rfl rfl HG4.out x y w3.heap.size rfl X0.out X1.out (by omega) (by simp; omega) ?_; intro v5 w5 hg5 hgr5; have HG5 := Lib.hid hg5; have HO5 := Lib.hid (HO3.out.grown hgr5 (fun b e => (own_in HG4.out b e).1)); have z5 := hgr5.size; clear hg5 hgr5)
              go_roundw
              case rel => exact ⟨_, j + 1, D + 1, fb', _, rfl, Lib.hid (by rw [hDj.out]), by omega, by omega, by omega, by go_num, HG5, HO5, HX3⟩
              case measure => simp [intOf]; omega
            · have hDL : ¬ (D : Int) ≤ (L : Int) := by omega
              obtain rfl : j = L := by omega
              obtain ⟨gr, cr, hrv, _⟩ := HG.out.fin (by omega)
              subst hrv
              have HG3 := Lib.hid (show Gs (wr.alloc (.cells #[.slice (some ⟨gr, 0, none⟩) j cr] 63)) wo.heap.size _ j xs from World.ownsRow.alloc HG.out _)
              obtain ⟨vs, ho1, ho2, ho3⟩ := (HO.out.alloc (.cells #[.slice (some ⟨gr, 0, none⟩) j cr] 63)).row HG3.out (by omega) HX.out
              have HA1 := Lib.hid ho1
              have HA3 := Lib.hid ho3
              have X0 := Lib.hid (new_cell wr #[.slice (some ⟨gr, 0, none⟩) j cr] 63 0)
              clear HG HO HX HG3 ho1 ho3
              go_wp2_with (at_builtin; refine app_rowv rfl (.tmp 38) (.tmp 40) rfl rfl HA1.out wr.heap.size rfl X0.out ho2 (by omega) (by simp; omega) ?_; intro v5 w5 hg5 hgr5; have HO5 := Lib.hid (HA3.out _ _ hg5 hgr5); have z5 := hgr5.size; clear hg5 hgr5)
              go_roundw
              case rel => exact ⟨_, i + 1, A + 1, _, _, rfl, Lib.hid (by rw [hAi.out]), by omega, by omega, by omega, by go_num, HO5⟩
              case measure => simp [intOf]; omega
        · have hAL : ¬ (A : Int) ≤ (L : Int) := by omega
          obtain rfl : i = L := by omega
          obtain ⟨m1, m2, m3, m4⟩ := HO.out.mem
          have B5 := Lib.hid m4
          obtain ⟨kf, vf, g1, _, _, _⟩ := m1
          have u5 := g1.cell (i := 5) (by omega)
          simp only [tbC] at u5
          clear g1 m2 m3 m4
          cases fb
          · obtain ⟨b, c, rfl, ho1, ho2⟩ := HO.out.fin (by omega)
            have HV := Lib.hid (mtbC_3 HK.out HS.out ho1)
            have HR := Lib.hid ho2
            clear ho1 ho2 HO
            go_wp2_with fail
            go_ret2
            have hn : mtbN M (i : Int) = i := by unfold mtbN; rw [if_pos HV.out]; rfl
            refine ⟨some ⟨b, 0, none⟩, c, by rw [hn, HV.out]; rfl, ?_, B5.out⟩
            rw [hn]
            exact HR.out
          · have HV := Lib.hid (mtbC_2 HK.out HS.out (HO.out.no rfl))
            clear HO
            go_wp2_with fail
            go_ret2
            exact MtPost.no rfl HV.out (by decide) B5.out

/-- the cells of the table: i rows are done, the next holds cur -/
def tcell (G C : Nat → Nat) (L i : Nat) (cur : Value) (j : Nat) : Value := if j < i then rowsV G C L j else if j = i then cur else .slice none 0 0
/-- what holds in the program's loops: i rows are done, j shares of the next -/
def ImO (M : Mm) (w : World) (lo hi g t f L base i N : Nat) (A : Option Addr) (j c : Nat) (wr : World) : Prop :=
  ∃ (G C : Nat → Nat), wr.rowIs hi 63 L (tcell G C L i (.slice A j c)) ∧ Rws wr (hi + 1) base i L G (fun j => icell .i64 (rowL M (j + 1) L)) ∧ Gs wr base (.slice A j c) j (rowL M (i + 1) j) ∧ Tm M g t f N wr ∧ M.at wr lo ∧
    (w.heap.size ≤ lo ∧ Lie lo hi g t f ∧ hi + 1 ≤ base ∧ base ≤ wr.heap.size) ∧ Below w.heap.size w wr ∧ okT M L i = true ∧ okR M (i + 1) j = true
section
variable {M : Mm} {w wr w' : World} {lo hi g t f L base base' i j c N N' : Nat} {A : Option Addr}
theorem ImO.mem (h : ImO M w lo hi g t f L base i N A j c wr) : Tm M g t f N wr ∧ M.at wr lo ∧ Below w.heap.size w wr := by
  obtain ⟨G, C, a1, a2, a3, a4, a5, a6, a7, a8, a9⟩ := h
  exact ⟨a4, a5, a7⟩
theorem ImO.sz (h : ImO M w lo hi g t f L base i N A j c wr) : w.heap.size ≤ lo ∧ lo < hi ∧ hi + 1 ≤ base ∧ base ≤ wr.heap.size ∧ w.heap.size ≤ wr.heap.size ∧ hi < wr.heap.size := by
  obtain ⟨G, C, a1, a2, a3, a4, a5, ⟨b1, ⟨b2, b3, _⟩, b4, b5⟩, _⟩ := h
  omega
theorem ImO.own (h : ImO M w lo hi g t f L base i N A j c wr) : Gs wr base (.slice A j c) j (rowL M (i + 1) j) := by
  obtain ⟨G, C, a1, a2, a3, a4, a5, a6, a7, a8, a9⟩ := h
  exact a3
theorem ImO.cell (h : ImO M w lo hi g t f L base i N A j c wr) (hi' : i < L) : wr.cell? ⟨hi, i, none⟩ = some (.slice A j c) ∧ wr.frozen? ⟨hi, i, none⟩ = false := by
  obtain ⟨G, C, a1, a2, a3, a4, a5, a6, a7, a8, a9⟩ := h
  refine ⟨?_, a1.frozen i⟩
  have := a1.cell (i := i) hi'
  rw [this, tcell, if_neg (by omega), if_pos rfl]
theorem ImO.to (h : ImO M w lo hi g t f L base i N A j c wr) (hk : ∀ b, hi ≤ b → b < wr.heap.size → w'.heap[b]? = wr.heap[b]?) (hz : wr.heap.size ≤ w'.heap.size) (hT : Tm M g t f N' w') (hM : M.at w' lo) (hB : Below w.heap.size w w') : ImO M w lo hi g t f L base i N' A j c w' := by
  have z := h.sz
  obtain ⟨G, C, a1, a2, a3, a4, a5, a6, a7, a8, a9⟩ := h
  exact ⟨G, C, a1.of_block (hk _ (Nat.le_refl _) (by omega)), a2.to (Nat.le_refl _) (fun j hj => hk _ (by have := a2.1 j hj; omega) (by have := a2.1 j hj; omega)), own_blk a3 (fun b e => hk b (by have := own_in a3 b e; omega) (own_in a3 b e).2), hT, hM, ⟨a6.1, a6.2.1, a6.2.2.1, by omega⟩, hB, a8, a9⟩
theorem ImO.alloc (h : ImO M w lo hi g t f L base i N A j c wr) (x : Obj) : ImO M w lo hi g t f L base i N A j c (wr.alloc x) := by
  obtain ⟨m1, m2, m4⟩ := h.mem
  have z := h.sz
  exact h.to (fun b _ hb => Deep.blk_alloc_lt _ _ _ hb) (by simp) (m1.alloc x) (m2.keep ((Below.refl lo wr).alloc (by omega) x)) (m4.alloc (by omega) x)
theorem ImO.drew (h : ImO M w lo hi g t f L base i N A j c wr) : ImO M w lo hi g t f L base i N A j c wr.drew := h.to (fun _ _ _ => rfl) (Nat.le_refl _) h.mem.1 h.mem.2.1.drew h.mem.2.2.drew
theorem ImO.ch (h : ImO M w lo hi g t f L base i N A j c wr) (ho : Out lo hi wr w') (hT : Tm M g t f N' w') : ImO M w lo hi g t f L base i N' A j c w' := by
  obtain ⟨m1, m2, m4⟩ := h.mem
  have z := h.sz
  exact h.to (fun b h1 hb => ho.block b hb (.inr h1)) ho.size hT (m2.out ho (by omega)) (Out.below m4 ho (by omega))
theorem ImO.after {w5 : World} (h : ImO M w lo hi g t f L base i N A j c wr) (hiL : i < L) (hgr : wr.grownBy w5 (Value.slice A j c).ownBlock) : w5.cell? ⟨hi, i, none⟩ = some (.slice A j c) ∧ w5.frozen? ⟨hi, i, none⟩ = false := by
  have z := h.sz
  have hc := h.cell hiL
  have hb := grown_below hgr (fun b e => (own_in h.own b e).1) (by omega)
  exact ⟨(hb.cell (p := ⟨hi, i, none⟩) (by show hi < _; omega)).trans hc.1, (hb.frozen (p := ⟨hi, i, none⟩) (by show hi < _; omega)).trans hc.2⟩
/-- a share more -/
theorem ImO.app {v : Int} {x y : Int} {g5 c5 : Nat} {w5 : World} (h : ImO M w lo hi g t f L base i N A j c wr) (hiL : i < L) (hg5 : Gs w5 base (.slice (some ⟨g5, 0, none⟩) (j + 1) c5) (j + 1) (rowL M (i + 1) j ++ [x, y])) (hgr : wr.grownBy w5 (Value.slice A j c).ownBlock)
    (hv : M.ch (i + 1) (j + 1) 0 = some v) (hx : x = sN v) (hy : y = sD v) : ImO M w lo hi g t f L base i N (some ⟨g5, 0, none⟩) (j + 1) c5 (w5.setCell ⟨hi, i, none⟩ (.slice (some ⟨g5, 0, none⟩) (j + 1) c5)) := by
  have z := h.sz
  obtain ⟨G, C, a1, a2, a3, a4, a5, a6, a7, a8, a9⟩ := h
  have hob := fun b e => (own_in a3 b e).1
  have hb := grown_below hgr hob (by omega)
  have hz := hgr.size
  obtain ⟨q1, q2, q3, q4, q5, q6, _⟩ := a6.2.1
  have hs : ∀ b, ¬ b = hi → (w5.setCell ⟨hi, i, none⟩ (.slice (some ⟨g5, 0, none⟩) (j + 1) c5)).heap[b]? = w5.heap[b]? := fun b e => Deep.blk_setCell_other _ _ _ _ e
  have hsz : (w5.setCell ⟨hi, i, none⟩ (.slice (some ⟨g5, 0, none⟩) (j + 1) c5)).heap.size = w5.heap.size := by simp
  have hr : rowL M (i + 1) (j + 1) = rowL M (i + 1) j ++ [x, y] := by rw [rowL, hv, hx, hy]; rfl
  refine ⟨G, C, ((a1.of_block (hb.block _ (by omega))).set i _).congr (fun k hk => ?_), a2.to (Nat.le_refl _) (fun k hk => ?_), ?_, (a4.keep hb (by omega) (by omega) (by omega)).set (by omega) (by omega) (by omega) _ _, (a5.keep (hb.mono (by omega))).keep ((Below.refl lo w5).setCell (by show lo ≤ hi; omega) _), ⟨a6.1, a6.2.1, a6.2.2.1, by omega⟩, (a7.trans (hb.mono (by omega))).setCell (by show _ ≤ hi; omega) _, a8, by rw [okR, a9, hv]; rfl⟩
  · by_cases e : k = i
    · subst e; simp [tcell]
    · simp only [tcell, if_neg e]
  · have := a2.1 k hk
    rw [hs _ (by omega)]
    exact hb.block _ (by omega)
  · rw [hr]
    exact own_blk hg5 (fun b e => hs b (by have := own_in hg5 b e; omega))
/-- a row is done -/
theorem ImO.row (h : ImO M w lo hi g t f L base i N A L c wr) (hL0 : 0 < L) : ImO M w lo hi g t f L wr.heap.size (i + 1) N none 0 0 wr := by
  have z := h.sz
  obtain ⟨G, C, a1, a2, a3, a4, a5, a6, a7, a8, a9⟩ := h
  obtain ⟨gr, c', hv, g1, g2, hrow⟩ := a3.fin hL0
  refine ⟨_, fun j => if j = i then c' else C j, a1.congr (fun k hk => ?_), (a2.step (hrow : RowN wr gr (gr + 1) 30 (some ⟨gr, 0, none⟩) (L * 2) (icell .i64 (rowL M (i + 1) L))) g1 g2 (by omega)) |> fun q => ⟨fun k hk => ?_, q.2⟩, ⟨rfl, .inl ⟨rfl, rfl⟩⟩, a4, a5, ⟨a6.1, a6.2.1, by omega, Nat.le_refl _⟩, a7, by rw [okT, a8, a9]; rfl, rfl⟩
  · simp only [tcell]
    by_cases e1 : k < i
    · rw [if_pos e1, if_pos (by omega)]
      simp only [rowsV, if_neg (show ¬ k = i by omega)]
    · rw [if_neg e1]
      by_cases e2 : k = i
      · rw [if_pos e2, if_pos (by omega)]
        simp only [rowsV, if_pos e2]
        exact hv
      · rw [if_neg e2, if_neg (by omega)]
        split <;> rfl
  · have := q.1 k hk
    by_cases e : k = i
    · subst e
      simpa using this
    · simpa only [if_neg e] using this
theorem ImO.fin (h : ImO M w lo hi g t f L base L N A j c wr) (hL0 : 0 < L) : okT M L L = true ∧ Rss wr w.heap.size wr.heap.size (some ⟨hi, 0, none⟩) L L (fun i => icell .i64 (rowL M (i + 1) L)) := by
  have z := h.sz
  obtain ⟨G, C, a1, a2, a3, a4, a5, a6, a7, a8, a9⟩ := h
  refine ⟨a8, .inr ⟨hi, G, C, rfl, by omega, (RowN.of_row a1 (Nat.le_refl _) (Nat.lt_succ_self _)).congr (fun k hk => by simp only [tcell, if_pos hk, rowsV]), fun k hk => ?_, a2.2⟩⟩
  have := a2.1 k hk
  exact ⟨this.1, by omega, by omega, by omega⟩
end
theorem make_ss (n : Nat) (hn : n ≤ 9) (W : World) : (Instr.makeSlice 51 (.int .i64 (n : Int)) (.int .i64 (n : Int))).run Try.prog W = .ok (.slice (some ⟨W.heap.size, 0, none⟩) n n) (W.alloc (.cells (madeCells #[.slice none 0 0] n) 63)) :=
  run_make_row' (P := Try.prog) 51 63 (.slice none 0 0) 24 Try.underlying51 info_ss1 rfl .i64 .i64 n (by omega) (by omega) W
set_option maxRecDepth 16000 in
set_option maxHeartbeats 3200000 in
theorem impl_MatchTable_any (M : Mm) (len : Int) (w : World) (hA : M.at w w.heap.size) (hs : M.sz) :
    Calls Try.prog 37 #[M.V, .int .i64 len] w fun e w' => MtPost M len w e w' := by
  have hb0 := (Below.refl w.heap.size w).alloc (Nat.le_refl _) (.cells #[.slice M.a M.n M.c, .slice M.b M.m M.d, .slice M.e M.p M.f] 26)
  have HB := Lib.hid hb0
  have HA := Lib.hid (hA.keep hb0)
  have RM := Lib.hid (three_new w (.slice M.a M.n M.c) (.slice M.b M.m M.d) (.slice M.e M.p M.f) 26)
  obtain ⟨K, hK⟩ : ∃ K, M.good = K := ⟨_, rfl⟩
  have HK := Lib.hid hK
  have GA := Lib.hid hA
  clear hb0 hK hA
  go_enter Try.func37, Try.ntmps37
  go_wp2_with fail
  refine (impl_mm M _ (HA.out.more HB.out.size) hs K HK.out).mono ?_
  rintro e w1 ⟨rfl, hb1⟩
  have z1 := hb1.size
  simp only [World.size_alloc] at z1
  have B1 := Lib.hid (HB.out.trans (hb1.mono HB.out.size))
  have A1 := Lib.hid (HA.out.keep (hb1.mono HB.out.size))
  have M1 := Lib.hid (rowIs_below RM.out hb1 RM.out.lt)
  obtain ⟨m0, m1, m2⟩ := three_cells M1.out
  clear hb1
  cases K
  · have HV := Lib.hid (mtbC_0 (len := len) HK.out)
    go_wp2_with fail
    go_ret2
    exact MtPost.no rfl HV.out (by decide) B1.out
  · obtain ⟨S, hS⟩ : ∃ S, wB len 1 9 = S := ⟨_, rfl⟩
    have HS := Lib.hid hS
    clear hS
    go_wp2_with fail
    refine (within_any len 1 9 _).mono ?_
    rw [HS.out]
    rintro e w2 ⟨rfl, rfl⟩
    cases S
    · have HV := Lib.hid (mtbC_1 HK.out HS.out)
      go_wp2_with fail
      go_ret2
      exact MtPost.no rfl HV.out (by decide) B1.out
    · obtain ⟨l1, l9⟩ := wB_true.1 HS.out
      obtain ⟨L, rfl⟩ := Int.eq_ofNat_of_zero_le (show 0 ≤ len by omega)
      have hM := Mm.good_ok HK.out GA.out
      go_wp2_with fail
      refine (newMatch_any M _).mono ?_
      rintro e w2 ⟨g, t, f, rfl, hL, hT, hb2⟩
      have z2 := hb2.size
      have B2 := B1.out.trans (hb2.mono B1.out.size)
      have A2 := (A1.out.keep (hb2.mono B1.out.size)).more B1.out.size
      have HL := Lib.hid hL
      have hl9 : L ≤ 9 := by omega
      have hmk := make_ss L hl9
      obtain ⟨lq1, lq2, lq3, lq4, lq5, lq6, _⟩ := hL
      have S0 : Hid (ImO M w w1.heap.size w2.heap.size g t f L (w2.heap.size + 1) 0 0 none 0 0 (w2.alloc (.cells (madeCells #[.slice none 0 0] L) 63))) :=
        Lib.hid ⟨fun _ => 0, fun _ => 0, (World.rowIs_made w2 (.slice none 0 0) L 63).congr (fun k hk => by simp only [tcell, if_neg (Nat.not_lt_zero k)]; split <;> rfl), ⟨fun j hj => absurd hj (by omega), fun j k hj => absurd hj (by omega)⟩, ⟨rfl, .inl ⟨rfl, rfl⟩⟩, hT.alloc _, A2.keep ((Below.refl _ _).alloc (by omega) _), ⟨by omega, HL.out, by omega, by simp⟩, B2.alloc (by omega) _, rfl, rfl⟩
      have IMC := Lib.hid (chance_any M hM w1.heap.size w2.heap.size g t f HL.out z2 18)
      have hg18 := gB_18
      have HG18 := Lib.hid hg18
      clear hT hb2 m0 m1 m2 A2 B2 lq1 lq2 lq3 lq4 lq5 lq6 A1 M1 hg18
      go_wp2_with fail
      go_loopw [24] (fun a wr => ∃ (i base N : Nat), i ≤ L ∧ N ≤ 9 * i * 2573485501354569 ∧ a = .int .i64 (i : Int) ∧ Hid (ImO M w w1.heap.size w2.heap.size g t f L base i N none 0 0 wr)) (fun a _ => L - (intOf a).toNat)
      case atStart => exact ⟨0, _, 0, Nat.zero_le _, Nat.zero_le _, rfl, S0⟩
      case round =>
        obtain ⟨i, base, N, hiL, hN, rfl, HO⟩ := hrel
        obtain ⟨wo, hwo⟩ : ∃ wo, wo = wr := ⟨_, rfl⟩
        subst hwo
        by_cases hlt : i < L
        · have hd : decide ((i : Int) < (L : Int)) = true := decide_eq_true (by omega)
          have hzo := HO.out.sz
          go_wp2_with fail
          go_loopw [28] (fun b wr => ∃ (j N c : Nat) (A : Option Addr), j ≤ L ∧ N ≤ (9 * i + j) * 2573485501354569 ∧ b = .int .i64 (j : Int) ∧ Hid (ImO M w w1.heap.size w2.heap.size g t f L base i N A j c wr)) (fun b _ => L - (intOf b).toNat)
          case atStart => exact ⟨0, _, _, _, Nat.zero_le _, by omega, rfl, HO⟩
          case round =>
            obtain ⟨j, N, c, A, hjL, hN, rfl, HO⟩ := hrel
            have hzi := HO.out.sz
            by_cases hlt2 : j < L
            · obtain ⟨m1, m2, m4⟩ := HO.out.mem
              have CH := Lib.hid (ImC.int IMC.out ((i : Int) + 1) ((j : Int) + 1) 0 N wr (by omega) (by omega) (by omega) (by omega) (by omega) (by omega) (by omega) m2 m1 (by omega) (by have := HG18.out; omega))
              have BB := Lib.hid m4
              clear m1 m2 m4
              go_wp2_with fail
              refine CH.out.mono ?_
              rintro e w3 ⟨x, y, ok, rfl, hT3, ho3, h31, h32⟩
              have z3 := ho3.size
              have HN2 : N + gB 18 ≤ (9 * i + (j + 1)) * 2573485501354569 := by have := HG18.out; omega
              have HO3 := Lib.hid ((HO.out.ch ho3 hT3).alloc (.cells #[.int .i64 x, .int .i64 y] 30))
              obtain ⟨N3, hN3⟩ : ∃ N3, N + gB 18 = N3 := ⟨_, rfl⟩
              rw [hN3] at HN2 HO3
              have H31 := Lib.hid (fun e => show ∃ v, M.ch (i + 1) (j + 1) 0 = some v ∧ x = sN v ∧ y = sD v from h31 e)
              have H32 := Lib.hid (fun e => show M.ch (i + 1) (j + 1) 0 = none from h32 e)
              have x0 := new_cell w3 #[.int .i64 x, .int .i64 y] 30 0
              have x1 := new_cell w3 #[.int .i64 x, .int .i64 y] 30 1
              have X0 := Lib.hid (show (w3.alloc (.cells #[.int .i64 x, .int .i64 y] 30)).cell? ⟨w3.heap.size, 0, none⟩ = some (.int .i64 x) from x0)
              have X1 := Lib.hid (show (w3.alloc (.cells #[.int .i64 x, .int .i64 y] 30)).cell? ⟨w3.heap.size, 1, none⟩ = some (.int .i64 y) from x1)
              clear HO CH hT3 ho3 h31 h32 x0 x1 hN3
              cases ok
              · have HV := Lib.hid (mtbC_2 HK.out HS.out (okT_no (i := i) (okR_no (j := j) (H32.out rfl) L hlt2) L hlt))
                have hbf := Lib.hid HO3.out.mem.2.2
                clear HO3
                go_wp2_with fail
                go_ret2
                exact MtPost.no rfl HV.out (by decide) hbf.out
              · obtain ⟨W0, hW0⟩ : ∃ W, w3.alloc (.cells #[.int .i64 x, .int .i64 y] 30) = W := ⟨_, rfl⟩
                have zW : w3.heap.size < W0.heap.size := by rw [← hW0]; simp
                have HW0 := Lib.hid hW0
                rw [hW0] at HO3 X0 X1
                clear hW0
                go_wp2_with fail
                rw [HW0.out]
                have HD := Lib.hid HO3.out.drew
                have c0 := (HO3.out.cell hlt).1
                have x0 := X0.out
                have x1 := X1.out
                have HA := Lib.hid (HO3.out.drew.alloc (.cells #[.int .i64 x, .int .i64 y] 30))
                have Y0 := Lib.hid (new_cell W0.drew #[.int .i64 x, .int .i64 y] 30 0)
                have Y1 := Lib.hid (new_cell W0.drew #[.int .i64 x, .int .i64 y] 30 1)
                have hzw := HO3.out.sz
                obtain ⟨v, hv, hvx, hvy⟩ := H31.out (by first | trivial | rfl)
                have HV := Lib.hid hv
                have HVX := Lib.hid hvx
                have HVY := Lib.hid hvy
                clear hv hvx hvy
                go_region_law ((refine step_app_share rfl (.tmp 47) (.tmp 49) rfl rfl HA.out.own x y W0.heap.size rfl Y0.out Y1.out (by omega) (by simp; omega) ?_; intro v5 w5 hg5 hgr5; obtain ⟨g5, c5, rfl, hg51, hg52, _⟩ := hg5.fin (by omega); have HG5 := Lib.hid hg5; have HGR := Lib.hid (show (W0.drew.alloc (.cells #[.int .i64 x, .int .i64 y] 30)).grownBy w5 (Value.slice A j c).ownBlock from hgr5); clear hg5 hgr5; obtain ⟨cz, fz⟩ := HA.out.after hlt HGR.out))
                all_goals
                  have HF := Lib.hid (HA.out.app hlt HG5.out HGR.out HV.out HVX.out HVY.out)
                  clear HG5 HGR cz fz c0 x0 x1
                  go_wp2_with fail
                  go_roundw
                  case rel => exact ⟨j + 1, N3, c5, _, by omega, HN2, by go_num, HF⟩
                  case measure => simp [intOf]; omega
            · obtain rfl : j = L := by omega
              have HO2 := Lib.hid (HO.out.row (by omega))
              clear HO
              go_wp2_with fail
              go_roundw
              case rel => exact ⟨i + 1, _, N, by omega, Nat.le_trans hN (Nat.mul_le_mul_right _ (by omega)), by go_num, HO2⟩
              case measure => simp [intOf]; omega
        · obtain rfl : i = L := by omega
          obtain ⟨ho1, ho2⟩ := HO.out.fin (by omega)
          have HV := Lib.hid (mtbC_3 HK.out HS.out ho1)
          have HR := Lib.hid ho2
          have B5 := Lib.hid HO.out.mem.2.2
          clear ho1 ho2 HO
          go_wp2_with fail
          go_ret2
          have hn : mtbN M (i : Int) = i := by unfold mtbN; rw [if_pos HV.out]; rfl
          refine ⟨some ⟨w2.heap.size, 0, none⟩, i, by rw [hn, HV.out]; rfl, ?_, B5.out⟩
          rw [hn]
          exact HR.out
end Go.Proofs.Ytkioliioakmepaa
