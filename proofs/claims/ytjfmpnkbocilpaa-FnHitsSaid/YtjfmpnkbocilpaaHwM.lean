/-
  Lists of steps and lists of plays in memory: how they are read, how they grow, what keeps them.
-/
import Derived.Test.YtjfmpnkbocilpaaHwA
import Derived.Test.YtjfmpnkbocilpaaHwT
import Derived.Deep.AppendLies
import Derived.Deep.Heap
namespace Go.Proofs.Ytjfmpnkbocilpaa
open Go.ChangeShapes Go.WideShapes Go.ChangeAt Go.RowKit
set_option linter.unusedVariables false

/-! generic: own rows of any type -/
section
variable {w w' : World} {base base' : Nat} {t t' : TypeId} {sz : Nat} {v : Value} {n : Nat} {vs : List Value}
theorem ow_blk (h : w.ownsRow base t sz v n vs) (hk : ∀ b, v.ownBlock = some b → w'.heap[b]? = w.heap[b]?) : w'.ownsRow base t sz v n vs := by
  obtain ⟨h0, h1 | ⟨g', cap', cur, h1, h2, h3, h4⟩⟩ := h
  · exact ⟨h0, .inl h1⟩
  · exact ⟨h0, .inr ⟨g', cap', cur, h1, h2, (hk g' (by rw [h1]; rfl)).trans h3, h4⟩⟩
theorem ow_in (h : w.ownsRow base t sz v n vs) : ∀ b, v.ownBlock = some b → base ≤ b ∧ b < w.heap.size ∧ ∃ cs, w.heap[b]? = some (.cells cs t (0, 0)) := by
  intro b hb
  obtain ⟨h0, ⟨h1, h2⟩ | ⟨g', cap', cur, h1, h2, h3, h4⟩⟩ := h
  · rw [h1] at hb; cases hb
  · rw [h1] at hb
    have e : g' = b := by simpa [Value.ownBlock] using hb
    subst e
    refine ⟨h2, ?_, cur, h3⟩
    rcases Nat.lt_or_ge g' w.heap.size with h | h
    · exact h
    · rw [Array.getElem?_eq_none h] at h3; cases h3
theorem ow_below (h : w.ownsRow base t sz v n vs) (hb : Below w.heap.size w w') : w'.ownsRow base t sz v n vs := ow_blk h fun b e => hb.block b (ow_in h b e).2.1
theorem ow_alloc (h : w.ownsRow base t sz v n vs) (o : Obj) : (w.alloc o).ownsRow base t sz v n vs := ow_below h ((Below.refl _ _).alloc (Nat.le_refl _) o)
theorem ow_grown (h : w.ownsRow base t sz v n vs) {r : Option Nat} (hg : w.grownBy w' r) (hr : ∀ b, r = some b → b < base) : w'.ownsRow base t sz v n vs :=
  ow_blk h fun b e => hg.block b (ow_in h b e).2.1 (fun e' => by have := hr b e'.symm; have := (ow_in h b e).1; omega)
theorem ow_lower (h : w.ownsRow base t sz v n vs) (hb : base' ≤ base) : w.ownsRow base' t sz v n vs := by
  obtain ⟨h0, h1 | ⟨g', cap', cur, h1, h2, h3⟩⟩ := h
  · exact ⟨h0, .inl h1⟩
  · exact ⟨h0, .inr ⟨g', cap', cur, h1, Nat.le_trans hb h2, h3⟩⟩
theorem ow_out (h : w.ownsRow base t sz v n vs) : ∃ a c, v = .slice a n c ∧ n ≤ c ∧ RowN w base w.heap.size t a (n * sz) (fun i => vs.getD i undef) := by
  have h' := h
  obtain ⟨h0, ⟨h1, h2⟩ | ⟨g', cap', cur, h1, h2, h3, h4, h5⟩⟩ := h
  · subst h2; exact ⟨none, 0, h1, Nat.le_refl _, .inl (Nat.zero_mul _)⟩
  · subst h1; exact ⟨_, _, rfl, h4, RowN.of_own h'⟩
theorem ow_shape (h : w.ownsRow base t sz v n vs) (h0 : 0 < n) : ∃ g c, v = .slice (some ⟨g, 0, none⟩) n c ∧ base ≤ g ∧ g < w.heap.size := by
  obtain ⟨_, ⟨h1, h2⟩ | ⟨g', cap', cur, h1, h2, h3, h4⟩⟩ := h
  · omega
  · refine ⟨g', cap', h1, h2, ?_⟩
    rcases Nat.lt_or_ge g' w.heap.size with h | h
    · exact h
    · rw [Array.getElem?_eq_none h] at h3; cases h3
theorem ow_nil (w : World) (base : Nat) (t : TypeId) (sz : Nat) : w.ownsRow base t sz (.slice none 0 0) 0 [] := World.ownsRow_nil _ _ _ _
theorem ow_new (w : World) (base : Nat) (t : TypeId) (sz : Nat) (hb : base ≤ w.heap.size) : (w.alloc (.cells #[] t)).ownsRow base t sz (.slice (some ⟨w.heap.size, 0, none⟩) 0 0) 0 [] :=
  World.ownsRow_lit w #[] 0 hb (Nat.zero_le _) (by simp)
theorem grown_below' {r : Option Nat} {w0 : World} {B : Nat} (h : Below B w0 w) (hg : w.grownBy w' r) (hr : ∀ b, r = some b → B ≤ b) (hz : B ≤ w.heap.size) : Below B w0 w' :=
  h.grown hg hz hr
end
/-- rows that may lie anywhere are kept if only a block of another kind turns -/
theorem rown_ty {w w' : World} {lo hi m : Nat} {t : TypeId} {a : Option Addr} {f : Nat → Value} (h : RowN w lo hi t a m f) {r : Option Nat} (hg : w.grownBy w' r) (hr : ∀ b, r = some b → ∀ cs fz, w.heap[b]? ≠ some (.cells cs t fz)) : RowN w' lo hi t a m f := by
  rcases h with h | ⟨g, h1, h2, h2', N, F, h3, h4, h5⟩
  · exact .inl h
  · refine .inr ⟨g, h1, h2, h2', N, F, h3, h4.of_block (hg.block g h4.lt (fun e => ?_)), h5⟩
    obtain ⟨cs, hb, _⟩ := h4
    exact hr g e.symm _ _ hb
theorem rown_bel {w w' : World} {lo hi m B : Nat} {t : TypeId} {a : Option Addr} {f : Nat → Value} (h : RowN w lo hi t a m f) (hb : Below B w w') (hB : hi ≤ B) : RowN w' lo hi t a m f := by
  rcases h with h | ⟨g, h1, h2, h2', N, F, h3, h4, h5⟩
  · exact .inl h
  · exact .inr ⟨g, h1, h2, h2', N, F, h3, rowIs_below h4 hb (by omega), h5⟩
/-- append of m elements to an own row -/
theorem app_row {ops : Array Oper} {rest : List Oper} {o : Oper} {a : Act} {Q : Exit → Act → World → Prop} {w : World} {base n : Nat} {v : Value} {vs : List Value} (hgd : o.guard = none) (s x : Operand) (t e : TypeId) (z : Value) (size bytes : Nat)
    (ho : o.op = .call { callee := .builtin .append, args := #[s, x], argTypes := #[t, t] }) (ht : Try.prog.underlying t = some (.slice e)) (hinfo : (Try.prog.info? e).map (fun i => (i.zero, i.size, i.bytes)) = some (some z, size, bytes)) (hzs : z.cells.size = size) (hsz : 0 < size) (hby : bytes ≤ 1024)
    (hs : a.eval s = v) (hown : w.ownsRow base e size v n vs) (ad : Addr) (m c : Nat) (news : List Value) (hx : a.eval x = .slice (some ad) m c) (hl : news.length = m * size) (hnews : ∀ j u, news[j]? = some u → w.cell? (ad.add j) = some u) (h1 : ∀ u ∈ news, u.oneCell' = true) (hn : n + m ≤ 8388608) (hbase : base ≤ w.heap.size)
    (h : ∀ v' w', w'.ownsRow base e size v' (n + m) (vs ++ news) → w.grownBy w' v.ownBlock → wpList Try.prog ops Q rest (a.put o.dst v') w') : wpList Try.prog ops Q (o :: rest) a w := by
  obtain ⟨i, hi, hz, hsize, hb⟩ := info_parts hinfo
  refine wpList_append_own _ hgd s x t ho base e i z size bytes ht hi hz hsize hb hzs hsz v n _ hs hown ad m c news hx hl hnews h1 (by unfold maxLen; omega) ?_ hbase ?_
  · have : (n + m) * bytes ≤ 8388608 * 1024 := Nat.mul_le_mul hn hby
    omega
  · intro v' w' hv' hg' _
    exact h v' w' hv' hg'
theorem step_app_row {ops : Array Oper} {o : Oper} {a : Act} {K : Act → World → Prop} {Q : Exit → Act → World → Prop} {E : Prop} {w : World} {base n : Nat} {v : Value} {vs : List Value} (hgd : o.guard = none) (s x : Operand) (t e : TypeId) (z : Value) (size bytes : Nat)
    (ho : o.op = .call { callee := .builtin .append, args := #[s, x], argTypes := #[t, t] }) (ht : Try.prog.underlying t = some (.slice e)) (hinfo : (Try.prog.info? e).map (fun i => (i.zero, i.size, i.bytes)) = some (some z, size, bytes)) (hzs : z.cells.size = size) (hsz : 0 < size) (hby : bytes ≤ 1024)
    (hs : a.eval s = v) (hown : w.ownsRow base e size v n vs) (ad : Addr) (m c : Nat) (news : List Value) (hm : 0 < m) (hx : a.eval x = .slice (some ad) m c) (hl : news.length = m * size) (hnews : ∀ j u, news[j]? = some u → w.cell? (ad.add j) = some u) (h1 : ∀ u ∈ news, u.oneCell' = true) (hn : n + m ≤ 8388608) (hbase : base ≤ w.heap.size)
    (h : ∀ g cap w', w'.ownsRow base e size (.slice (some ⟨g, 0, none⟩) (n + m) cap) (n + m) (vs ++ news) → w.grownBy w' v.ownBlock → (v.ownBlock = some g ∨ g = w.heap.size) → g < w'.heap.size → K (a.put o.dst (.slice (some ⟨g, 0, none⟩) (n + m) cap)) w') :
    if Region.wanted o (yielded ops a.tmps) = true then Oper.wp Try.prog o a w K Q else E := by
  obtain ⟨i, hi, hz, hsize, hb⟩ := info_parts hinfo
  refine step_append_lies _ hgd s x t ho base e i z size bytes ht hi hz hsize hb hzs hsz v n _ hs hown ad m c news hx hl hnews h1 hm (by unfold maxLen; omega) ?_ hbase w.heap.size rfl h
  have : (n + m) * bytes ≤ 8388608 * 1024 := Nat.mul_le_mul hn hby
  omega
/-- the flat list of cells of records -/
theorem flat_len {α : Type} (f : α → List Value) (sz : Nat) (hf : ∀ x, (f x).length = sz) : ∀ l : List α, (l.flatMap f).length = l.length * sz
  | [] => by simp
  | x :: l => by rw [List.flatMap_cons, List.length_append, hf, flat_len f sz hf l, List.length_cons, Nat.succ_mul]; omega
theorem flat_at {α : Type} (f : α → List Value) (sz : Nat) (hf : ∀ x, (f x).length = sz) (d : α) : ∀ (l : List α) (k j : Nat), k < l.length → j < sz → (l.flatMap f).getD (k * sz + j) undef = (f (l.getD k d)).getD j undef
  | [], k, j, hk, _ => absurd hk (by simp)
  | x :: l, 0, j, _, hj => by
    rw [List.flatMap_cons, Nat.zero_mul, Nat.zero_add, List.getD_eq_getElem?_getD, List.getElem?_append_left (by rw [hf]; exact hj)]
    rfl
  | x :: l, k + 1, j, hk, hj => by
    have h := flat_at f sz hf d l k j (by simpa using hk) hj
    rw [List.flatMap_cons, List.getD_eq_getElem?_getD, Nat.succ_mul, List.getElem?_append_right (by rw [hf]; omega), hf, show k * sz + sz + j - sz = k * sz + j from by omega]
    rw [List.getD_eq_getElem?_getD] at h
    rw [h]; rfl
theorem flat_app1 {α : Type} (f : α → List Value) (l : List α) (x : α) : (l ++ [x]).flatMap f = l.flatMap f ++ f x := by simp
/-! steps -/
def stC (s : St) : List Value := [.int .i64 s.fr, .int .i64 s.to, .int .i64 s.die, .bool s.hit]
theorem stC_len (s : St) : (stC s).length = 4 := rfl
def st0 : St := ⟨0, 0, 0, false⟩
theorem stC_one (s : St) : ∀ u ∈ stC s, u.oneCell' = true := by
  intro u hu
  simp [stC] at hu
  rcases hu with rfl | rfl | rfl | rfl <;> rfl
/-- a list of steps in own memory -/
def StsO (w : World) (base : Nat) (v : Value) (l : List St) : Prop := w.ownsRow base 72 4 v l.length (l.flatMap stC)
/-- a list of steps that can be read -/
def StsR (w : World) (hi : Nat) (a : Option Addr) (n : Nat) (l : List St) : Prop := n = l.length ∧ RowN w 0 hi 72 a (n * 4) (fun i => (l.flatMap stC).getD i undef)
theorem StsO.out {w : World} {base : Nat} {v : Value} {l : List St} (h : StsO w base v l) : ∃ a c, v = .slice a l.length c ∧ StsR w w.heap.size a l.length l := by
  obtain ⟨a, c, e, _, hr⟩ := ow_out h
  exact ⟨a, c, e, rfl, hr.wide (Nat.zero_le _) (Nat.le_refl _)⟩
theorem StsR.bel {w w' : World} {hi B : Nat} {a : Option Addr} {n : Nat} {l : List St} (h : StsR w hi a n l) (hb : Below B w w') (hB : hi ≤ B) : StsR w' hi a n l := ⟨h.1, rown_bel h.2 hb hB⟩
theorem StsR.ty {w w' : World} {hi : Nat} {a : Option Addr} {n : Nat} {l : List St} (h : StsR w hi a n l) {r : Option Nat} (hg : w.grownBy w' r) (hr : ∀ b, r = some b → ∀ cs fz, w.heap[b]? ≠ some (.cells cs 72 fz)) : StsR w' hi a n l := ⟨h.1, rown_ty h.2 hg hr⟩
theorem StsR.more {w : World} {hi hi' : Nat} {a : Option Addr} {n : Nat} {l : List St} (h : StsR w hi a n l) (hh : hi ≤ hi') : StsR w hi' a n l := ⟨h.1, h.2.wide (Nat.le_refl _) hh⟩
theorem StsR.at {w : World} {hi : Nat} {a : Option Addr} {n : Nat} {l : List St} (h : StsR w hi a n l) {k : Nat} (hk : k < n) : ∃ g, a = some ⟨g, 0, none⟩ ∧ g < hi ∧ g < w.heap.size ∧
    w.cell? ⟨g, k * 4, none⟩ = some (.int .i64 (l.getD k st0).fr) ∧ w.cell? ⟨g, k * 4 + 1, none⟩ = some (.int .i64 (l.getD k st0).to) ∧ w.cell? ⟨g, k * 4 + 2, none⟩ = some (.int .i64 (l.getD k st0).die) ∧ w.cell? ⟨g, k * 4 + 3, none⟩ = some (.bool (l.getD k st0).hit) := by
  obtain ⟨hn, hr⟩ := h
  obtain ⟨g, rfl, _, hg, hz, hc⟩ := hr.blk (by omega)
  have c : ∀ j, j < 4 → w.cell? ⟨g, k * 4 + j, none⟩ = some ((stC (l.getD k st0)).getD j undef) := fun j hj => by
    rw [(hc (k * 4 + j) (by omega)).1, flat_at stC 4 stC_len st0 l k j (by omega) hj]
  exact ⟨g, rfl, hg, hz, c 0 (by omega), c 1 (by omega), c 2 (by omega), c 3 (by omega)⟩
theorem info_step : (Try.prog.info? 72).map (fun i => (i.zero, i.size, i.bytes)) = some (some (.agg #[.int .i64 0, .int .i64 0, .int .i64 0, .bool false]), 4, 32) := by kernel_rfl
theorem st_news {w : World} {b : Nat} {s : St} (h : w.rowIs b 72 4 (vr4 (.int .i64 s.fr) (.int .i64 s.to) (.int .i64 s.die) (.bool s.hit))) : ∀ j u, (stC s)[j]? = some u → w.cell? ((⟨b, 0, none⟩ : Addr).add j) = some u := by
  obtain ⟨c0, c1, c2, c3⟩ := vr4_cells h
  intro j u hj
  match j, hj with
  | 0, hj => simp [stC] at hj; subst hj; simpa [Addr.add] using c0
  | 1, hj => simp [stC] at hj; subst hj; simpa [Addr.add] using c1
  | 2, hj => simp [stC] at hj; subst hj; simpa [Addr.add] using c2
  | 3, hj => simp [stC] at hj; subst hj; simpa [Addr.add] using c3
  | j + 4, hj => simp [stC] at hj
/-- append of one step -/
theorem app_st {ops : Array Oper} {rest : List Oper} {o : Oper} {a : Act} {Q : Exit → Act → World → Prop} {w : World} {base : Nat} {v : Value} {l : List St} (hgd : o.guard = none) (s x : Operand)
    (ho : o.op = .call { callee := .builtin .append, args := #[s, x], argTypes := #[58, 58] })
    (hs : a.eval s = v) (hown : StsO w base v l) (b : Nat) (hx : a.eval x = .slice (some ⟨b, 0, none⟩) 1 1) (st : St) (h0 : w.rowIs b 72 4 (vr4 (.int .i64 st.fr) (.int .i64 st.to) (.int .i64 st.die) (.bool st.hit))) (hn : l.length ≤ 1000) (hbase : base ≤ w.heap.size)
    (h : ∀ v' w', StsO w' base v' (l ++ [st]) → w.grownBy w' v.ownBlock → wpList Try.prog ops Q rest (a.put o.dst v') w') : wpList Try.prog ops Q (o :: rest) a w := by
  refine app_row hgd s x 58 72 _ 4 32 ho Try.underlying58 info_step rfl (by omega) (by omega) hs hown ⟨b, 0, none⟩ 1 1 (stC st) hx rfl (st_news h0) (stC_one st) (by omega) hbase ?_
  intro v' w' hv' hg'
  refine h v' w' ?_ hg'
  unfold StsO
  rw [flat_app1, List.length_append]
  exact hv'
end Go.Proofs.Ytjfmpnkbocilpaa
