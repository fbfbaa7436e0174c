/-
  Lists of plays in memory; the map of the boards that have been seen.
-/
import Derived.Test.YtjfmpnkbocilpaaHwL
import Derived.Maps.Own
import Derived.Maps.OwnSet
import Derived.Maps.Views
namespace Go.Proofs.Ytjfmpnkbocilpaa
open Go.ChangeShapes Go.WideShapes Go.ChangeAt Go.RowKit
set_option linter.unusedVariables false

theorem rown_ints {w : World} {lo hi n : Nat} {t : TypeId} {a : Option Addr} {xs : List Int} (h : RowN w lo hi t a n (icell .i64 xs)) (hl : xs.length = n) : Ints w hi .i64 a n xs := by
  rcases h with h | ⟨g, rfl, _, h2, N, F, h3, h4, h5⟩
  · exact ⟨hl, fun hn => absurd hn (by omega)⟩
  · exact ⟨hl, fun _ => ⟨g, 0, rfl, h2, fun i hi => by rw [Nat.zero_add, h4.cell (by omega), h5 i hi]; rfl⟩⟩
/-- the value of a play: three slices -/
structure Pv where
  sa : Option Addr
  sn : Nat
  sc : Nat
  oa : Option Addr
  oc : Nat
  ta : Option Addr
  tc : Nat
def pvC (N : Nat) (v : Pv) : List Value := [.slice v.sa v.sn v.sc, .slice v.oa N v.oc, .slice v.ta N v.tc]
def pvV (N : Nat) (v : Pv) : Value := .agg #[.slice v.sa v.sn v.sc, .slice v.oa N v.oc, .slice v.ta N v.tc]
theorem pvC_len (N : Nat) (v : Pv) : (pvC N v).length = 3 := rfl
def pv0 : Pv := ⟨none, 0, 0, none, 0, none, 0⟩
def pl0 : Pl := ⟨[], [], []⟩
theorem pvC_one (N : Nat) (v : Pv) : ∀ u ∈ pvC N v, u.oneCell' = true := by
  intro u hu
  simp [pvC] at hu
  rcases hu with rfl | rfl | rfl <;> rfl
/-- the slices of a play read as its steps and its board -/
structure PvOk (w : World) (hi N : Nat) (v : Pv) (p : Pl) : Prop where
  s : StsR w hi v.sa v.sn p.st
  o : RowN w 0 hi 2 v.oa N (icell .i64 p.own)
  ol : p.own.length = N
  t : RowN w 0 hi 2 v.ta N (icell .i64 p.oth)
  tl : p.oth.length = N
section
variable {w w' : World} {hi hi' B N : Nat} {v : Pv} {p : Pl}
theorem PvOk.bel (h : PvOk w hi N v p) (hb : Below B w w') (hB : hi ≤ B) : PvOk w' hi N v p := ⟨h.s.bel hb hB, rown_bel h.o hb hB, h.ol, rown_bel h.t hb hB, h.tl⟩
theorem PvOk.more (h : PvOk w hi N v p) (hh : hi ≤ hi') : PvOk w hi' N v p := ⟨h.s.more hh, h.o.wide (Nat.le_refl _) hh, h.ol, h.t.wide (Nat.le_refl _) hh, h.tl⟩
/-- block r is no row of steps and no row of integers -/
def NoSI (w : World) (r : Option Nat) : Prop := ∀ b, r = some b → ∀ cs fz, w.heap[b]? ≠ some (.cells cs 72 fz) ∧ w.heap[b]? ≠ some (.cells cs 2 fz)
theorem PvOk.ty (h : PvOk w hi N v p) {r : Option Nat} (hg : w.grownBy w' r) (hr : NoSI w r) : PvOk w' hi N v p :=
  ⟨h.s.ty hg fun b e cs fz => (hr b e cs fz).1, rown_ty h.o hg fun b e cs fz => (hr b e cs fz).2, h.ol, rown_ty h.t hg fun b e cs fz => (hr b e cs fz).2, h.tl⟩
theorem PvOk.own (h : PvOk w hi N v p) : Ints w hi .i64 v.oa N p.own := rown_ints h.o h.ol
theorem PvOk.oth (h : PvOk w hi N v p) : Ints w hi .i64 v.ta N p.oth := rown_ints h.t h.tl
end
theorem nosi_none {w : World} : NoSI w none := fun b e => by cases e
theorem nosi_cells {w : World} {b : Nat} {cs : Array Value} {t : TypeId} {fz : Nat × Nat} (hb : w.heap[b]? = some (.cells cs t fz)) (h1 : t ≠ 72) (h2 : t ≠ 2) : NoSI w (some b) := by
  intro b' e cs' fz'
  injection e with e
  subst e
  rw [hb]
  constructor
  · intro q
    injection q with q
    injection q with _ q
    exact h1 q
  · intro q
    injection q with q
    injection q with _ q
    exact h2 q
theorem nosi_map {w : World} {b : Nat} {es : Array MapEntry} {k : Nat} (hb : w.heap[b]? = some (.map es k)) : NoSI w (some b) := by
  intro b' e cs' fz'
  injection e with e
  subst e
  rw [hb]
  constructor
  · intro q
    injection q with q
    cases q
  · intro q
    injection q with q
    cases q
/-- a list of plays that can be read -/
def PlsR (w : World) (hi N : Nat) (a : Option Addr) (n : Nat) (l : List Pl) : Prop :=
  ∃ L : List Pv, L.length = n ∧ l.length = n ∧ RowN w 0 hi 70 a (n * 3) (fun i => (L.flatMap (pvC N)).getD i undef) ∧ ∀ i, i < n → PvOk w hi N (L.getD i pv0) (l.getD i pl0)
/-- a list of plays that grows in own memory -/
def PlsO (w : World) (base N : Nat) (v : Value) (l : List Pl) : Prop :=
  ∃ L : List Pv, L.length = l.length ∧ w.ownsRow base 70 3 v l.length (L.flatMap (pvC N)) ∧ ∀ i, i < l.length → PvOk w w.heap.size N (L.getD i pv0) (l.getD i pl0)
section
variable {w w' : World} {hi hi' B N n base base' : Nat} {a : Option Addr} {v : Value} {l : List Pl}
theorem PlsR.bel (h : PlsR w hi N a n l) (hb : Below B w w') (hB : hi ≤ B) : PlsR w' hi N a n l := by
  obtain ⟨L, h1, h2, h3, h4⟩ := h
  exact ⟨L, h1, h2, rown_bel h3 hb hB, fun i hi => (h4 i hi).bel hb hB⟩
theorem PlsR.more (h : PlsR w hi N a n l) (hh : hi ≤ hi') : PlsR w hi' N a n l := by
  obtain ⟨L, h1, h2, h3, h4⟩ := h
  exact ⟨L, h1, h2, h3.wide (Nat.le_refl _) hh, fun i hi => (h4 i hi).more hh⟩
theorem PlsR.len (h : PlsR w hi N a n l) : l.length = n := by obtain ⟨_, _, h2, _⟩ := h; exact h2
theorem PlsR.at (h : PlsR w hi N a n l) {k : Nat} (hk : k < n) : ∃ (g : Nat) (v : Pv), a = some ⟨g, 0, none⟩ ∧ g < hi ∧ g < w.heap.size ∧
    w.cell? ⟨g, k * 3, none⟩ = some (.slice v.sa v.sn v.sc) ∧ w.cell? ⟨g, k * 3 + 1, none⟩ = some (.slice v.oa N v.oc) ∧ w.cell? ⟨g, k * 3 + 2, none⟩ = some (.slice v.ta N v.tc) ∧ PvOk w hi N v (l.getD k pl0) := by
  obtain ⟨L, h1, h2, h3, h4⟩ := h
  obtain ⟨g, rfl, _, hg, hz, hc⟩ := h3.blk (by omega)
  have c : ∀ j, j < 3 → w.cell? ⟨g, k * 3 + j, none⟩ = some ((pvC N (L.getD k pv0)).getD j undef) := fun j hj => by
    rw [(hc (k * 3 + j) (by omega)).1, flat_at (pvC N) 3 (pvC_len N) pv0 L k j (by omega) hj]
  exact ⟨g, L.getD k pv0, rfl, hg, hz, c 0 (by omega), c 1 (by omega), c 2 (by omega), h4 k hk⟩
theorem PlsO.nil (w : World) (base N : Nat) : PlsO w base N (.slice none 0 0) [] := ⟨[], rfl, ow_nil _ _ _ _, fun i hi => absurd hi (by simp)⟩
theorem PlsO.new (w : World) (base N : Nat) (hb : base ≤ w.heap.size) : PlsO (w.alloc (.cells #[] 70)) base N (.slice (some ⟨w.heap.size, 0, none⟩) 0 0) [] := ⟨[], rfl, ow_new w base _ 3 hb, fun i hi => absurd hi (by simp)⟩
theorem PlsO.below (h : PlsO w base N v l) (hb : Below w.heap.size w w') : PlsO w' base N v l := by
  obtain ⟨L, h1, h2, h3⟩ := h
  exact ⟨L, h1, ow_below h2 hb, fun i hi => ((h3 i hi).bel hb (Nat.le_refl _)).more hb.size⟩
theorem PlsO.alloc (h : PlsO w base N v l) (o : Obj) : PlsO (w.alloc o) base N v l := h.below ((Below.refl _ _).alloc (Nat.le_refl _) o)
theorem PlsO.drew (h : PlsO w base N v l) : PlsO w.drew base N v l := h.below (show Below w.heap.size w w.drew from below_drewN (Below.refl _ _) 1)
theorem PlsO.lower (h : PlsO w base N v l) (hb : base' ≤ base) : PlsO w base' N v l := by
  obtain ⟨L, h1, h2, h3⟩ := h
  exact ⟨L, h1, ow_lower h2 hb, h3⟩
theorem PlsO.grown (h : PlsO w base N v l) {r : Option Nat} (hg : w.grownBy w' r) (hr : ∀ b, r = some b → b < base) (hs : NoSI w r) : PlsO w' base N v l := by
  obtain ⟨L, h1, h2, h3⟩ := h
  exact ⟨L, h1, ow_grown h2 hg hr, fun i hi => ((h3 i hi).ty hg hs).more hg.size⟩
theorem PlsO.in (h : PlsO w base N v l) : ∀ b, v.ownBlock = some b → base ≤ b ∧ b < w.heap.size := by
  obtain ⟨L, h1, h2, h3⟩ := h
  exact fun b e => ⟨(ow_in h2 b e).1, (ow_in h2 b e).2.1⟩
theorem PlsO.nosi (h : PlsO w base N v l) : NoSI w v.ownBlock := by
  obtain ⟨L, h1, h2, h3⟩ := h
  intro b e
  obtain ⟨_, _, cs, hc⟩ := ow_in h2 b e
  exact nosi_cells hc (by decide) (by decide) b rfl
theorem PlsO.out (h : PlsO w base N v l) : ∃ a c, v = .slice a l.length c ∧ PlsR w w.heap.size N a l.length l := by
  obtain ⟨L, h1, h2, h3⟩ := h
  obtain ⟨a, c, e, _, hr⟩ := ow_out h2
  exact ⟨a, c, e, L, h1, rfl, hr.wide (Nat.zero_le _) (Nat.le_refl _), h3⟩
end
theorem info_play : (Try.prog.info? 70).map (fun i => (i.zero, i.size, i.bytes)) = some (some (.agg #[.slice none 0 0, .slice none 0 0, .slice none 0 0]), 3, 72) := by kernel_rfl
theorem pl_news {w : World} {b N : Nat} {x : Pv} (c0 : w.cell? ⟨b, 0, none⟩ = some (.slice x.sa x.sn x.sc)) (c1 : w.cell? ⟨b, 1, none⟩ = some (.slice x.oa N x.oc)) (c2 : w.cell? ⟨b, 2, none⟩ = some (.slice x.ta N x.tc)) : ∀ j u, (pvC N x)[j]? = some u → w.cell? ((⟨b, 0, none⟩ : Addr).add j) = some u := by
  intro j u hj
  match j, hj with
  | 0, hj => simp [pvC] at hj; subst hj; simpa [Addr.add] using c0
  | 1, hj => simp [pvC] at hj; subst hj; simpa [Addr.add] using c1
  | 2, hj => simp [pvC] at hj; subst hj; simpa [Addr.add] using c2
  | j + 3, hj => simp [pvC] at hj
theorem PlsO.app {w w' : World} {base N : Nat} {v v' : Value} {l : List Pl} {L : List Pv} {x : Pv} {p : Pl} (h1 : L.length = l.length) (h2 : w.ownsRow base 70 3 v l.length (L.flatMap (pvC N))) (h3 : ∀ i, i < l.length → PvOk w w.heap.size N (L.getD i pv0) (l.getD i pl0)) (hx : PvOk w w.heap.size N x p)
    (hv : w'.ownsRow base 70 3 v' (l.length + 1) (L.flatMap (pvC N) ++ pvC N x)) (hg : w.grownBy w' v.ownBlock) : PlsO w' base N v' (l ++ [p]) := by
  have hs : NoSI w v.ownBlock := PlsO.nosi (N := N) ⟨L, h1, h2, h3⟩
  refine ⟨L ++ [x], by simp [h1], ?_, fun i hi => ?_⟩
  · rw [flat_app1, List.length_append]; exact hv
  · rw [List.length_append] at hi
    by_cases e : i < l.length
    · have a1 : (L ++ [x]).getD i pv0 = L.getD i pv0 := by rw [List.getD_eq_getElem?_getD, List.getD_eq_getElem?_getD, List.getElem?_append_left (by omega)]
      have a2 : (l ++ [p]).getD i pl0 = l.getD i pl0 := by rw [List.getD_eq_getElem?_getD, List.getD_eq_getElem?_getD, List.getElem?_append_left (by omega)]
      rw [a1, a2]
      exact ((h3 i e).ty hg hs).more hg.size
    · obtain rfl : i = l.length := by simp at hi; omega
      have a1 : (L ++ [x]).getD l.length pv0 = x := by rw [List.getD_eq_getElem?_getD, List.getElem?_append_right (by omega), h1, Nat.sub_self]; rfl
      have a2 : (l ++ [p]).getD l.length pl0 = p := by rw [List.getD_eq_getElem?_getD, List.getElem?_append_right (by omega), Nat.sub_self]; rfl
      rw [a1, a2]
      exact (hx.ty hg hs).more hg.size
/-- append of one play -/
theorem app_pl {ops : Array Oper} {rest : List Oper} {o : Oper} {a : Act} {Q : Exit → Act → World → Prop} {w : World} {base N : Nat} {v : Value} {l : List Pl} (hgd : o.guard = none) (s y : Operand)
    (ho : o.op = .call { callee := .builtin .append, args := #[s, y], argTypes := #[45, 45] })
    (hs : a.eval s = v) (hown : PlsO w base N v l) (b : Nat) (hy : a.eval y = .slice (some ⟨b, 0, none⟩) 1 1) (x : Pv) (p : Pl) (hx : PvOk w w.heap.size N x p) (c0 : w.cell? ⟨b, 0, none⟩ = some (.slice x.sa x.sn x.sc)) (c1 : w.cell? ⟨b, 1, none⟩ = some (.slice x.oa N x.oc)) (c2 : w.cell? ⟨b, 2, none⟩ = some (.slice x.ta N x.tc)) (hn : l.length ≤ 8000000) (hbase : base ≤ w.heap.size)
    (h : ∀ v' w', PlsO w' base N v' (l ++ [p]) → w.grownBy w' v.ownBlock → wpList Try.prog ops Q rest (a.put o.dst v') w') : wpList Try.prog ops Q (o :: rest) a w := by
  obtain ⟨L, h1, h2, h3⟩ := hown
  refine app_row hgd s y 45 70 _ 3 72 ho Try.underlying45 info_play rfl (by omega) (by omega) hs h2 ⟨b, 0, none⟩ 1 1 (pvC N x) hy rfl (pl_news c0 c1 c2) (pvC_one N x) (by omega) hbase ?_
  intro v' w' hv' hg'
  exact h v' w' (PlsO.app h1 h2 h3 hx hv' hg') hg'
theorem step_app_pl {ops : Array Oper} {o : Oper} {a : Act} {K : Act → World → Prop} {Q : Exit → Act → World → Prop} {E : Prop} {w : World} {base N : Nat} {v : Value} {l : List Pl} (hgd : o.guard = none) (s y : Operand)
    (ho : o.op = .call { callee := .builtin .append, args := #[s, y], argTypes := #[45, 45] })
    (hs : a.eval s = v) (hown : PlsO w base N v l) (b : Nat) (hy : a.eval y = .slice (some ⟨b, 0, none⟩) 1 1) (x : Pv) (p : Pl) (hx : PvOk w w.heap.size N x p) (c0 : w.cell? ⟨b, 0, none⟩ = some (.slice x.sa x.sn x.sc)) (c1 : w.cell? ⟨b, 1, none⟩ = some (.slice x.oa N x.oc)) (c2 : w.cell? ⟨b, 2, none⟩ = some (.slice x.ta N x.tc)) (hn : l.length ≤ 8000000) (hbase : base ≤ w.heap.size)
    (h : ∀ g cap w', PlsO w' base N (.slice (some ⟨g, 0, none⟩) (l.length + 1) cap) (l ++ [p]) → w.grownBy w' v.ownBlock → g < w'.heap.size → K (a.put o.dst (.slice (some ⟨g, 0, none⟩) (l.length + 1) cap)) w') :
    if Region.wanted o (yielded ops a.tmps) = true then Oper.wp Try.prog o a w K Q else E := by
  obtain ⟨L, h1, h2, h3⟩ := hown
  refine step_app_row hgd s y 45 70 _ 3 72 ho Try.underlying45 info_play rfl (by omega) (by omega) hs h2 ⟨b, 0, none⟩ 1 1 (pvC N x) (by omega) hy rfl (pl_news c0 c1 c2) (pvC_one N x) (by omega) hbase ?_
  intro g cap w' hv' hg' _ hz
  exact h g cap w' (PlsO.app h1 h2 h3 hx hv' hg') hg' hz
/-! the map of the boards that have been seen -/
abbrev rVb : Value → Option (DataW Value × List MemPlace) := fun v => some (.held v, [])
theorem str_keyed : Maps.Keyed Try.prog 9   := Maps.string_keyed Try.underlying9
def skL (s : ByteArray) : Lit := .string s.data.toList
theorem sk_key {s : ByteArray} (hs : s.size ≤ maxLen) : keyOf Try.prog 9 (.string s) = some (skL s) := WideMaps.keyOf_string_mk Try.underlying9 hs
theorem sk_inj {s t : ByteArray} (h : skL s = skL t) : s = t := by
  unfold skL at h
  injection h with h
  cases s; cases t
  simp at h
  rw [h]
/-- block b is a map of at most n texts: f tells which are known -/
def Ms (w : World) (b n : Nat) (f : ByteArray → Bool) : Prop :=
  ∃ D : DataW Value, w.ownsMap Try.prog 9 rVb b n D ∧ ∀ s : ByteArray, s.size ≤ maxLen → D.atKey (skL s) (.held (.bool false)) = .held (.bool (f s))
theorem Ms.made (w : World) : Ms (w.alloc (.map #[] 0)) w.heap.size 0 (fun _ => false) := ⟨.map [], World.ownsMap_made w Try.prog _ rVb, fun _ _ => rfl⟩
theorem Ms.blk {w w' : World} {b n : Nat} {f : ByteArray → Bool} (h : Ms w b n f) (e : w'.heap[b]? = w.heap[b]?) : Ms w' b n f := by
  obtain ⟨D, ⟨es, clock, hh, F, hs, hD⟩, hf⟩ := h
  exact ⟨D, ⟨es, clock, e.trans hh, F, hs, hD⟩, hf⟩
theorem Ms.lt {w : World} {b n : Nat} {f : ByteArray → Bool} (h : Ms w b n f) : b < w.heap.size := by
  obtain ⟨D, h, _⟩ := h; exact h.lt
theorem Ms.mono {w : World} {b n m : Nat} {f : ByteArray → Bool} (h : Ms w b n f) (hm : n ≤ m) : Ms w b m f := by
  obtain ⟨D, h, hf⟩ := h; exact ⟨D, h.mono hm, hf⟩
theorem Ms.nosi {w : World} {b n : Nat} {f : ByteArray → Bool} (h : Ms w b n f) : NoSI w (some b) := by
  obtain ⟨D, ⟨es, clock, hh, F, hs, hD⟩, hf⟩ := h
  exact nosi_map hh
theorem Ms.below {w w' : World} {b n : Nat} {f : ByteArray → Bool} (h : Ms w b n f) (hb : Below w.heap.size w w') : Ms w' b n f := h.blk (hb.block b h.lt)
theorem Ms.alloc {w : World} {b n : Nat} {f : ByteArray → Bool} (h : Ms w b n f) (o : Obj) : Ms (w.alloc o) b n f := h.below ((Below.refl _ _).alloc (Nat.le_refl _) o)
theorem Ms.grown {w w' : World} {b n : Nat} {f : ByteArray → Bool} (h : Ms w b n f) {r : Option Nat} (hg : w.grownBy w' r) (hr : r ≠ some b) : Ms w' b n f := h.blk (hg.block b h.lt (fun e => hr e.symm))
theorem zero_b' (w : World) : (zeroValue 4).run Try.prog w = .ok (.bool false) w := by kernel_rfl
theorem Ms.get {w : World} {b n : Nat} {f : ByteArray → Bool} (h : Ms w b n f) {s : ByteArray} (hs : s.size ≤ maxLen) :
    (Instr.lookup 78 (.map (some b)) (.string s) false).run Try.prog w = .ok (.bool (f s)) w := by
  obtain ⟨D, h, hf⟩ := h
  obtain ⟨v, ps, hr, hv⟩ := h.lookup str_keyed Try.underlying78 (zero_b' w) (zd := .held (.bool false)) rfl (sk_key hs)
  rw [hr]
  simp only [rVb, Option.some.injEq, Prod.mk.injEq] at hv
  rw [hf s hs] at hv
  rw [DataW.held.inj hv.1]
theorem Ms.put {w : World} {b n : Nat} {f : ByteArray → Bool} (h : Ms w b n f) {s : ByteArray} (hs : s.size ≤ maxLen) (hn : n < maxLen) :
    ∃ w', (Instr.mapUpdate 78 (.map (some b)) (.string s) (.bool true)).run Try.prog w = .ok () w' ∧ Ms w' b (n + 1) (fun t => decide (t = s) || f t) ∧ w.grownBy w' (some b) := by
  obtain ⟨D, h, hf⟩ := h
  have hi := h.isMap
  obtain ⟨w', hr, hm, hg⟩ := h.update str_keyed Try.underlying78 hn (val := .bool true) (d := .held (.bool true)) (ps := []) (sk_key hs) rfl
  refine ⟨w', hr, ⟨_, hm, fun t ht => ?_⟩, hg⟩
  by_cases e : t = s
  · subst e
    rw [Maps.atKey_put_same hi (show WideAt.IsKeyLit (skL t) from trivial)]
    simp
  · rw [Maps.atKey_put_other (fun q => e (sk_inj q)), hf t ht]
    simp [e]
end Go.Proofs.Ytjfmpnkbocilpaa
