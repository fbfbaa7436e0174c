/-
  append to a slice of the call's own, in the walk's form.
-/
import Derived.Test.YtjfmpnkbocilpaaRes
import Derived.OwnWalk
namespace Go.Proofs.Ytjfmpnkbocilpaa
open Go.ChangeShapes Go.WideShapes Go.ChangeAt Go.RowKit

/-- '.slice (some ⟨g, 0, none⟩) n cap' owns the cells vs (size cells an element, of type e), in a block from base on -/
def Own (w : World) (base : Nat) (e : TypeId) (size g cap n : Nat) (vs : List Value) : Prop := w.ownsRow base e size (.slice (some ⟨g, 0, none⟩) n cap) n vs
section
variable {P : Program} {w w' : World} {base base' size g cap n : Nat} {e : TypeId} {vs : List Value}
theorem Own.ge (h : Own w base e size g cap n vs) : base ≤ g ∧ g < w.heap.size := World.ownsRow.lt h g rfl
theorem Own.alloc (h : Own w base e size g cap n vs) (o : Obj) : Own (w.alloc o) base e size g cap n vs := World.ownsRow.alloc h o
theorem Own.kept (h : Own w base e size g cap n vs) {r : Option Nat} (hg : w.grownBy w' r) (hr : r ≠ some g) : Own w' base e size g cap n vs :=
  World.ownsRow.kept h hg (.inr fun e => hr e.symm)
theorem Own.below (h : Own w base e size g cap n vs) (hb : Below w.heap.size w w') : Own w' base e size g cap n vs := by
  have hl := h.ge.2
  obtain ⟨h0, ⟨h1, h2⟩ | ⟨g', cap', cur, h1, h2, h3, h4⟩⟩ := h
  · cases h1
  · injection h1 with e1 e2 e3
    injection e1 with e1
    injection e1 with e1
    subst e1 e3
    exact ⟨h0, .inr ⟨g, cap, cur, rfl, h2, (hb.block g hl).trans h3, h4⟩⟩
theorem Own.room (h : Own w base e size g cap n vs) : n ≤ cap := by
  obtain ⟨h0, ⟨h1, h2⟩ | ⟨g', cap', cur, h1, h2, h3, h4, _⟩⟩ := h
  · cases h1
  · injection h1 with e1 e2 e3
    subst e3
    exact h4
theorem Own.drew (h : Own w base e size g cap n vs) : Own w.drew base e size g cap n vs := h
theorem Own.row (h : Own w base e size g cap n vs) : RowN w base w.heap.size e (some ⟨g, 0, none⟩) (n * size) (fun i => vs.getD i undef) := RowN.of_own h
theorem Own.len (h : Own w base e size g cap n vs) : vs.length = n * size := h.1
theorem Own.lower (h : Own w base e size g cap n vs) (hb : base' ≤ base) : Own w base' e size g cap n vs := by
  obtain ⟨h0, ⟨h1, h2⟩ | ⟨g', cap', cur, h1, h2, h3, h4⟩⟩ := h
  · cases h1
  · exact ⟨h0, .inr ⟨g', cap', cur, h1, Nat.le_trans hb h2, h3, h4⟩⟩
theorem Own.new (w : World) (base : Nat) (e : TypeId) (size : Nat) (cs : Array Value) (n : Nat) (hb : base ≤ w.heap.size) (hn : n ≤ maxLen) (hs : cs.size = n * size) : Own (w.alloc (.cells cs e)) base e size w.heap.size n n cs.toList :=
  World.ownsRow_lit w cs n hb hn hs

/-- the cells of integers, as a list -/
theorem ints_getD (k : IntKind) (xs : List Int) {i : Nat} (hi : i < xs.length) : (xs.map (Value.int k)).getD i undef = icell k xs i := by
  rw [icell, List.getD_eq_getElem?_getD, List.getD_eq_getElem?_getD, List.getElem?_map, List.getElem?_eq_getElem hi]
  rfl
theorem Own.rowI {xs : List Int} (h : Own w base e 1 g cap n (xs.map (.int .i64))) : RowN w base w.heap.size e (some ⟨g, 0, none⟩) n (icell .i64 xs) := by
  have hl := h.len
  rw [List.length_map, Nat.mul_one] at hl
  have hr := h.row
  rw [Nat.mul_one] at hr
  exact hr.congr fun i hi => ints_getD .i64 xs (by omega)

/-- append to an owned slice (not nil) -/
theorem app_own {ops : Array Oper} {rest : List Oper} {o : Oper} {a : Act} {Q : Exit → Act → World → Prop} (hgd : o.guard = none) (s x : Operand) (t : TypeId)
    (ho : o.op = .call { callee := .builtin .append, args := #[s, x], argTypes := #[t, t] })
    (base : Nat) (e : TypeId) (z : Value) (size bytes : Nat) (ht : P.underlying t = some (.slice e)) (hinfo : (P.info? e).map (fun i => (i.zero, i.size, i.bytes)) = some (some z, size, bytes)) (hzs : z.cells.size = size) (hsz : 0 < size) (hby : bytes ≤ 1024)
    (g cap n : Nat) (vs : List Value) (hs : a.eval s = .slice (some ⟨g, 0, none⟩) n cap) (hown : Own w base e size g cap n vs)
    (ad : Addr) (m c : Nat) (news : List Value) (hx : a.eval x = .slice (some ad) m c) (hl : news.length = m * size) (hnews : ∀ j u, news[j]? = some u → w.cell? (ad.add j) = some u) (h1 : ∀ u ∈ news, u.oneCell' = true)
    (h63 : n + m ≤ 8388608) (hbase : base ≤ w.heap.size)
    (h : ∀ g' cap' w', Own w' base e size g' cap' (n + m) (vs ++ news) → w.grownBy w' (some g) → wpList P ops Q rest (a.put o.dst (.slice (some ⟨g', 0, none⟩) (n + m) cap')) w') : wpList P ops Q (o :: rest) a w := by
  obtain ⟨i, hi, hz, hsize, hb⟩ := info_parts hinfo
  refine wpList_append_own w hgd s x t ho base e i z size bytes ht hi hz hsize hb hzs hsz _ n vs hs hown ad m c news hx hl hnews h1 (by unfold maxLen; omega) ?_ hbase ?_
  · have : (n + m) * bytes ≤ 8388608 * 1024 := Nat.mul_le_mul h63 hby
    omega
  · intro v' w' hv' hg' hnil
    obtain ⟨h0, ⟨e1, e2⟩ | ⟨g', cap', cur, e1, e2⟩⟩ := hv'
    · have := hnil.1 e1
      cases this.1
    · subst e1
      exact h g' cap' w' ⟨h0, .inr ⟨g', cap', cur, rfl, e2⟩⟩ hg'

/-- append of something to a nil slice -/
theorem app_nil {ops : Array Oper} {rest : List Oper} {o : Oper} {a : Act} {Q : Exit → Act → World → Prop} (hgd : o.guard = none) (s x : Operand) (t : TypeId)
    (ho : o.op = .call { callee := .builtin .append, args := #[s, x], argTypes := #[t, t] })
    (base : Nat) (e : TypeId) (z : Value) (size bytes : Nat) (ht : P.underlying t = some (.slice e)) (hinfo : (P.info? e).map (fun i => (i.zero, i.size, i.bytes)) = some (some z, size, bytes)) (hzs : z.cells.size = size) (hsz : 0 < size) (hby : bytes ≤ 1024)
    (hs : a.eval s = .slice none 0 0)
    (ad : Addr) (m c : Nat) (news : List Value) (hx : a.eval x = .slice (some ad) m c) (hm : 0 < m) (hl : news.length = m * size) (hnews : ∀ j u, news[j]? = some u → w.cell? (ad.add j) = some u) (h1 : ∀ u ∈ news, u.oneCell' = true)
    (h63 : m ≤ 8388608) (hbase : base ≤ w.heap.size)
    (h : ∀ g' cap' w', Own w' base e size g' cap' m news → w.grownBy w' none → wpList P ops Q rest (a.put o.dst (.slice (some ⟨g', 0, none⟩) m cap')) w') : wpList P ops Q (o :: rest) a w := by
  obtain ⟨i, hi, hz, hsize, hb⟩ := info_parts hinfo
  refine wpList_append_own w hgd s x t ho base e i z size bytes ht hi hz hsize hb hzs hsz _ 0 [] hs (World.ownsRow_nil _ _ _ _) ad m c news hx hl hnews h1 (by unfold maxLen; omega) ?_ hbase ?_
  · have : (0 + m) * bytes ≤ 8388608 * 1024 := Nat.mul_le_mul (by omega) hby
    omega
  · intro v' w' hv' hg' hnil
    rw [Nat.zero_add, List.nil_append] at hv'
    obtain ⟨h0, ⟨e1, e2⟩ | ⟨g', cap', cur, e1, e2⟩⟩ := hv'
    · have := hnil.1 e1
      omega
    · subst e1
      exact h g' cap' w' ⟨h0, .inr ⟨g', cap', cur, rfl, e2⟩⟩ hg'
end

theorem one_news {w : World} {ad : Addr} {v : Value} (h : w.cell? ad = some v) : ∀ j u, [v][j]? = some u → w.cell? (ad.add j) = some u := by
  intro j u hj
  match j, hj with
  | 0, hj => simp at hj; subst hj; simpa [Addr.add] using h
theorem one_cells {k : IntKind} {x : Int} : ∀ u ∈ [Value.int k x], u.oneCell' = true := by
  intro u hu
  simp at hu
  subst hu
  rfl
theorem ints_cells {k : IntKind} {xs : List Int} : ∀ u ∈ xs.map (Value.int k), u.oneCell' = true := by
  intro u hu
  simp at hu
  obtain ⟨x, _, rfl⟩ := hu
  rfl
/-- the cells behind the first d of a slice that came in -/
theorem tail_news {w : World} {b off n d : Nat} {k : IntKind} {xs : List Int} (hl : xs.length = n) (hc : ∀ i, i < n → w.cell? ⟨b, off + i, none⟩ = some (.int k (xs.getD i 0))) :
    ∀ j u, ((xs.drop d).map (Value.int k))[j]? = some u → w.cell? ((⟨b, off + d, none⟩ : Addr).add j) = some u := by
  intro j u hj
  rw [List.getElem?_map, List.getElem?_drop] at hj
  obtain ⟨x, hx, rfl⟩ := Option.map_eq_some_iff.1 hj
  have hlt : d + j < xs.length := (List.getElem?_eq_some_iff.1 hx).1
  have e := hc (d + j) (by omega)
  rw [List.getD_eq_getElem?_getD, hx] at e
  have ha : (⟨b, off + d, none⟩ : Addr).add j = ⟨b, off + (d + j), none⟩ := by
    by_cases h0 : j = 0
    · subst h0; rfl
    · simp [Addr.add, h0, Nat.add_assoc]
  rw [ha, e]
  rfl
theorem info_int : (Try.prog.info? 2).map (fun i => (i.zero, i.size, i.bytes)) = some (some (.int .i64 0), 1, 8) := by kernel_rfl
end Go.Proofs.Ytjfmpnkbocilpaa
