/-
  A list that grows by append, nil at first or not: what is owned, and what the walk does at an append of one integer.
-/
import Derived.Test.YtoolggmomlmnbaaApp
import Derived.OwnWalk
namespace Go.Proofs.Ytoolggmomlmnbaa
open Go.ChangeShapes Go.WideShapes Go.ChangeAt Go.RowKit

/-- v is a slice of the integers xs in memory from block base on, nil or own -/
def Grows (w : World) (base : Nat) (v : Value) (xs : List Int) : Prop := w.ownsRow base 2 1 v xs.length (xs.map (.int .i64))
section
variable {w w' : World} {base : Nat} {v : Value} {xs : List Int}
theorem Grows.nil (w : World) (base : Nat) : Grows w base (.slice none 0 0) [] := World.ownsRow_nil _ _ _ _
theorem Grows.new (w : World) (base : Nat) (hb : base ≤ w.heap.size) : Grows (w.alloc (.cells #[] 2)) base (.slice (some ⟨w.heap.size, 0, none⟩) 0 0) [] :=
  World.ownsRow_lit w #[] 0 hb (Nat.zero_le _) rfl
theorem Grows.ofOwn {g cap : Nat} (h : Own w base 2 1 g cap xs.length (xs.map (.int .i64))) : Grows w base (.slice (some ⟨g, 0, none⟩) xs.length cap) xs := h
theorem Grows.alloc (h : Grows w base v xs) (o : Obj) : Grows (w.alloc o) base v xs := World.ownsRow.alloc h o
theorem Grows.below (h : Grows w base v xs) (hb : Below w.heap.size w w') : Grows w' base v xs := by
  obtain ⟨h0, h1 | ⟨g', cap', cur, h1, h2, h3, h4⟩⟩ := h
  · exact ⟨h0, .inl h1⟩
  · have hl : g' < w.heap.size := by
      rcases Nat.lt_or_ge g' w.heap.size with h | h
      · exact h
      · rw [Array.getElem?_eq_none h] at h3; cases h3
    exact ⟨h0, .inr ⟨g', cap', cur, h1, h2, (hb.block g' hl).trans h3, h4⟩⟩
theorem Grows.lower {base' : Nat} (h : Grows w base v xs) (hb : base' ≤ base) : Grows w base' v xs := by
  obtain ⟨h0, h1 | ⟨g', cap', cur, h1, h2, h3, h4⟩⟩ := h
  · exact ⟨h0, .inl h1⟩
  · exact ⟨h0, .inr ⟨g', cap', cur, h1, Nat.le_trans hb h2, h3, h4⟩⟩
theorem Grows.drew (h : Grows w base v xs) : Grows w.drew base v xs := h
theorem Grows.out (h : Grows w base v xs) : ∃ a c, v = .slice a xs.length c ∧ xs.length ≤ c ∧ RowN w base w.heap.size 2 a xs.length (icell .i64 xs) := by
  have h' := h
  obtain ⟨h0, ⟨h1, h2⟩ | ⟨g', cap', cur, h1, h2, h3, h4, _⟩⟩ := h
  · exact ⟨none, 0, by rw [h1, h2], by omega, .inl h2⟩
  · subst h1
    refine ⟨_, cap', rfl, h4, ?_⟩
    have hr := RowN.of_own h'
    rw [Nat.mul_one] at hr
    exact hr.congr fun i hi => ints_getD .i64 xs hi
/-- append one integer -/
theorem app_grow {ops : Array Oper} {rest : List Oper} {o : Oper} {a : Act} {Q : Exit → Act → World → Prop} (hgd : o.guard = none) (s x : Operand)
    (ho : o.op = .call { callee := .builtin .append, args := #[s, x], argTypes := #[24, 24] })
    (hs : a.eval s = v) (hown : Grows w base v xs) (ad : Addr) (z : Int) (hx : a.eval x = .slice (some ad) 1 1) (hc : w.cell? ad = some (.int .i64 z)) (hn : xs.length ≤ 1048576) (hbase : base ≤ w.heap.size)
    (h : ∀ v' w', Grows w' base v' (xs ++ [z]) → Below base w w' → wpList Try.prog ops Q rest (a.put o.dst v') w') : wpList Try.prog ops Q (o :: rest) a w := by
  obtain ⟨i, hi, hz, hsize, hb⟩ := info_parts info_int
  refine wpList_append_own w hgd s x 24 ho base 2 i (.int .i64 0) 1 8 Try.underlying24 hi hz hsize hb rfl (by omega) v xs.length _ hs hown ad 1 1 [.int .i64 z] hx rfl (one_news hc) one_cells (by unfold maxLen; omega) (by omega) hbase ?_
  intro v' w' hv' hg' _
  refine h v' w' ?_ ?_
  · unfold Grows
    rw [List.map_append, List.length_append]
    exact hv'
  · refine (Below.refl base w).grown hg' hbase fun k e => ?_
    obtain ⟨h0, ⟨h1, h2⟩ | ⟨g', cap', cur, h1, h2, _⟩⟩ := hown
    · subst h1; cases e
    · subst h1; have e' : g' = k := by simpa [Value.ownBlock] using e
      omega
/-- append all cells of a slice that can be read -/
theorem app_grows {ops : Array Oper} {rest : List Oper} {o : Oper} {a : Act} {Q : Exit → Act → World → Prop} (hgd : o.guard = none) (s x : Operand)
    (ho : o.op = .call { callee := .builtin .append, args := #[s, x], argTypes := #[24, 24] })
    (hs : a.eval s = v) (hown : Grows w base v xs) (ad : Addr) (zs : List Int) (m c : Nat) (hx : a.eval x = .slice (some ad) m c) (hm : m = zs.length) (hc : ∀ i, i < m → w.cell? (ad.add i) = some (.int .i64 (zs.getD i 0))) (hn : xs.length + m ≤ 1048576) (hbase : base ≤ w.heap.size)
    (h : ∀ v' w', Grows w' base v' (xs ++ zs) → Below base w w' → wpList Try.prog ops Q rest (a.put o.dst v') w') : wpList Try.prog ops Q (o :: rest) a w := by
  obtain ⟨i, hi, hz, hsize, hb⟩ := info_parts info_int
  refine wpList_append_own w hgd s x 24 ho base 2 i (.int .i64 0) 1 8 Try.underlying24 hi hz hsize hb rfl (by omega) v xs.length _ hs hown ad m c (zs.map (.int .i64)) hx (by simp [hm]) ?_ ints_cells (by unfold maxLen; omega) (by omega) hbase ?_
  · intro j u hj
    rw [List.getElem?_map] at hj
    obtain ⟨y, hy, rfl⟩ := Option.map_eq_some_iff.1 hj
    have hlt : j < zs.length := (List.getElem?_eq_some_iff.1 hy).1
    rw [hc j (by omega), List.getD_eq_getElem?_getD, hy]
    rfl
  · intro v' w' hv' hg' _
    refine h v' w' ?_ ?_
    · unfold Grows
      rw [List.map_append, List.length_append, ← hm]
      exact hv'
    · refine (Below.refl base w).grown hg' hbase fun k e => ?_
      obtain ⟨h0, ⟨h1, h2⟩ | ⟨g', cap', cur, h1, h2, _⟩⟩ := hown
      · subst h1; cases e
      · subst h1; have e' : g' = k := by simpa [Value.ownBlock] using e
        omega
end

/-- a result: a list and a code -/
def LPost (L : List Int) (C : Int) (w : World) (e : Ending) (w' : World) : Prop :=
  ∃ a k c, e = .returned (.tuple #[.slice a k c, .int .i64 C]) ∧ L.length = k ∧ RowN w' w.heap.size w'.heap.size 2 a k (icell .i64 L) ∧ Below w.heap.size w w'
theorem LPost.of_nil {w w' : World} {e : Ending} {L : List Int} {C : Int} (he : e = .returned (.tuple #[.slice none 0 0, .int .i64 C])) (hL : L = []) (hb : Below w.heap.size w w') : LPost L C w e w' := by
  subst hL
  exact ⟨none, 0, 0, he, rfl, .inl rfl, hb⟩
theorem LPost.of_grows {w w' : World} {e : Ending} {L : List Int} {C : Int} {v : Value} {base : Nat} (he : e = .returned (.tuple #[v, .int .i64 C])) (hg : Grows w' base v L) (h1 : w.heap.size ≤ base) (hb : Below w.heap.size w w') : LPost L C w e w' := by
  obtain ⟨a, c, rfl, _, hr⟩ := hg.out
  exact ⟨a, _, c, he, rfl, hr.wide h1 (Nat.le_refl _), hb⟩
end Go.Proofs.Ytoolggmomlmnbaa
