/-
  A list that grows by append, nil at first or not: what is owned, and what the walk does at an append of one integer.
-/
import Derived.Test.YtjfmpnkbocilpaaApp
import Derived.OwnWalk
import Derived.Deep.AppendLies
import Derived.Maps.AppendAt
namespace Go.Proofs.Ytjfmpnkbocilpaa
open Go.ChangeShapes Go.WideShapes Go.ChangeAt Go.RowKit

/-- v is a slice of the integers xs in memory from block base on, nil or own -/
def Grows (w : World) (base : Nat) (v : Value) (xs : List Int) : Prop := w.ownsRow base 2 1 v xs.length (xs.map (.int .i64))
section
variable {w w' : World} {base : Nat} {v : Value} {xs : List Int}
theorem Grows.nil (w : World) (base : Nat) : Grows w base (.slice none 0 0) [] := World.ownsRow_nil _ _ _ _
theorem Grows.new (w : World) (base : Nat) (hb : base ≤ w.heap.size) : Grows (w.alloc (.cells #[] 2)) base (.slice (some ⟨w.heap.size, 0, none⟩) 0 0) [] :=
  World.ownsRow_lit w #[] 0 hb (Nat.zero_le _) rfl
theorem Grows.ofOwn {g cap : Nat} (h : Own w base 2 1 g cap xs.length (xs.map (.int .i64))) : Grows w base (.slice (some ⟨g, 0, none⟩) xs.length cap) xs := h
theorem Grows.alloc (h : Grows w base v xs) (o : Obj) : Grows (w.alloc o) base v xs := World.ownsRow.alloc h o
theorem Grows.below (h : Grows w base v xs) (hb : Below w.heap.size w w') : Grows w' base v xs := by
  obtain ⟨h0, h1 | ⟨g', cap', cur, h1, h2, h3, h4⟩⟩ := h
  · exact ⟨h0, .inl h1⟩
  · have hl : g' < w.heap.size := by
      rcases Nat.lt_or_ge g' w.heap.size with h | h
      · exact h
      · rw [Array.getElem?_eq_none h] at h3; cases h3
    exact ⟨h0, .inr ⟨g', cap', cur, h1, h2, (hb.block g' hl).trans h3, h4⟩⟩
theorem Grows.lower {base' : Nat} (h : Grows w base v xs) (hb : base' ≤ base) : Grows w base' v xs := by
  obtain ⟨h0, h1 | ⟨g', cap', cur, h1, h2, h3, h4⟩⟩ := h
  · exact ⟨h0, .inl h1⟩
  · exact ⟨h0, .inr ⟨g', cap', cur, h1, Nat.le_trans hb h2, h3, h4⟩⟩
theorem Grows.drew (h : Grows w base v xs) : Grows w.drew base v xs := h
theorem Grows.out (h : Grows w base v xs) : ∃ a c, v = .slice a xs.length c ∧ xs.length ≤ c ∧ RowN w base w.heap.size 2 a xs.length (icell .i64 xs) := by
  have h' := h
  obtain ⟨h0, ⟨h1, h2⟩ | ⟨g', cap', cur, h1, h2, h3, h4, _⟩⟩ := h
  · exact ⟨none, 0, by rw [h1, h2], by omega, .inl h2⟩
  · subst h1
    refine ⟨_, cap', rfl, h4, ?_⟩
    have hr := RowN.of_own h'
    rw [Nat.mul_one] at hr
    exact hr.congr fun i hi => ints_getD .i64 xs hi
/-- append one integer -/
theorem app_grow {ops : Array Oper} {rest : List Oper} {o : Oper} {a : Act} {Q : Exit → Act → World → Prop} (hgd : o.guard = none) (s x : Operand)
    (ho : o.op = .call { callee := .builtin .append, args := #[s, x], argTypes := #[24, 24] })
    (hs : a.eval s = v) (hown : Grows w base v xs) (ad : Addr) (z : Int) (hx : a.eval x = .slice (some ad) 1 1) (hc : w.cell? ad = some (.int .i64 z)) (hn : xs.length ≤ 1048576) (hbase : base ≤ w.heap.size)
    (h : ∀ v' w', Grows w' base v' (xs ++ [z]) → Below base w w' → wpList Try.prog ops Q rest (a.put o.dst v') w') : wpList Try.prog ops Q (o :: rest) a w := by
  obtain ⟨i, hi, hz, hsize, hb⟩ := info_parts info_int
  refine wpList_append_own w hgd s x 24 ho base 2 i (.int .i64 0) 1 8 Try.underlying24 hi hz hsize hb rfl (by omega) v xs.length _ hs hown ad 1 1 [.int .i64 z] hx rfl (one_news hc) one_cells (by unfold maxLen; omega) (by omega) hbase ?_
  intro v' w' hv' hg' _
  refine h v' w' ?_ ?_
  · unfold Grows
    rw [List.map_append, List.length_append]
    exact hv'
  · refine (Below.refl base w).grown hg' hbase fun k e => ?_
    obtain ⟨h0, ⟨h1, h2⟩ | ⟨g', cap', cur, h1, h2, _⟩⟩ := hown
    · subst h1; cases e
    · subst h1; have e' : g' = k := by simpa [Value.ownBlock] using e
      omega
/-- append all cells of a slice that can be read -/
theorem app_grows {ops : Array Oper} {rest : List Oper} {o : Oper} {a : Act} {Q : Exit → Act → World → Prop} (hgd : o.guard = none) (s x : Operand)
    (ho : o.op = .call { callee := .builtin .append, args := #[s, x], argTypes := #[24, 24] })
    (hs : a.eval s = v) (hown : Grows w base v xs) (ad : Addr) (zs : List Int) (m c : Nat) (hx : a.eval x = .slice (some ad) m c) (hm : m = zs.length) (hc : ∀ i, i < m → w.cell? (ad.add i) = some (.int .i64 (zs.getD i 0))) (hn : xs.length + m ≤ 1048576) (hbase : base ≤ w.heap.size)
    (h : ∀ v' w', Grows w' base v' (xs ++ zs) → Below base w w' → wpList Try.prog ops Q rest (a.put o.dst v') w') : wpList Try.prog ops Q (o :: rest) a w := by
  obtain ⟨i, hi, hz, hsize, hb⟩ := info_parts info_int
  refine wpList_append_own w hgd s x 24 ho base 2 i (.int .i64 0) 1 8 Try.underlying24 hi hz hsize hb rfl (by omega) v xs.length _ hs hown ad m c (zs.map (.int .i64)) hx (by simp [hm]) ?_ ints_cells (by unfold maxLen; omega) (by omega) hbase ?_
  · intro j u hj
    rw [List.getElem?_map] at hj
    obtain ⟨y, hy, rfl⟩ := Option.map_eq_some_iff.1 hj
    have hlt : j < zs.length := (List.getElem?_eq_some_iff.1 hy).1
    rw [hc j (by omega), List.getD_eq_getElem?_getD, hy]
    rfl
  · intro v' w' hv' hg' _
    refine h v' w' ?_ ?_
    · unfold Grows
      rw [List.map_append, List.length_append, ← hm]
      exact hv'
    · refine (Below.refl base w).grown hg' hbase fun k e => ?_
      obtain ⟨h0, ⟨h1, h2⟩ | ⟨g', cap', cur, h1, h2, _⟩⟩ := hown
      · subst h1; cases e
      · subst h1; have e' : g' = k := by simpa [Value.ownBlock] using e
        omega
/-- append cells of integers, at a step of a region that draws -/
theorem step_app_grows {ops : Array Oper} {o : Oper} {a : Act} {K : Act → World → Prop} {Q : Exit → Act → World → Prop} {E : Prop} (hgd : o.guard = none) (s x : Operand)
    (ho : o.op = .call { callee := .builtin .append, args := #[s, x], argTypes := #[24, 24] })
    (hs : a.eval s = v) (hown : Grows w base v xs) (ad : Addr) (zs : List Int) (m c : Nat) (hx : a.eval x = .slice (some ad) m c) (hm0 : 0 < m) (hm : m = zs.length) (hc : ∀ i, i < m → w.cell? (ad.add i) = some (.int .i64 (zs.getD i 0))) (hn : xs.length + m ≤ 1048576) (hbase : base ≤ w.heap.size)
    (h : ∀ v' w', Grows w' base v' (xs ++ zs) → Below base w w' → w.grownBy w' v.ownBlock → K (a.put o.dst v') w') :
    if Region.wanted o (yielded ops a.tmps) = true then Oper.wp Try.prog o a w K Q else E := by
  obtain ⟨i, hi, hz, hsize, hb⟩ := info_parts info_int
  refine step_append_lies _ hgd s x 24 ho base 2 i (.int .i64 0) 1 8 Try.underlying24 hi hz hsize hb rfl (by omega) v xs.length _ hs hown ad m c (zs.map (.int .i64)) hx (by simp [hm]) ?_ ints_cells hm0 (by unfold maxLen; omega) (by omega) hbase w.heap.size rfl ?_
  · intro j u hj
    rw [List.getElem?_map] at hj
    obtain ⟨y, hy, rfl⟩ := Option.map_eq_some_iff.1 hj
    have hlt : j < zs.length := (List.getElem?_eq_some_iff.1 hy).1
    rw [hc j (by omega), List.getD_eq_getElem?_getD, hy]
    rfl
  · intro g cap w' hv' hg' _ _
    refine h _ w' ?_ ?_ hg'
    · unfold Grows
      rw [List.map_append, List.length_append, ← hm]
      exact hv'
    · refine (Below.refl base w).grown hg' hbase fun k e => ?_
      obtain ⟨h0, ⟨h1, h2⟩ | ⟨g', cap', cur, h1, h2, _⟩⟩ := hown
      · subst h1; cases e
      · subst h1; have e' : g' = k := by simpa [Value.ownBlock] using e
        omega
end

theorem own_at {b o n c g : Nat} (h : (Value.slice (some ⟨b, o, none⟩) n c).ownBlock = some g) : g = b := by
  have e : b = g := by simpa [Value.ownBlock] using h
  exact e.symm
/-- since w0 only block base and new blocks have turned; v is an own list of xs, in block base or in a new one -/
def Grown (w0 : World) (base : Nat) (w : World) (v : Value) (xs : List Int) : Prop :=
  Grows w base v xs ∧ (∀ g, v.ownBlock = some g → g = base ∨ w0.heap.size ≤ g) ∧ Out base (base + 1) w0 w ∧ base ≤ w0.heap.size
section
variable {w0 w w' : World} {base : Nat} {v : Value} {xs : List Int}
theorem Grown.start (h : Grows w base v xs) (hv : ∀ g, v.ownBlock = some g → g = base) (hb : base ≤ w.heap.size) : Grown w base w v xs := ⟨h, fun g e => .inl (hv g e), Out.refl _ _ _, hb⟩
theorem Grown.grows (h : Grown w0 base w v xs) : Grows w base v xs := h.1
theorem Grown.out (h : Grown w0 base w v xs) : Out base (base + 1) w0 w := h.2.2.1
theorem Grown.le (h : Grown w0 base w v xs) : base ≤ w.heap.size := Nat.le_trans h.2.2.2 h.2.2.1.size
theorem Out.after {lo hi : Nat} (h : Out lo hi w0 w) (hb : Below w.heap.size w w') : Out lo hi w0 w' :=
  ⟨hb.os.trans h.os, hb.tape.trans h.tape, hb.output.trans h.output, Nat.le_trans h.size hb.size, fun i hi hn => (hb.block i (Nat.lt_of_lt_of_le hi h.size)).trans (h.block i hi hn)⟩
theorem Out.grown {lo hi : Nat} {r : Option Nat} (h : Out lo hi w0 w) (hg : w.grownBy w' r) (hr : ∀ g, r = some g → (lo ≤ g ∧ g < hi) ∨ w0.heap.size ≤ g) : Out lo hi w0 w' :=
  ⟨hg.os.trans h.os, hg.tape.trans h.tape, hg.output.trans h.output, Nat.le_trans h.size hg.size, fun i hi hn => (hg.block i (Nat.lt_of_lt_of_le hi h.size) (fun e => by rcases hr i e.symm with k | k <;> omega)).trans (h.block i hi hn)⟩
theorem Grown.after (h : Grown w0 base w v xs) (hb : Below w.heap.size w w') : Grown w0 base w' v xs := ⟨h.1.below hb, h.2.1, h.2.2.1.after hb, h.2.2.2⟩
theorem Grown.alloc (h : Grown w0 base w v xs) (o : Obj) : Grown w0 base (w.alloc o) v xs := h.after ((Below.refl _ _).alloc (Nat.le_refl _) o)
theorem Grown.drew (h : Grown w0 base w v xs) : Grown w0 base w.drew v xs := ⟨h.1.drew, h.2.1, h.2.2.1.drew, h.2.2.2⟩
theorem Grown.step {v' : Value} {zs : List Int} (h : Grown w0 base w v xs) (hv' : Grows w' base v' (xs ++ zs)) (hg : w.grownBy w' v.ownBlock) (hb : v'.ownBlock = v.ownBlock ∨ v'.ownBlock = some w.heap.size) : Grown w0 base w' v' (xs ++ zs) := by
  have hz := h.2.2.1.size
  refine ⟨hv', fun g e => ?_, h.2.2.1.grown hg fun g e => ?_, h.2.2.2⟩
  · rcases hb with hb | hb
    · exact h.2.1 g (hb ▸ e)
    · rw [hb] at e
      injection e with e
      exact .inr (by omega)
  · rcases h.2.1 g e with k | k
    · exact .inl ⟨by omega, by omega⟩
    · exact .inr k
/-- append cells of integers -/
theorem app_grown {ops : Array Oper} {rest : List Oper} {o : Oper} {a : Act} {Q : Exit → Act → World → Prop} (hgd : o.guard = none) (s x : Operand)
    (ho : o.op = .call { callee := .builtin .append, args := #[s, x], argTypes := #[24, 24] })
    (hs : a.eval s = v) (hown : Grown w0 base w v xs) (ad : Addr) (zs : List Int) (m c : Nat) (hx : a.eval x = .slice (some ad) m c) (hm : m = zs.length) (hc : ∀ i, i < m → w.cell? (ad.add i) = some (.int .i64 (zs.getD i 0))) (hn : xs.length + m ≤ 1048576)
    (h : ∀ v' w', Grown w0 base w' v' (xs ++ zs) → wpList Try.prog ops Q rest (a.put o.dst v') w') : wpList Try.prog ops Q (o :: rest) a w := by
  obtain ⟨i, hi, hz, hsize, hb⟩ := info_parts info_int
  refine wpList_append_own_at w hgd s x 24 ho base 2 i (.int .i64 0) 1 8 Try.underlying24 hi hz hsize hb rfl (by omega) v xs.length _ hs hown.1 ad m c (zs.map (.int .i64)) hx (by simp [hm]) ?_ ints_cells (by unfold maxLen; omega) (by omega) hown.le ?_
  · intro j u hj
    rw [List.getElem?_map] at hj
    obtain ⟨y, hy, rfl⟩ := Option.map_eq_some_iff.1 hj
    have hlt : j < zs.length := (List.getElem?_eq_some_iff.1 hy).1
    rw [hc j (by omega), List.getD_eq_getElem?_getD, hy]
    rfl
  · intro v' w' hv' hg' _ hb'
    refine h v' w' (hown.step ?_ hg' hb')
    unfold Grows
    rw [List.map_append, List.length_append, ← hm]
    exact hv'
/-- append cells of integers, at a step of a region that draws -/
theorem step_app_grown {ops : Array Oper} {o : Oper} {a : Act} {K : Act → World → Prop} {Q : Exit → Act → World → Prop} {E : Prop} (hgd : o.guard = none) (s x : Operand)
    (ho : o.op = .call { callee := .builtin .append, args := #[s, x], argTypes := #[24, 24] })
    (hs : a.eval s = v) (hown : Grown w0 base w v xs) (ad : Addr) (zs : List Int) (m c : Nat) (hx : a.eval x = .slice (some ad) m c) (hm0 : 0 < m) (hm : m = zs.length) (hc : ∀ i, i < m → w.cell? (ad.add i) = some (.int .i64 (zs.getD i 0))) (hn : xs.length + m ≤ 1048576)
    (h : ∀ v' w', Grown w0 base w' v' (xs ++ zs) → w.grownBy w' v.ownBlock → K (a.put o.dst v') w') :
    if Region.wanted o (yielded ops a.tmps) = true then Oper.wp Try.prog o a w K Q else E := by
  obtain ⟨i, hi, hz, hsize, hb⟩ := info_parts info_int
  refine step_append_lies _ hgd s x 24 ho base 2 i (.int .i64 0) 1 8 Try.underlying24 hi hz hsize hb rfl (by omega) v xs.length _ hs hown.1 ad m c (zs.map (.int .i64)) hx (by simp [hm]) ?_ ints_cells hm0 (by unfold maxLen; omega) (by omega) hown.le w.heap.size rfl ?_
  · intro j u hj
    rw [List.getElem?_map] at hj
    obtain ⟨y, hy, rfl⟩ := Option.map_eq_some_iff.1 hj
    have hlt : j < zs.length := (List.getElem?_eq_some_iff.1 hy).1
    rw [hc j (by omega), List.getD_eq_getElem?_getD, hy]
    rfl
  · intro g cap w' hv' hg' hl _
    refine h _ w' (hown.step ?_ hg' ?_) hg'
    · unfold Grows
      rw [List.map_append, List.length_append, ← hm]
      exact hv'
    · rcases hl with hl | hl
      · exact .inl hl.symm
      · exact .inr (by rw [hl]; rfl)
theorem news1 {ad : Addr} {x : Int} (h0 : w.cell? ad = some (.int .i64 x)) : ∀ i, i < 1 → w.cell? (ad.add i) = some (.int .i64 ([x].getD i 0)) := by
  intro i hi
  match i, hi with
  | 0, _ => simpa [Addr.add] using h0
theorem news2 {g : Nat} {x y : Int} (h0 : w.cell? ⟨g, 0, none⟩ = some (.int .i64 x)) (h1 : w.cell? ⟨g, 1, none⟩ = some (.int .i64 y)) : ∀ i, i < 2 → w.cell? ((⟨g, 0, none⟩ : Addr).add i) = some (.int .i64 ([x, y].getD i 0)) := by
  intro i hi
  match i, hi with
  | 0, _ => simpa [Addr.add] using h0
  | 1, _ => simpa [Addr.add] using h1
end

/-- a result: a list and a code -/
def LPost (L : List Int) (C : Int) (w : World) (e : Ending) (w' : World) : Prop :=
  ∃ a k c, e = .returned (.tuple #[.slice a k c, .int .i64 C]) ∧ L.length = k ∧ RowN w' w.heap.size w'.heap.size 2 a k (icell .i64 L) ∧ Below w.heap.size w w'
theorem LPost.of_nil {w w' : World} {e : Ending} {L : List Int} {C : Int} (he : e = .returned (.tuple #[.slice none 0 0, .int .i64 C])) (hL : L = []) (hb : Below w.heap.size w w') : LPost L C w e w' := by
  subst hL
  exact ⟨none, 0, 0, he, rfl, .inl rfl, hb⟩
theorem LPost.of_grows {w w' : World} {e : Ending} {L : List Int} {C : Int} {v : Value} {base : Nat} (he : e = .returned (.tuple #[v, .int .i64 C])) (hg : Grows w' base v L) (h1 : w.heap.size ≤ base) (hb : Below w.heap.size w w') : LPost L C w e w' := by
  obtain ⟨a, c, rfl, _, hr⟩ := hg.out
  exact ⟨a, _, c, he, rfl, hr.wide h1 (Nat.le_refl _), hb⟩
end Go.Proofs.Ytjfmpnkbocilpaa
