/-
  Steps of a play with one step more: a copy and an append, as steps of a region that draws its order; the map of boards in the words of plays.
-/
import Derived.Test.YtjfmpnkbocilpaaHwN
import Derived.Test.YtjfmpnkbocilpaaHwK
import Derived.Deep.AppendSrc
import Derived.Deep.Upon
import Derived.Deep.RegionLaw
namespace Go.Proofs.Ytjfmpnkbocilpaa
open Go.ChangeShapes Go.WideShapes Go.ChangeAt Go.RowKit
set_option linter.unusedVariables false

theorem ow_drew {w : World} {base : Nat} {t : TypeId} {sz : Nat} {v : Value} {n : Nat} {vs : List Value} (h : w.ownsRow base t sz v n vs) : w.drew.ownsRow base t sz v n vs := h
theorem sts_drew {w : World} {base : Nat} {v : Value} {l : List St} (h : StsO w base v l) : StsO w.drew base v l := h
theorem sts_alloc {w : World} {base : Nat} {v : Value} {l : List St} (h : StsO w base v l) (o : Obj) : StsO (w.alloc o) base v l := ow_alloc h o
/-- the copy of a list of steps into an own row that holds nothing yet -/
theorem step_copy_st {ops : Array Oper} {o : Oper} {a : Act} {K : Act → World → Prop} {Q : Exit → Act → World → Prop} {E : Prop} {w : World} {base g0 cap0 hi : Nat} (hgd : o.guard = none) (s x : Operand)
    (ho : o.op = .call { callee := .builtin .append, args := #[s, x], argTypes := #[58, 58] })
    (hs : a.eval s = .slice (some ⟨g0, 0, none⟩) 0 cap0) (hown : w.ownsRow base 72 4 (.slice (some ⟨g0, 0, none⟩) 0 cap0) 0 []) (A : Option Addr) (m c : Nat) (l : List St) (hx : a.eval x = .slice A m c) (hr : StsR w hi A m l) (hm : m ≤ 1000) (hbase : base ≤ w.heap.size)
    (h : ∀ g cap w', StsO w' base (.slice (some ⟨g, 0, none⟩) m cap) l → w.grownBy w' (some g0) → K (a.put o.dst (.slice (some ⟨g, 0, none⟩) m cap)) w') :
    if Region.wanted o (yielded ops a.tmps) = true then Oper.wp Try.prog o a w K Q else E := by
  obtain ⟨hl, hrow⟩ := hr
  by_cases h0 : m = 0
  · subst h0
    obtain rfl : l = [] := List.eq_nil_of_length_eq_zero hl.symm
    obtain ⟨i, hi, hz, hsize, hb⟩ := info_parts info_step
    have hw : Region.wanted o (yielded ops a.tmps) = true := by simp [Region.wanted, hgd]
    rw [if_pos hw]
    have hsrc : Src Try.prog i.size 58 (.slice A 0 c) 0 [] w := by
      cases A with
      | none => exact Src.ofNil w Try.underlying58 c
      | some ad => exact Src.ofSlice w Try.underlying58 ad 0 c [] (by simp) (fun j u hj => by cases hj) (fun u hu => by cases hu)
    have hrun := run_append_nothing (P := Try.prog) w 58 58 o.type 72 i Try.underlying58 hi (some ⟨g0, 0, none⟩) 0 cap0 (Nat.zero_le _) _ hsrc
    unfold Oper.wp execOp
    simp only [ho, resolve, invoke, builtin, Sem.run_bind, Sem.run_pure, Result.andThen_ok, List.map_toArray, List.map_cons, List.map_nil, hs, hx, hrun]
    exact h g0 cap0 w hown (by_refl w _)
  · obtain ⟨g, rfl, _, _, hz, hc⟩ := hrow.blk (by omega)
    have hfl := flat_len stC 4 stC_len l
    refine step_app_row hgd s x 58 72 _ 4 32 ho Try.underlying58 info_step rfl (by omega) (by omega) hs hown ⟨g, 0, none⟩ m c (l.flatMap stC) (by omega) hx (by rw [hfl, hl]) (fun j u hj => ?_) (fun u hu => ?_) (by omega) hbase ?_
    · have hj' : j < (l.flatMap stC).length := (List.getElem?_eq_some_iff.1 hj).1
      have e : (⟨g, 0, none⟩ : Addr).add j = ⟨g, j, none⟩ := by by_cases h0 : j = 0 <;> simp [Addr.add, h0]
      rw [e, (hc j (by omega)).1, List.getD_eq_getElem?_getD, hj]; rfl
    · obtain ⟨y, _, hy⟩ := List.mem_flatMap.1 hu
      exact stC_one y u hy
    · intro g' cap w' hv' hg' _ _
      rw [Nat.zero_add] at hv' ⊢
      rw [List.nil_append] at hv'
      refine h g' cap w' ?_ hg'
      unfold StsO
      rw [← hl]
      exact hv'
/-- append of one step, as a step of a region -/
theorem step_app_st {ops : Array Oper} {o : Oper} {a : Act} {K : Act → World → Prop} {Q : Exit → Act → World → Prop} {E : Prop} {w : World} {base g0 n0 cap0 : Nat} {l : List St} (hgd : o.guard = none) (s x : Operand)
    (ho : o.op = .call { callee := .builtin .append, args := #[s, x], argTypes := #[58, 58] })
    (hs : a.eval s = .slice (some ⟨g0, 0, none⟩) n0 cap0) (hown : StsO w base (.slice (some ⟨g0, 0, none⟩) n0 cap0) l) (hn0 : n0 = l.length) (b : Nat) (hx : a.eval x = .slice (some ⟨b, 0, none⟩) 1 1) (st : St) (h0 : w.rowIs b 72 4 (vr4 (.int .i64 st.fr) (.int .i64 st.to) (.int .i64 st.die) (.bool st.hit))) (hn : n0 ≤ 1000) (hbase : base ≤ w.heap.size)
    (h : ∀ g cap w', StsO w' base (.slice (some ⟨g, 0, none⟩) (n0 + 1) cap) (l ++ [st]) → w.grownBy w' (some g0) → K (a.put o.dst (.slice (some ⟨g, 0, none⟩) (n0 + 1) cap)) w') :
    if Region.wanted o (yielded ops a.tmps) = true then Oper.wp Try.prog o a w K Q else E := by
  subst hn0
  refine step_app_row hgd s x 58 72 _ 4 32 ho Try.underlying58 info_step rfl (by omega) (by omega) hs hown ⟨b, 0, none⟩ 1 1 (stC st) (by omega) hx rfl (st_news h0) (stC_one st) (by omega) hbase ?_
  intro g cap w' hv' hg' _ _
  refine h g cap w' ?_ hg'
  unfold StsO
  rw [flat_app1, List.length_append]
  exact hv'
theorem make_st (n : Nat) (hn : n ≤ 1048576) (x : Int) (hx : x = n) (W : World) : (Instr.makeSlice 58 (.int .i64 0) (.int .i64 x)).run Try.prog W = .ok (.slice (some ⟨W.heap.size, 0, none⟩) 0 n) (W.alloc (.cells (madeCells #[.int .i64 0, .int .i64 0, .int .i64 0, .bool false] (n * 4)) 72)) := by
  obtain ⟨i, hi, hz, hs, hb⟩ := info_parts info_step
  have hr := run_make (P := Try.prog) W 58 72 i _ Try.underlying58 hi hz .i64 .i64 0 x (Int.le_refl _) (by omega) (by rw [hb]; omega) (by omega)
  rw [hs, hx] at hr
  rw [hx]
  simpa [Value.cells] using hr
theorem made_st (w : World) (base n : Nat) (hb : base ≤ w.heap.size) (hn : n ≤ 1048576) : (w.alloc (.cells (madeCells #[.int .i64 0, .int .i64 0, .int .i64 0, .bool false] (n * 4)) 72)).ownsRow base 72 4 (.slice (some ⟨w.heap.size, 0, none⟩) 0 n) 0 [] :=
  World.ownsRow_made w _ n hb (by unfold maxLen; omega) (by simp [madeCells])
/-- three cells -/
def th3 (p q r : Value) : Nat → Value
  | 0 => p
  | 1 => q
  | _ => r
theorem th3_new (w : World) (p q r : Value) (t : TypeId) : (w.alloc (.cells #[p, q, r] t)).rowIs w.heap.size t 3 (th3 p q r) :=
  World.rowIs_alloc w _ _ _ (fun j hj => by
    match j, hj with
    | 0, _ => rfl
    | 1, _ => rfl
    | 2, _ => rfl)
theorem th3_cells {w : World} {g t : Nat} {p q r : Value} (h : w.rowIs g t 3 (th3 p q r)) : w.cell? ⟨g, 0, none⟩ = some p ∧ w.cell? ⟨g, 1, none⟩ = some q ∧ w.cell? ⟨g, 2, none⟩ = some r := ⟨h.cell (i := 0) (by omega), h.cell (i := 1) (by omega), h.cell (i := 2) (by omega)⟩
theorem row_by {w w' : World} {b t n : Nat} {f : Nat → Value} {r : Option Nat} (h : w.rowIs b t n f) (hg : w.grownBy w' r) (hr : r ≠ some b) : w'.rowIs b t n f := h.of_block (hg.block b h.lt (fun e => hr e.symm))
/-- the map tells which boards are among the plays -/
def KmOk (P c : Int) (f : ByteArray → Bool) (out : List Pl) : Prop := ∀ xs ys, SV P c xs → SV P c ys → f (kyS xs ys) = hasB out xs ys
theorem KmOk.nil (P c : Int) : KmOk P c (fun _ => false) [] := fun _ _ _ _ => rfl
theorem hasB_snoc (out : List Pl) (p : Pl) (xs ys : List Int) : hasB (out ++ [p]) xs ys = (hasB out xs ys || (decide (p.own = xs) && decide (p.oth = ys))) := by simp [hasB]
theorem KmOk.add {P c : Int} {f : ByteArray → Bool} {out : List Pl} (h : KmOk P c f out) (hc : c ≤ 15) {p : Pl} (h1 : SV P c p.own) (h2 : SV P c p.oth) : KmOk P c (fun t => decide (t = kyS p.own p.oth) || f t) (out ++ [p]) := by
  intro xs ys hx hy
  show (decide (kyS xs ys = kyS p.own p.oth) || f (kyS xs ys)) = _
  rw [h xs ys hx hy, hasB_snoc, Bool.or_comm]
  congr 1
  by_cases e : p.own = xs ∧ p.oth = ys
  · obtain ⟨rfl, rfl⟩ := e
    simp
  · have : kyS xs ys ≠ kyS p.own p.oth := fun q => e (by
      obtain ⟨a, b⟩ := kyS_inj (by rw [hx.len, h1.len]) (sv_mem hx hc) (sv_mem hy hc) (sv_mem h1 hc) (sv_mem h2 hc) q
      exact ⟨a.symm, b.symm⟩)
    rw [decide_eq_false this]
    rcases Decidable.not_and_iff_or_not.1 e with q | q
    · rw [decide_eq_false q]; rfl
    · rw [decide_eq_false q]; simp
theorem nxS_yes {P : Int} {p : Pl} {out : List Pl} {s : St} (h : hasB out (ownA p.own s) (othA P p.oth s) = true) : nxS P p out s = out := by unfold nxS; rw [h]; rfl
theorem nxS_no {P : Int} {p : Pl} {out : List Pl} {s : St} (h : hasB out (ownA p.own s) (othA P p.oth s) = false) : nxS P p out s = out ++ [⟨p.st ++ [s], ownA p.own s, othA P p.oth s⟩] := by unfold nxS; rw [h]; rfl
/-- append of one play: where the list lies then -/
theorem app_pl_at {ops : Array Oper} {rest : List Oper} {o : Oper} {a : Act} {Q : Exit → Act → World → Prop} {w : World} {base N : Nat} {v : Value} {l : List Pl} (hgd : o.guard = none) (s y : Operand)
    (ho : o.op = .call { callee := .builtin .append, args := #[s, y], argTypes := #[45, 45] })
    (hs : a.eval s = v) (hown : PlsO w base N v l) (b : Nat) (hy : a.eval y = .slice (some ⟨b, 0, none⟩) 1 1) (x : Pv) (p : Pl) (hx : PvOk w w.heap.size N x p) (c0 : w.cell? ⟨b, 0, none⟩ = some (.slice x.sa x.sn x.sc)) (c1 : w.cell? ⟨b, 1, none⟩ = some (.slice x.oa N x.oc)) (c2 : w.cell? ⟨b, 2, none⟩ = some (.slice x.ta N x.tc)) (hn : l.length ≤ 8000000) (hbase : base ≤ w.heap.size)
    (h : ∀ g cap w', PlsO w' base N (.slice (some ⟨g, 0, none⟩) (l.length + 1) cap) (l ++ [p]) → w.grownBy w' v.ownBlock → (v.ownBlock = some g ∨ g = w.heap.size) → wpList Try.prog ops Q rest (a.put o.dst (.slice (some ⟨g, 0, none⟩) (l.length + 1) cap)) w') : wpList Try.prog ops Q (o :: rest) a w := by
  obtain ⟨L, h1, h2, h3⟩ := hown
  obtain ⟨i, hi, hz, hsize, hb⟩ := info_parts info_play
  refine wpList_append_lies _ hgd s y 45 ho base 70 i _ 3 72 Try.underlying45 hi hz hsize hb rfl (by omega) v _ _ hs h2 ⟨b, 0, none⟩ 1 1 (pvC N x) hy rfl (pl_news c0 c1 c2) (pvC_one N x) (by omega) (by unfold maxLen; omega) (by omega) hbase w.heap.size rfl ?_
  intro g cap w' hv' hg' hl _
  exact h g cap w' (PlsO.app h1 h2 h3 hx hv' hg') hg' hl
end Go.Proofs.Ytjfmpnkbocilpaa
