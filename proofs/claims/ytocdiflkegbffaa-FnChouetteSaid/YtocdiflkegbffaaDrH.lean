/-
  DrawChouetteScores: the order and the games that it draws.
-/
import Derived.Test.YtocdiflkegbffaaDrC
namespace Go.Proofs.Ytocdiflkegbffaa
open Go.ChangeShapes Go.WideShapes Go.ChangeAt Go.RowKit
set_option linter.unusedVariables false

theorem own_blk {w w' : World} {base : Nat} {t : TypeId} {sz : Nat} {v : Value} {n : Nat} {vs : List Value} (h : w.ownsRow base t sz v n vs) (hk : ∀ b, v.ownBlock = some b → w'.heap[b]? = w.heap[b]?) : w'.ownsRow base t sz v n vs := by
  obtain ⟨h0, h1 | ⟨g', cap', cur, h1, h2, h3, h4⟩⟩ := h
  · exact ⟨h0, .inl h1⟩
  · exact ⟨h0, .inr ⟨g', cap', cur, h1, h2, (hk g' (by rw [h1]; rfl)).trans h3, h4⟩⟩
theorem own_in {w : World} {base : Nat} {t : TypeId} {sz : Nat} {v : Value} {n : Nat} {vs : List Value} (h : w.ownsRow base t sz v n vs) : ∀ b, v.ownBlock = some b → base ≤ b ∧ b < w.heap.size := by
  intro b hb
  obtain ⟨h0, ⟨h1, h2⟩ | ⟨g', cap', cur, h1, h2, h3, h4⟩⟩ := h
  · rw [h1] at hb; cases hb
  · rw [h1] at hb
    have e : g' = b := by simpa [Value.ownBlock] using hb
    subst e
    refine ⟨h2, ?_⟩
    rcases Nat.lt_or_ge g' w.heap.size with h | h
    · exact h
    · rw [Array.getElem?_eq_none h] at h3; cases h3
/-- a list of integers stays where an own list of other things grows -/
theorem row_keep {w w' : World} {base lo hi m n : Nat} {t t' : TypeId} {sz : Nat} {v : Value} {vs : List Value} {A : Option Addr} {f : Nat → Value} (hr : RowN w lo hi t' A m f) (h : w.ownsRow base t sz v n vs) (ht : t ≠ t') (hg : w.grownBy w' v.ownBlock) : RowN w' lo hi t' A m f := by
  rcases hr with h1 | ⟨g', e, h1, h2, N, f', h3, h4, h5⟩
  · exact .inl h1
  · refine .inr ⟨g', e, h1, h2, N, f', h3, h4.of_block (hg.block g' h4.lt (fun e' => ?_)), h5⟩
    obtain ⟨h0, ⟨k1, k2⟩ | ⟨g2, cap', cur, k1, k2, k3, k4⟩⟩ := h
    · rw [k1] at e'; cases e'
    · rw [k1] at e'
      have e2 : g2 = g' := by simpa [Value.ownBlock] using e'.symm
      subst e2
      obtain ⟨c, hb2, _, _⟩ := h4
      rw [k3] at hb2
      injection hb2 with hb2
      injection hb2 with _ hb2
      exact ht hb2
theorem row_belowB {w w' : World} {lo hi m B : Nat} {t : TypeId} {A : Option Addr} {f : Nat → Value} (hr : RowN w lo hi t A m f) (hb : Below B w w') (hB : hi ≤ B) : RowN w' lo hi t A m f := by
  rcases hr with h1 | ⟨g', e, h1, h2, N, f', h3, h4, h5⟩
  · exact .inl h1
  · exact .inr ⟨g', e, h1, h2, N, f', h3, h4.of_block (hb.block g' (by omega)), h5⟩
def slV (A : Nat → Option Addr) (ln C : Nat → Nat) (i : Nat) : Value := .slice (A i) (ln i) (C i)
/-- an own list of lists of integers that grows -/
def GL (w : World) (base : Nat) (o : Value) (N : Nat) (A : Nat → Option Addr) (ln C : Nat → Nat) (X : Nat → List Int) : Prop :=
  w.ownsRow base 29 1 o N ((List.range N).map (slV A ln C)) ∧ ∀ i, i < N → RowN w base w.heap.size 2 (A i) (ln i) (icell .i64 (X i)) ∧ (X i).length = ln i ∧ ln i ≤ 16
section
variable {w w' w5 : World} {base N : Nat} {o : Value} {A : Nat → Option Addr} {ln C : Nat → Nat} {X : Nat → List Int}
theorem GL.src (h : GL w base o N A ln C X) {g : Nat} (hg : w.grownBy w' (some g)) (hl : g < base) : GL w' base o N A ln C X :=
  ⟨own_blk h.1 (fun b e => hg.block b (own_in h.1 b e).2 (fun e' => by have := own_in h.1 b e; injection e' with e'; omega)), fun i hi => ⟨((h.2 i hi).1.grown hg (.inl hl)).wide (Nat.le_refl _) hg.size, (h.2 i hi).2⟩⟩
theorem GL.alloc (h : GL w base o N A ln C X) (x : Obj) : GL (w.alloc x) base o N A ln C X := by
  have hb := (Below.refl w.heap.size w).alloc (Nat.le_refl _) x
  exact ⟨World.ownsRow.alloc h.1 x, fun i hi => ⟨((h.2 i hi).1.below hb).wide (Nat.le_refl _) hb.size, (h.2 i hi).2⟩⟩
theorem GL.push {o' : Value} {A' : Option Addr} {m d : Nat} {ys : List Int} (h : GL w base o N A ln C X) (hr : RowN w base w.heap.size 2 A' m (icell .i64 ys)) (hl : ys.length = m) (hm : m ≤ 16)
    (ho : w5.ownsRow base 29 1 o' (N + 1) ((List.range N).map (slV A ln C) ++ [.slice A' m d])) (hg : w.grownBy w5 o.ownBlock) :
    ∃ A2 ln2 C2 X2, GL w5 base o' (N + 1) A2 ln2 C2 X2 := by
  refine ⟨fun j => if j = N then A' else A j, fun j => if j = N then m else ln j, fun j => if j = N then d else C j, fun j => if j = N then ys else X j, ?_, fun i hi => ?_⟩
  · have e : (List.range N).map (slV A ln C) ++ [.slice A' m d] = (List.range (N + 1)).map (slV (fun j => if j = N then A' else A j) (fun j => if j = N then m else ln j) (fun j => if j = N then d else C j)) := by
      rw [List.range_succ, List.map_append]
      congr 1
      · refine List.map_congr_left fun j hj => ?_
        have := List.mem_range.1 hj
        simp only [slV, if_neg (show ¬ j = N by omega)]
      · simp [slV]
    rw [← e]; exact ho
  · by_cases e : i = N
    · subst e
      simp only [if_true]
      exact ⟨(row_keep hr h.1 (by decide) hg).wide (Nat.le_refl _) hg.size, hl, hm⟩
    · simp only [if_neg e]
      have := h.2 i (by omega)
      exact ⟨(row_keep this.1 h.1 (by decide) hg).wide (Nat.le_refl _) hg.size, this.2⟩
theorem GL.gms (h : GL w base o N A ln C X) : ∃ av cv, o = .slice av N cv ∧ Gms w w.heap.size av N A ln C X := by
  have hi := fun i hi => (h.2 i hi).1.ints (h.2 i hi).2.1
  have h' := h.1
  obtain ⟨⟨h0, ⟨h1, h2⟩ | ⟨g', cap', cur, h1, h2, h3, h4, _⟩⟩, _⟩ := h
  · exact ⟨none, 0, by rw [h1, h2], fun hn => absurd hn (by omega), fun i hi => absurd hi (by omega)⟩
  · subst h1
    refine ⟨_, cap', rfl, fun hn => ?_, hi⟩
    have hr := RowN.of_own h'
    rw [Nat.mul_one] at hr
    obtain ⟨g2, e, _, _, hlt, hc⟩ := hr.blk hn
    injection e with e; injection e with e; subst e
    refine ⟨g', 0, rfl, hlt, fun i hi => ?_⟩
    rw [Nat.zero_add, (hc i hi).1]
    simp [slV, List.getD_eq_getElem?_getD, hi]
theorem GL.len (h : GL w base o N A ln C X) : ∃ av cv, o = .slice av N cv := by
  obtain ⟨av, cv, e, _⟩ := h.gms
  exact ⟨av, cv, e⟩
end
theorem app_sl {ops : Array Oper} {rest : List Oper} {o : Oper} {a : Act} {Q : Exit → Act → World → Prop} {w : World} {base n : Nat} {v r : Value} {vs : List Value} (hgd : o.guard = none) (s x : Operand)
    (ho : o.op = .call { callee := .builtin .append, args := #[s, x], argTypes := #[53, 53] })
    (hs : a.eval s = v) (hown : w.ownsRow base 29 1 v n vs) (b : Nat) (hx : a.eval x = .slice (some ⟨b, 0, none⟩) 1 1) (h0 : w.cell? ⟨b, 0, none⟩ = some r) (hr : r.oneCell' = true) (hn : n ≤ 1000) (hbase : base ≤ w.heap.size)
    (h : ∀ v' w', w'.ownsRow base 29 1 v' (n + 1) (vs ++ [r]) → w.grownBy w' v.ownBlock → wpList Try.prog ops Q rest (a.put o.dst v') w') : wpList Try.prog ops Q (o :: rest) a w := by
  obtain ⟨i, hi, hz, hsize, hb⟩ := info_parts info_is1
  refine wpList_append_own _ hgd s x 53 ho base 29 i (.slice none 0 0) 1 24 Try.underlying53 hi hz hsize hb rfl (by omega) v n _ hs hown ⟨b, 0, none⟩ 1 1 [r] hx rfl (one_news h0) (by intro u hu; simp at hu; subst hu; exact hr) (by unfold maxLen; omega) (by omega) hbase ?_
  intro v' w' hv' hg' _
  exact h v' w' hv' hg'
/-- what DrawChouetteScores returns -/
def DcPost (w : World) (e : Ending) (w' : World) : Prop :=
  ∃ (b m d : Nat) (ys : List Int) (av : Option Addr) (N cv : Nat) (A : Nat → Option Addr) (ln C : Nat → Nat) (X : Nat → List Int), e = .returned (.tuple #[.slice (some ⟨b, 0, none⟩) m d, .slice av N cv]) ∧ (1 ≤ m ∧ m ≤ 5 ∧ m ≤ d ∧ N ≤ 61) ∧
    Ints w' w'.heap.size .i64 (some ⟨b, 0, none⟩) m ys ∧ Gms w' w'.heap.size av N A ln C X ∧ (∀ i, i < N → ln i ≤ 16) ∧ Below w.heap.size w w'
def lenS (v : Value) : Nat := match v with | .slice _ n _ => n | _ => 0
theorem dc_end {w wr : World} {b m d base N lo hi : Nat} {ys : List Int} {o : Value} {A : Nat → Option Addr} {ln C : Nat → Nat} {X : Nat → List Int} (hg : GL wr base o N A ln C X) (hr : RowN wr lo hi 2 (some ⟨b, 0, none⟩) m (icell .i64 ys)) (hl : ys.length = m) (h1 : 1 ≤ m) (h5 : m ≤ 5) (hd : m ≤ d) (hN : N ≤ 61) (hb : Below w.heap.size w wr) :
    DcPost w (.returned (.tuple #[.slice (some ⟨b, 0, none⟩) m d, o])) wr := by
  obtain ⟨av, cv, rfl, hgm⟩ := hg.gms
  exact ⟨b, m, d, ys, av, N, cv, A, ln, C, X, rfl, ⟨h1, h5, hd, hN⟩, hr.ints hl, hgm, fun i hi => (hg.2 i hi).2.2, hb⟩
set_option maxRecDepth 16000 in
set_option maxHeartbeats 3200000 in
theorem DrawChouetteScores_any (a : Option Addr) (n c : Nat) (xs : List Int) (w : World) (h : IntsArg w .u8 a n xs) (hn : n ≤ 4096) :
    Calls Try.prog 47 #[.slice a n c] w fun e w' => DcPost w e w' := by
  go_enter Try.func47, Try.ntmps47
  go_wp2_with fail
  refine (from_dr a n c xs w h hn).mono ?_
  rintro e w1 ⟨rfl, hd1⟩
  have NX := Lib.hid (fun m W hm hD => next_dr m w w.heap.size a n c xs W hD hm)
  have hlt := hd1.lt
  have OD := Lib.hid (l21DrawOrder_dr w w.heap.size a n c xs w1 hd1)
  clear hd1 h
  go_wp2_with fail
  refine OD.out.mono ?_
  rintro e w2 ⟨b, m, d, ys, rfl, m1, m5, md, hl, hr2, hd2, hg2⟩
  have z2 := hg2.size
  have HL := Lib.hid hl
  have HR2 := Lib.hid (hr2.below ((Below.refl w2.heap.size w2).alloc (Nat.le_refl _) (.cells #[] 29)))
  have D2 := Lib.hid (hd2.alloc (.cells #[] 29))
  have hbase : w.heap.size < w2.heap.size := by omega
  have GL2 : Hid (GL (w2.alloc (.cells #[] 29)) w2.heap.size (.slice (some ⟨w2.heap.size, 0, none⟩) 0 0) 0 (fun _ => none) (fun _ => 0) (fun _ => 0) (fun _ => [])) := Lib.hid ⟨World.ownsRow_lit w2 #[] 0 (Nat.le_refl _) (Nat.zero_le _) rfl, fun i hi => absurd hi (by omega)⟩
  have em : ((m - 1 : Nat) : Int) = (m : Int) - 1 := by omega
  have OT := Lib.hid (fun W (hD : Drawing w w.heap.size a n c xs W) => em ▸ l21DrawOutcomes_dr w w.heap.size a n c xs (m - 1) W hD (by omega))
  have MK := Lib.hid (fun W => em ▸ make_i64 (m - 1) (by omega) W)
  have MR := Lib.hid (fun (W : World) => show (W.alloc (.cells (madeCells #[.int .i64 0] (m - 1)) 2)).rowIs W.heap.size 2 (m - 1) (icell .i64 (List.replicate (m - 1) 0)) from (World.rowIs_made W (.int .i64 0) (m - 1) 2).congr (fun j hj => by
    show Value.int .i64 0 = .int .i64 ((List.replicate (m - 1) (0 : Int)).getD j 0)
    rw [List.getD_eq_getElem?_getD, List.getElem?_replicate, if_pos hj]
    rfl))
  clear hl hr2 hd2 hg2 OD em
  go_wp2_with fail
  refine (NX.out 6 _ (by omega) D2.out).mono ?_
  rintro e w3 ⟨r0, rfl, r1, r2, hd3, hg3⟩
  have r3 : r0 < 6 := by omega
  have z3 := hg3.size
  simp only [World.size_alloc] at z3
  have D3 := Lib.hid hd3
  have GL3 := Lib.hid (GL2.out.src hg3 hbase)
  have HR3 := Lib.hid (HR2.out.grown hg3 (.inl hlt))
  clear r2 hd3 hg3 D2 GL2 HR2
  go_wp2_with fail
  go_loopw [6, 7] (fun o r wr => ∃ (ov : Value) (N : Nat) (q : Int) (A : Nat → Option Addr) (ln C : Nat → Nat) (X : Nat → List Int), ov = o ∧ r = .int .i64 q ∧ 0 ≤ q ∧ q + N ≤ 5 ∧ w2.heap.size < wr.heap.size ∧ Hid (GL wr w2.heap.size ov N A ln C X) ∧ Hid (RowN wr w1.heap.size w2.heap.size 2 (some ⟨b, 0, none⟩) m (icell .i64 ys)) ∧ Hid (Drawing w w.heap.size a n c xs wr)) (fun _ r _ => (intOf r).toNat)
  case atStart => exact ⟨_, 0, r0, _, _, _, _, rfl, rfl, r1, by omega, by omega, GL3, HR3, D3⟩
  case round =>
    obtain ⟨ov, N, q, A, ln, C, X, rfl, rfl, q0, q1, zr, HG, HR, HD⟩ := hrel
    by_cases hq : 0 < q
    · go_wp2_with fail
      refine (OT.out _ HD.out).mono ?_
      rintro e w4 ⟨A', m', d', zs, rfl, hm', hzl, hr4, hd4, hg4⟩
      have z4 := hg4.size
      have GL4 := Lib.hid ((HG.out.src hg4 hbase).alloc (.cells #[.slice A' m' d'] 29))
      have HR4 := Lib.hid (HR.out.grown hg4 (.inl hlt))
      have HZ := Lib.hid (((hr4.wide (by omega) (Nat.le_refl _)).below ((Below.refl w4.heap.size w4).alloc (Nat.le_refl _) (.cells #[.slice A' m' d'] 29))).wide (lo' := w2.heap.size) (hi' := (w4.alloc (.cells #[.slice A' m' d'] 29)).heap.size) (Nat.le_refl _) (by simp))
      have HZL := Lib.hid hzl
      have D4 := Lib.hid hd4
      have X0 := Lib.hid (show (w4.alloc (.cells #[.slice A' m' d'] 29)).cell? ⟨w4.heap.size, 0, none⟩ = some (.slice A' m' d') from new_cell w4 #[.slice A' m' d'] 29 0)
      clear hzl hr4 hd4 hg4
      go_wp2_with (at_builtin; refine app_sl rfl (.tmp 19) (.tmp 25) rfl rfl GL4.out.1 w4.heap.size rfl X0.out rfl (by omega) (by simp; omega) ?_; intro v5 w5 ho5 hg5; obtain ⟨A2, ln2, C2, X2, hGL⟩ := GL4.out.push HZ.out HZL.out (by omega) ho5 hg5; have HGL := Lib.hid hGL; have HB5 := Lib.hid (((Below.refl w2.heap.size w4).alloc (by omega) (.cells #[.slice A' m' d'] 29)).grown hg5 (by simp; omega) (fun b e => (own_in GL4.out.1 b e).1)); have z5 := HB5.out.size; clear ho5 hg5 hGL)
      go_roundw
      case rel => exact ⟨_, N + 1, q - 1, _, _, _, _, rfl, by go_num, by omega, by omega, by omega, HGL, Lib.hid (row_belowB HR4.out HB5.out (Nat.le_refl _)), Lib.hid (D4.out.keepB HB5.out hbase)⟩
      case measure => simp [intOf]; omega
    · have hN5 : N ≤ 5 := by omega
      go_wp2_with fail
      refine (NX.out 30 _ (by omega) HD.out).mono ?_
      rintro e w4 ⟨x, rfl, x1, x2, hd4, hg4⟩
      have z4 := hg4.size
      have GL4 := Lib.hid (HG.out.src hg4 hbase)
      have HR4 := Lib.hid (HR.out.grown hg4 (.inl hlt))
      have D4 := Lib.hid hd4
      clear x2 hd4 hg4
      by_cases h0 : x = 0
      · subst h0
        go_wp2_with fail
        go_loopw [6] (fun o wr => ∃ (ov : Value) (N : Nat) (A : Nat → Option Addr) (ln C : Nat → Nat) (X : Nat → List Int), ov = o ∧ N ≤ 61 ∧ w2.heap.size < wr.heap.size ∧ Hid (GL wr w2.heap.size ov N A ln C X) ∧ Hid (RowN wr w1.heap.size w2.heap.size 2 (some ⟨b, 0, none⟩) m (icell .i64 ys)) ∧ Hid (Drawing w w.heap.size a n c xs wr)) (fun o _ => 61 - lenS o)
        case atStart => exact ⟨_, N, _, _, _, _, rfl, by omega, by omega, GL4, HR4, D4⟩
        case round =>
          obtain ⟨ov, N, A, ln, C, X, rfl, hN, zr, HG, HR, HD⟩ := hrel
          obtain ⟨av, cv, hov⟩ := HG.out.len
          subst hov
          go_wp2_with fail
          refine (NX.out 2 _ (by omega) HD.out).mono ?_
          rintro e w6 ⟨y, rfl, y1, y2, hd6, hg6⟩
          have y3 : y < 2 := by omega
          have z6 := hg6.size
          have GL6 := Lib.hid (HG.out.src hg6 hbase)
          have HR6 := Lib.hid (HR.out.grown hg6 (.inl hlt))
          have D6 := Lib.hid hd6
          clear y2 hd6 hg6
          by_cases hlN : (N : Int) < 60 + y
          · have hmk := MK.out w6
            obtain ⟨W7, hW7⟩ : ∃ W, w6.alloc (.cells (madeCells #[.int .i64 0] (m - 1)) 2) = W := ⟨_, rfl⟩
            have mr := MR.out w6
            have hb7 := (Below.refl w6.heap.size w6).alloc (Nat.le_refl _) (.cells (madeCells #[.int .i64 0] (m - 1)) 2)
            have gl7 := GL6.out.alloc (.cells (madeCells #[.int .i64 0] (m - 1)) 2)
            rw [hW7] at hmk mr hb7 gl7
            have z7 : w6.heap.size < W7.heap.size := mr.lt
            have D7 := Lib.hid (D6.out.after hb7)
            have HR7 := Lib.hid (HR6.out.below hb7)
            have GL7 := Lib.hid (gl7.alloc (.cells #[.slice (some ⟨w6.heap.size, 0, none⟩) (m - 1) (m - 1)] 29))
            have HZ := Lib.hid (((RowN.of_row (lo := w2.heap.size) (hi := W7.heap.size) mr (by omega) z7).below ((Below.refl W7.heap.size W7).alloc (Nat.le_refl _) (.cells #[.slice (some ⟨w6.heap.size, 0, none⟩) (m - 1) (m - 1)] 29))).wide (lo' := w2.heap.size) (hi' := (W7.alloc (.cells #[.slice (some ⟨w6.heap.size, 0, none⟩) (m - 1) (m - 1)] 29)).heap.size) (Nat.le_refl _) (by simp))
            have X0 := Lib.hid (show (W7.alloc (.cells #[.slice (some ⟨w6.heap.size, 0, none⟩) (m - 1) (m - 1)] 29)).cell? ⟨W7.heap.size, 0, none⟩ = some (.slice (some ⟨w6.heap.size, 0, none⟩) (m - 1) (m - 1)) from new_cell W7 #[.slice (some ⟨w6.heap.size, 0, none⟩) (m - 1) (m - 1)] 29 0)
            clear mr hb7 gl7 hW7
            go_wp2_with (at_builtin; refine app_sl rfl (.tmp 36) (.tmp 41) rfl rfl GL7.out.1 W7.heap.size rfl X0.out rfl (by omega) (by simp; omega) ?_; intro v8 w8 ho8 hg8; obtain ⟨A2, ln2, C2, X2, hGL⟩ := GL7.out.push HZ.out (by simp) (by omega) ho8 hg8; have HGL := Lib.hid hGL; have HB8 := Lib.hid (((Below.refl w2.heap.size W7).alloc (by omega) (.cells #[.slice (some ⟨w6.heap.size, 0, none⟩) (m - 1) (m - 1)] 29)).grown hg8 (by simp; omega) (fun b e => (own_in GL7.out.1 b e).1)); have z8 := HB8.out.size; obtain ⟨av8, cv8, hv8⟩ := hGL.len; subst hv8; clear ho8 hg8 hGL)
            go_roundw
            case rel => exact ⟨_, N + 1, _, _, _, _, rfl, by omega, by omega, HGL, Lib.hid (row_belowB HR7.out HB8.out (Nat.le_refl _)), Lib.hid (D7.out.keepB HB8.out hbase)⟩
            case measure => simp [lenS]; omega
          · go_wp2_with fail
            go_ret2
            exact dc_end GL6.out HR6.out HL.out m1 m5 md hN D6.out.below
      · have h0' : (x == 0) = false := by simpa using h0
        go_wp2_with fail
        go_ret2
        exact dc_end GL4.out HR4.out HL.out m1 m5 md (by omega) D4.out.below
end Go.Proofs.Ytocdiflkegbffaa
