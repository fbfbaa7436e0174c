/-
  Lists of results that grow; lists that were drawn; the draws of sessions.
-/
import Derived.Test.YtocdiflkegbffaaDrK
import Derived.Test.YtocdiflkegbffaaRec
import Derived.Test.YtocdiflkegbffaaBal
import Derived.StillTailTactics
import Derived.RegionTactic
import Derived.BigRegion
import Derived.Deep.RegionWith
import Derived.Deep.RegionHeld3
namespace Go.Proofs.Ytocdiflkegbffaa
open Go.ChangeShapes Go.WideShapes Go.ChangeAt Go.RowKit
set_option linter.unusedVariables false

/-- v is a slice of n results with the cells xs, nil or own, from block base on -/
def Gg (w : World) (base : Nat) (v : Value) (n : Nat) (xs : List Int) : Prop := w.ownsRow base 65 3 v n (xs.map (.int .i64))
section
variable {w w' : World} {base n : Nat} {v : Value} {xs : List Int}
theorem Gg.nil (w : World) (base : Nat) : Gg w base (.slice none 0 0) 0 [] := World.ownsRow_nil _ _ _ _
theorem Gg.new (w : World) (base : Nat) (hb : base ≤ w.heap.size) : Gg (w.alloc (.cells #[] 65)) base (.slice (some ⟨w.heap.size, 0, none⟩) 0 0) 0 [] :=
  World.ownsRow_lit w #[] 0 hb (Nat.zero_le _) rfl
theorem Gg.alloc (h : Gg w base v n xs) (o : Obj) : Gg (w.alloc o) base v n xs := World.ownsRow.alloc h o
theorem Gg.drewN (h : Gg w base v n xs) (k : Nat) : Gg (w.drewN k) base v n xs := h
theorem Gg.len (h : Gg w base v n xs) : xs.length = n * 3 := by have := h.1; rwa [List.length_map] at this
theorem Gg.set (h : Gg w base v n xs) {g i : Nat} (hg : g < base) (u : Value) : Gg (w.setCell ⟨g, i, none⟩ u) base v n xs := by
  obtain ⟨h0, h1 | ⟨g', cap', cur, h1, h2, h3, h4⟩⟩ := h
  · exact ⟨h0, .inl h1⟩
  · exact ⟨h0, .inr ⟨g', cap', cur, h1, h2, (Deep.blk_setCell_other _ _ _ _ (by show g' ≠ g; omega)).trans h3, h4⟩⟩
theorem Gg.below (h : Gg w base v n xs) (hb : Below w.heap.size w w') : Gg w' base v n xs := by
  obtain ⟨h0, h1 | ⟨g', cap', cur, h1, h2, h3, h4⟩⟩ := h
  · exact ⟨h0, .inl h1⟩
  · have hl : g' < w.heap.size := by
      rcases Nat.lt_or_ge g' w.heap.size with h | h
      · exact h
      · rw [Array.getElem?_eq_none h] at h3; cases h3
    exact ⟨h0, .inr ⟨g', cap', cur, h1, h2, (hb.block g' hl).trans h3, h4⟩⟩
theorem Gg.row (h : Gg w base v n xs) : ∃ a c, v = .slice a n c ∧ RowN w base w.heap.size 65 a (n * 3) (icell .i64 xs) := by
  have hl := h.len
  have h' := h
  obtain ⟨h0, ⟨h1, h2⟩ | ⟨g', cap', cur, h1, h2, h3, h4, _⟩⟩ := h
  · exact ⟨none, 0, by rw [h1, h2], .inl (by omega)⟩
  · subst h1
    exact ⟨_, cap', rfl, (RowN.of_own h').congr fun i hi => ints_getD .i64 xs (by omega)⟩
theorem info_gg3 : (Try.prog.info? 65).map (fun i => (i.zero, i.size, i.bytes)) = some (some (.agg #[.int .i64 0, .int .i64 0, .int .i64 0]), 3, 24) := by kernel_rfl
theorem gg_ints {x y z : Int} : ∀ u ∈ [Value.int .i64 x, Value.int .i64 y, Value.int .i64 z], u.oneCell' = true := by
  intro u hu
  rcases List.mem_cons.1 hu with rfl | hu
  · rfl
  · rcases List.mem_cons.1 hu with rfl | hu
    · rfl
    · rcases List.mem_cons.1 hu with rfl | hu
      · rfl
      · cases hu
theorem gg_cell (W : World) (x y z : Int) (t : TypeId) (j : Nat) (u : Value) (hj : [Value.int .i64 x, Value.int .i64 y, Value.int .i64 z][j]? = some u) : (W.alloc (.cells #[.int .i64 x, .int .i64 y, .int .i64 z] t)).cell? ((⟨W.heap.size, 0, none⟩ : Addr).add j) = some u := by
  have e : (⟨W.heap.size, 0, none⟩ : Addr).add j = ⟨W.heap.size, j, none⟩ := by by_cases h0 : j = 0 <;> simp [Addr.add, h0]
  rw [e, new_cell]
  simpa using hj
/-- append one result -/
theorem app_game {ops : Array Oper} {rest : List Oper} {o : Oper} {a : Act} {Q : Exit → Act → World → Prop} (hgd : o.guard = none) (s x : Operand)
    (ho : o.op = .call { callee := .builtin .append, args := #[s, x], argTypes := #[25, 25] })
    (hs : a.eval s = v) (W : World) (hown : Gg W base v n xs) (p q r : Int) (m : Nat) (hw : w = (W.alloc (.cells #[.int .i64 p, .int .i64 q, .int .i64 r] 65)).drewN m) (b : Nat) (hbb : b = W.heap.size) (hx : a.eval x = .slice (some ⟨b, 0, none⟩) 1 1) (hn : n ≤ 1000) (hbase : base ≤ W.heap.size)
    (h : ∀ v' w', Gg w' base v' (n + 1) (xs ++ [p, q, r]) → Below base W w' → wpList Try.prog ops Q rest (a.put o.dst v') w') : wpList Try.prog ops Q (o :: rest) a w := by
  obtain ⟨i, hi, hz, hsize, hb⟩ := info_parts info_gg3
  subst hw hbb
  refine wpList_append_own _ hgd s x 25 ho base 65 i (.agg #[.int .i64 0, .int .i64 0, .int .i64 0]) 3 24 Try.underlying25 hi hz hsize hb rfl (by omega) v n _ hs ((show World.ownsRow _ base 65 3 v n (xs.map (.int .i64)) from World.ownsRow.alloc hown _)) ⟨W.heap.size, 0, none⟩ 1 1 [.int .i64 p, .int .i64 q, .int .i64 r] hx rfl (gg_cell W p q r _) gg_ints (by unfold maxLen; omega) (by omega) (by simp; omega) ?_
  intro v' w' hv' hg' _
  refine h v' w' ?_ ?_
  · unfold Gg
    rw [List.map_append]
    exact hv'
  · refine (below_drewN ((Below.refl base W).alloc hbase _) m).grown hg' (by simp; omega) fun k e => ?_
    obtain ⟨h0, ⟨h1, h2⟩ | ⟨g', cap', cur, h1, h2, _⟩⟩ := hown
    · subst h1; cases e
    · subst h1; have e' : g' = k := by simpa [Value.ownBlock] using e
      omega
end


section
variable {w w' : World} {base n : Nat} {v : Value} {xs : List Int}
theorem Gg.iv (h : Gg w base v n xs) : ∃ A d, v = .slice A n d ∧ Iv w base A (n * 3) xs := by
  have hl := h.len
  have h' := h
  obtain ⟨h0, ⟨h1, h2⟩ | ⟨g', cap', cur, h1, h2, h3, h4, _⟩⟩ := h
  · subst h2
    exact ⟨none, 0, h1, ⟨hl, fun hm => absurd hm (by omega)⟩, fun b o t e => by cases e⟩
  · subst h1
    have hr := (RowN.of_own h').congr (f' := icell .i64 xs) fun i hi => ints_getD .i64 xs (by omega)
    exact ⟨_, cap', rfl, hr.ints hl, fun b o t e => by cases e; exact h2⟩
theorem Gg.grown (h : Gg w base v n xs) {g : Nat} (hg : w.grownBy w' (some g)) (hl : g < base) : Gg w' base v n xs := by
  obtain ⟨h0, h1 | ⟨g', cap', cur, h1, h2, h3, h4⟩⟩ := h
  · exact ⟨h0, .inl h1⟩
  · have hlt : g' < w.heap.size := by
      rcases Nat.lt_or_ge g' w.heap.size with h | h
      · exact h
      · rw [Array.getElem?_eq_none h] at h3; cases h3
    exact ⟨h0, .inr ⟨g', cap', cur, h1, h2, (hg.block g' hlt (fun e => by cases e; omega)).trans h3, h4⟩⟩
/-- append one result, at a step of a region that draws -/
theorem step_app_game {ops : Array Oper} {o : Oper} {a : Act} {K : Act → World → Prop} {Q : Exit → Act → World → Prop} {E : Prop} (hgd : o.guard = none) (s x : Operand)
    (ho : o.op = .call { callee := .builtin .append, args := #[s, x], argTypes := #[25, 25] })
    (hs : a.eval s = v) (W : World) (hown : Gg W base v n xs) (p q r : Int) (hw : w = W.alloc (.cells #[.int .i64 p, .int .i64 q, .int .i64 r] 65)) (b : Nat) (hbb : b = W.heap.size) (hx : a.eval x = .slice (some ⟨b, 0, none⟩) 1 1) (hn : n ≤ 1000) (hbase : base ≤ W.heap.size)
    (h : ∀ v' w', Gg w' base v' (n + 1) (xs ++ [p, q, r]) → Below base W w' → K (a.put o.dst v') w') :
    if Region.wanted o (yielded ops a.tmps) = true then Oper.wp Try.prog o a w K Q else E := by
  obtain ⟨i, hi, hz, hsize, hb⟩ := info_parts info_gg3
  subst hw hbb
  refine step_append_lies _ hgd s x 25 ho base 65 i (.agg #[.int .i64 0, .int .i64 0, .int .i64 0]) 3 24 Try.underlying25 hi hz hsize hb rfl (by omega) v n _ hs ((show World.ownsRow _ base 65 3 v n (xs.map (.int .i64)) from World.ownsRow.alloc hown _)) ⟨W.heap.size, 0, none⟩ 1 1 [.int .i64 p, .int .i64 q, .int .i64 r] hx rfl (gg_cell W p q r _) gg_ints (by omega) (by unfold maxLen; omega) (by omega) (by simp; omega) _ rfl ?_
  intro g cap w' hv' hg' _ _
  refine h _ w' ?_ ?_
  · unfold Gg
    rw [List.map_append]
    exact hv'
  · refine ((Below.refl base W).alloc hbase _).grown hg' (by simp; omega) fun k e => ?_
    obtain ⟨h0, ⟨h1, h2⟩ | ⟨g', cap', cur, h1, h2, _⟩⟩ := hown
    · subst h1; cases e
    · subst h1; have e' : g' = k := by simpa [Value.ownBlock] using e
      omega
end
def lenG (v : Value) : Nat := match v with | .slice _ n _ => n | _ => 0
theorem lenG_gg {W : World} {base m : Nat} {v : Value} {xs : List Int} (h : Gg W base v m xs) : lenG v = m := by
  obtain ⟨a, c, rfl, _⟩ := h.row
  rfl
theorem Gg.shape {w : World} {base n : Nat} {v : Value} {xs : List Int} (h : Gg w base v n xs) (h0 : 0 < n) : ∃ gl cap, v = .slice (some ⟨gl, 0, none⟩) n cap ∧ base ≤ gl ∧ RowN w base w.heap.size 65 (some ⟨gl, 0, none⟩) (n * 3) (icell .i64 xs) := by
  obtain ⟨a, c, rfl, hr⟩ := h.row
  obtain ⟨g, rfl, h1, _⟩ := hr.blk (by omega)
  exact ⟨g, c, rfl, h1, hr⟩
theorem Gg.rowOf {w : World} {base n gl cap : Nat} {xs : List Int} (h : Gg w base (.slice (some ⟨gl, 0, none⟩) n cap) n xs) : RowN w base w.heap.size 65 (some ⟨gl, 0, none⟩) (n * 3) (icell .i64 xs) := by
  obtain ⟨a, c, e, hr⟩ := h.row
  injection e with e1 e2 e3
  rw [e1]; exact hr
def SesPost (w0 : World) (g : Nat) (a : Option Addr) (n c : Nat) (xs : List Int) (w : World) (e : Ending) (w' : World) : Prop :=
  ∃ (p : Int) (A : Option Addr) (m d : Nat) (ys : List Int), e = .returned (.tuple #[.int .i64 p, .slice A m d]) ∧ m ≤ 61 ∧ Iv w' w.heap.size A (m * 3) ys ∧ Drawing w0 g a n c xs w' ∧ w.grownBy w' (some g)
theorem ses_end {w0 w w' : World} {g n c base m : Nat} {a : Option Addr} {xs ys : List Int} {p : Int} {v : Value} (hg : Gg w' base v m ys) (hm : m ≤ 61) (hb : w.heap.size ≤ base) (hd : Drawing w0 g a n c xs w') (hgr : w.grownBy w' (some g)) :
    SesPost w0 g a n c xs w (.returned (.tuple #[.int .i64 p, v])) w' := by
  obtain ⟨A, d, rfl, hi⟩ := hg.iv
  exact ⟨p, A, m, d, ys, rfl, hm, hi.lower hb, hd, hgr⟩
theorem ses_set {w0 w w' : World} {g n c base m gl cap i : Nat} {a : Option Addr} {xs ys : List Int} {p u : Int} (hr : RowN w' base w'.heap.size 65 (some ⟨gl, 0, none⟩) (m * 3) (icell .i64 ys)) (hl : ys.length = m * 3) (hi : i < m * 3) (hm : m ≤ 61) (hb : w.heap.size ≤ base) (hgl : g < gl) (hgw : w.heap.size ≤ gl) (hd : Drawing w0 g a n c xs w') (hgr : w.grownBy w' (some g)) :
    SesPost w0 g a n c xs w (.returned (.tuple #[.int .i64 p, .slice (some ⟨gl, 0, none⟩) m cap])) (w'.setCell ⟨gl, i, none⟩ (.int .i64 u)) := by
  refine ⟨p, _, m, cap, ys.set i u, rfl, hm, (iv_row ((hr.set hi (.int .i64 u)).congr fun j _ => icell_set u hl hi j) (by rw [List.length_set]; exact hl) (by omega)).lower hb, hd.setB hgl _, grown_se hgr hgw _⟩
set_option maxRecDepth 16000 in
set_option maxHeartbeats 3200000 in
theorem l21Draw_dr (w0 : World) (g : Nat) (a : Option Addr) (n c : Nat) (xs : List Int) (w : World) (hd : Drawing w0 g a n c xs w) :
    Calls Try.prog 57 #[.pointer (some ⟨g, 0, none⟩)] w fun e w' => SesPost w0 g a n c xs w e w' := by
  have NX := Lib.hid (fun m W hm hD => next_dr m w0 g a n c xs W hD hm)
  have hlt := hd.lt
  have HD := Lib.hid hd
  clear hd
  go_enter Try.func57, Try.ntmps57
  go_wp2_with fail
  refine (NX.out 5 _ (by omega) HD.out).mono ?_
  rintro e w1 ⟨p0, rfl, p1, p2, hd1, hg1⟩
  have p3 : p0 < 5 := by omega
  have z1 := hg1.size
  have D1 := Lib.hid (hd1.alloc (.cells #[] 65))
  have G1 := Lib.hid (grown_al hg1 (.cells #[] 65))
  have O1 := Lib.hid (Gg.new w1 w.heap.size hg1.size)
  clear p2 hd1 hg1
  go_wp2_with fail
  refine (NX.out 9 _ (by omega) D1.out).mono ?_
  rintro e w2 ⟨r0, rfl, r1, r2, hd2, hg2⟩
  have r3 : r0 < 9 := by omega
  have D2 := Lib.hid hd2
  have G2 := Lib.hid (by_trans G1.out hg2)
  have O2 := Lib.hid (O1.out.grown hg2 hlt)
  clear r2 hd2 hg2
  go_wp2_with fail
  go_loopw [5, 6] (fun v r wr => ∃ (m : Nat) (ys : List Int) (q : Int), Gg wr w.heap.size v m ys ∧ r = .int .i64 q ∧ 0 ≤ q ∧ q + m ≤ 8 ∧ Hid (Drawing w0 g a n c xs wr) ∧ Hid (w.grownBy wr (some g))) (fun _ r _ => (intOf r).toNat)
  case atStart => exact ⟨0, [], r0, O2.out, rfl, r1, by omega, D2, G2⟩
  case round =>
    obtain ⟨m, ys, q, hgg, rfl, q0, q1, hD, hG⟩ := hrel
    have zr := hG.out.size
    have HO := Lib.hid hgg
    by_cases hq : 0 < q
    · clear hgg
      go_wp2_with fail
      refine (NX.out (2 + p0) _ (by omega) hD.out).mono ?_
      rintro e w3 ⟨x, rfl, x1, x2, hd3, hg3⟩
      have x3 : x ≤ 5 := by omega
      have D3 := Lib.hid hd3
      have G3 := Lib.hid (by_trans hG.out hg3)
      have O3 := Lib.hid (HO.out.grown hg3 hlt)
      clear x2 hd3 hg3
      go_wp2_with fail
      have D3' := Lib.hid (show Drawing w0 g a n c xs w3.drew from D3.out.drw 1)
      have G3' := Lib.hid (show w.grownBy w3.drew (some g) from by_drew G3.out)
      have O3' := Lib.hid (show Gg w3.drew w.heap.size _ m ys from O3.out.drewN 1)
      have e1 : IntKind.i64.wrap (x + 1) = x + 1 := IntWalk.i64_in _ (by omega)
      have e2 : IntKind.i64.wrap (2 + p0 - 1) = 2 + p0 - 1 := IntWalk.i64_in _ (by omega)
      have e3 : ¬ (2 + p0 = 0) := by omega
      have e3' : ((2 + p0 : Int) == 0) = false := by simp; omega
      go_region_held3 (fun w' => True)
       (first | trivial)
       (first
        | (go_at_call 67; (with_reducible refine (NX.out (2 + p0 - 1) _ (by omega) D3'.out).mono ?_); rintro e w4 ⟨y, rfl, y1, y2, hd4, hg4⟩; have y3 : y ≤ 5 := (by omega); have D4 := Lib.hid hd4; have G4 := Lib.hid (by_trans G3'.out hg4); have O4 := Lib.hid (O3'.out.grown hg4 hlt); clear y2 hd4 hg4; have e4 : IntKind.i64.wrap (x + 1 + y) = x + 1 + y := IntWalk.i64_in _ (by omega))
        | (go_at_call 67; (with_reducible refine (NX.out 20 _ (by omega) D4.out).mono ?_); rintro e w5 ⟨t, rfl, t1, t2, hd5, hg5⟩; have t3 : t ≤ 20 := (by omega); have D5 := Lib.hid hd5; have G5 := Lib.hid (by_trans G4.out hg5); have O5 := Lib.hid (O4.out.grown hg5 hlt); clear t2 hd5 hg5; have e5 : IntKind.i64.wrap (1 + t) = 1 + t := IntWalk.i64_in _ (by omega))
        | (refine step_app_game rfl (.tmp 22) (.tmp 37) (by rfl) (by rfl) _ O5.out _ _ _ rfl _ rfl (by rfl) (by omega) (by have := G5.out.size; omega) ?_; intro v6 w6 hg6 hb6))
      all_goals
        go_wp2
        go_roundw
        case rel => exact ⟨m + 1, _, q - 1, hg6, by go_num, by omega, by omega, Lib.hid (D5.out.keepB hb6 hlt), Lib.hid (grown_be G5.out hb6 (Nat.le_refl _))⟩
        case measure => simp [intOf]; omega
    · have m8 : m ≤ 8 := by omega
      by_cases hm : m = 0
      · subst hm
        obtain ⟨A, d, rfl, hi⟩ := hgg.iv
        go_wp2_with fail
        go_ret2
        exact ses_end HO.out (by omega) (Nat.le_refl _) hD.out hG.out
      · obtain ⟨gl, cap, rfl, hgl, hrow⟩ := hgg.shape (by omega)
        have hm' : ((m : Int) == 0) = false := by simpa using hm
        have hm1 : 1 ≤ m := by omega
        have hl := Lib.hid hgg.len
        clear hgg hrow hm
        go_wp2_with fail
        refine (NX.out m _ (by omega) hD.out).mono ?_
        rintro e w3 ⟨k0, rfl, k1, k2, hd3, hg3⟩
        obtain ⟨K, rfl⟩ := Int.eq_ofNat_of_zero_le k1
        have kK : K < m := by omega
        have D3 := Lib.hid hd3
        have G3 := Lib.hid (by_trans hG.out hg3)
        have O3 := Lib.hid (HO.out.grown hg3 hlt)
        clear k1 k2 hd3 hg3
        go_wp2_with fail
        refine (NX.out 24 _ (by omega) D3.out).mono ?_
        rintro e w4 ⟨s, rfl, s1, s2, hd4, hg4⟩
        have s3 : s < 24 := by omega
        have D4 := Lib.hid hd4
        have G4 := Lib.hid (by_trans G3.out hg4)
        have O4 := Lib.hid (O3.out.grown hg4 hlt)
        have z4 := G4.out.size
        have l4 := hd4.lt
        clear s2 hd4 hg4
        have R4 := Lib.hid O4.out.rowOf
        have CK := Lib.hid (fun i (hi : i < m * 3) => row_cells R4.out hi)
        by_cases h0 : s = 0
        · subst h0
          obtain ⟨c0, f0⟩ := CK.out (K * 3) (by omega)
          obtain ⟨c1, f1⟩ := CK.out (K * 3 + 1) (by omega)
          obtain ⟨x, ex⟩ : ∃ x, ys.getD (K * 3) 0 = x := ⟨_, rfl⟩
          rw [icell, ex] at c0
          rw [icell] at c1
          clear ex
          go_wp2
          go_ret2
          exact ses_set R4.out hl.out (by omega) (by omega) (Nat.le_refl _) (by omega) hgl D4.out G4.out
        have n0 : (s == 0) = false := by simpa using h0
        by_cases h1 : s = 1
        · subst h1
          clear h0 n0
          have D5 := Lib.hid (D4.out.alloc (.cells #[.int .i64 0, .int .i64 1000000, .int .i64 1000001] 2))
          have G5 := Lib.hid (grown_al G4.out (.cells #[.int .i64 0, .int .i64 1000000, .int .i64 1000001] 2))
          have O5 := Lib.hid (O4.out.alloc (.cells #[.int .i64 0, .int .i64 1000000, .int .i64 1000001] 2))
          go_wp2_with fail
          refine (NX.out 3 _ (by omega) D5.out).mono ?_
          rintro e w6 ⟨t, rfl, t1, t2, hd6, hg6⟩
          have D6 := Lib.hid hd6
          have G6 := Lib.hid (by_trans G5.out hg6)
          have O6 := Lib.hid (O5.out.grown hg6 hlt)
          obtain ⟨T, rfl⟩ := Int.eq_ofNat_of_zero_le t1
          have hT : T < 3 := by omega
          obtain ⟨v, hv⟩ : ∃ v : Int, w6.cell? ⟨w4.heap.size, T, none⟩ = some (.int .i64 v) := by
            have hc := new_kept hg6 l4 T
            match T, hT with
            | 0, _ => exact ⟨_, hc⟩
            | 1, _ => exact ⟨_, hc⟩
            | 2, _ => exact ⟨_, hc⟩
          have R6 := Lib.hid O6.out.rowOf
          obtain ⟨c2, f2⟩ := row_cells R6.out (i := K * 3 + 2) (by omega)
          rw [icell] at c2
          clear t2 hd6 hg6
          go_wp2
          go_ret2
          exact ses_set R6.out hl.out (by omega) (by omega) (Nat.le_refl _) (by omega) hgl D6.out G6.out
        have n1 : (s == 1) = false := by simpa using h1
        by_cases h2 : s = 2
        · subst h2
          clear h0 n0 h1 n1
          obtain ⟨c0, f0⟩ := CK.out (K * 3) (by omega)
          rw [icell] at c0
          go_wp2
          go_ret2
          exact ses_set R4.out hl.out (by omega) (by omega) (Nat.le_refl _) (by omega) hgl D4.out G4.out
        have n2 : (s == 2) = false := by simpa using h2
        by_cases h3 : s = 3
        · subst h3
          clear h0 n0 h1 n1 h2 n2
          have D5 := Lib.hid (D4.out.alloc (.cells #[.int .i64 1, .int .i64 9] 2))
          have G5 := Lib.hid (grown_al G4.out (.cells #[.int .i64 1, .int .i64 9] 2))
          have O5 := Lib.hid (O4.out.alloc (.cells #[.int .i64 1, .int .i64 9] 2))
          go_wp2_with fail
          refine (NX.out 2 _ (by omega) D5.out).mono ?_
          rintro e w6 ⟨t, rfl, t1, t2, hd6, hg6⟩
          have D6 := Lib.hid hd6
          have G6 := Lib.hid (by_trans G5.out hg6)
          have O6 := Lib.hid (O5.out.grown hg6 hlt)
          obtain ⟨T, rfl⟩ := Int.eq_ofNat_of_zero_le t1
          have hT : T < 2 := by omega
          obtain ⟨v, hv⟩ : ∃ v : Int, w6.cell? ⟨w4.heap.size, T, none⟩ = some (.int .i64 v) := by
            have hc := new_kept hg6 l4 T
            match T, hT with
            | 0, _ => exact ⟨_, hc⟩
            | 1, _ => exact ⟨_, hc⟩
          clear t2 hd6 hg6
          go_wp2
          go_ret2
          exact ses_end O6.out (by omega) (Nat.le_refl _) D6.out G6.out
        have n3 : (s == 3) = false := by simpa using h3
        by_cases h4 : s = 4
        · subst h4
          clear h0 n0 h1 n1 h2 n2 h3 n3
          go_wp2_with fail
          go_loopw [5] (fun v wr => ∃ (m : Nat) (ys : List Int), Gg wr w.heap.size v m ys ∧ 1 ≤ m ∧ m ≤ 61 ∧ Hid (Drawing w0 g a n c xs wr) ∧ Hid (w.grownBy wr (some g))) (fun v _ => 61 - lenG v)
          case atStart => exact ⟨m, ys, O4.out, hm1, by omega, D4, G4⟩
          case round =>
            obtain ⟨M, zs, hgg, M1, M2, hD5, hG5⟩ := hrel
            obtain ⟨gm, cm, rfl, hgm, _⟩ := hgg.shape (by omega)
            have OO := Lib.hid hgg
            have HLN := Lib.hid (lenG_gg hgg)
            clear hgg
            go_wp2_with fail
            refine (NX.out 2 _ (by omega) hD5.out).mono ?_
            rintro e w6 ⟨t, rfl, t1, t2, hd6, hg6⟩
            have t3 : t < 2 := by omega
            have D6 := Lib.hid hd6
            have G6 := Lib.hid (by_trans hG5.out hg6)
            have O6 := Lib.hid (OO.out.grown hg6 hlt)
            have z6 := G6.out.size
            clear t2 hd6 hg6
            by_cases hc : (M : Int) < 60 + t
            · have R6 := Lib.hid O6.out.rowOf
              obtain ⟨c0, _⟩ := row_cells R6.out (i := 0) (by omega)
              obtain ⟨c1, _⟩ := row_cells R6.out (i := 1) (by omega)
              obtain ⟨c2, _⟩ := row_cells R6.out (i := 2) (by omega)
              obtain ⟨x, ex⟩ : ∃ x, zs.getD 0 0 = x := ⟨_, rfl⟩
              obtain ⟨y, ey⟩ : ∃ x, zs.getD 1 0 = x := ⟨_, rfl⟩
              obtain ⟨z, ez⟩ : ∃ x, zs.getD 2 0 = x := ⟨_, rfl⟩
              rw [icell, ex] at c0
              rw [icell, ey] at c1
              rw [icell, ez] at c2
              clear ex ey ez
              go_wp2_with (first | (at_builtin; refine app_game rfl (.tmp 95) (.tmp 99) rfl rfl w6 O6.out x y z 0 rfl _ rfl rfl (by omega) (by omega) ?_; intro v7 w7 hg7 hb7))
              go_roundw
              case rel => exact ⟨M + 1, _, hg7, by omega, by omega, Lib.hid (D6.out.keepB hb7 hlt), Lib.hid (grown_be G6.out hb7 (Nat.le_refl _))⟩
              case measure =>
                have q1 := lenG_gg hg7
                have q2 := HLN.out
                omega
            · go_wp2
              go_ret2
              exact ses_end O6.out (by omega) (Nat.le_refl _) D6.out G6.out
        · have n4 : (s == 4) = false := by simpa using h4
          clear h0 h1 h2 h3 h4
          go_wp2
          go_ret2
          exact ses_end O4.out (by omega) (Nat.le_refl _) D4.out G4.out
end Go.Proofs.Ytocdiflkegbffaa
