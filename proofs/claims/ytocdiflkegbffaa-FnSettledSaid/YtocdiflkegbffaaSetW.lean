/-
  Lists of transfers that grow; slices.Clone at int64; the walks of SettleUp (both packages).
-/
import Derived.Test.YtocdiflkegbffaaSetP
import Derived.Test.YtocdiflkegbffaaClone
import Derived.Test.YtocdiflkegbffaaRec
import Derived.Lib.MinMax
import Derived.StillTailTactics
import Derived.RegionTactic
import Derived.BigRegion
namespace Go.Proofs.Ytocdiflkegbffaa
open Go.ChangeShapes Go.WideShapes Go.ChangeAt Go.RowKit
set_option linter.unusedVariables false

/-- v is a slice of n transfers with the cells xs, nil or own, from block base on -/
def Gt (w : World) (base : Nat) (v : Value) (n : Nat) (xs : List Int) : Prop := w.ownsRow base 50 3 v n (xs.map (.int .i64))
section
variable {w w' : World} {base n : Nat} {v : Value} {xs : List Int}
theorem Gt.nil (w : World) (base : Nat) : Gt w base (.slice none 0 0) 0 [] := World.ownsRow_nil _ _ _ _
theorem Gt.new (w : World) (base : Nat) (hb : base ≤ w.heap.size) : Gt (w.alloc (.cells #[] 50)) base (.slice (some ⟨w.heap.size, 0, none⟩) 0 0) 0 [] :=
  World.ownsRow_lit w #[] 0 hb (Nat.zero_le _) rfl
theorem Gt.alloc (h : Gt w base v n xs) (o : Obj) : Gt (w.alloc o) base v n xs := World.ownsRow.alloc h o
theorem Gt.drewN (h : Gt w base v n xs) (k : Nat) : Gt (w.drewN k) base v n xs := h
theorem Gt.len (h : Gt w base v n xs) : xs.length = n * 3 := by have := h.1; rwa [List.length_map] at this
theorem Gt.set (h : Gt w base v n xs) {g i : Nat} (hg : g < base) (u : Value) : Gt (w.setCell ⟨g, i, none⟩ u) base v n xs := by
  obtain ⟨h0, h1 | ⟨g', cap', cur, h1, h2, h3, h4⟩⟩ := h
  · exact ⟨h0, .inl h1⟩
  · exact ⟨h0, .inr ⟨g', cap', cur, h1, h2, (Deep.blk_setCell_other _ _ _ _ (by show g' ≠ g; omega)).trans h3, h4⟩⟩
theorem Gt.below (h : Gt w base v n xs) (hb : Below w.heap.size w w') : Gt w' base v n xs := by
  obtain ⟨h0, h1 | ⟨g', cap', cur, h1, h2, h3, h4⟩⟩ := h
  · exact ⟨h0, .inl h1⟩
  · have hl : g' < w.heap.size := by
      rcases Nat.lt_or_ge g' w.heap.size with h | h
      · exact h
      · rw [Array.getElem?_eq_none h] at h3; cases h3
    exact ⟨h0, .inr ⟨g', cap', cur, h1, h2, (hb.block g' hl).trans h3, h4⟩⟩
theorem Gt.row (h : Gt w base v n xs) : ∃ a c, v = .slice a n c ∧ RowN w base w.heap.size 50 a (n * 3) (icell .i64 xs) := by
  have hl := h.len
  have h' := h
  obtain ⟨h0, ⟨h1, h2⟩ | ⟨g', cap', cur, h1, h2, h3, h4, _⟩⟩ := h
  · exact ⟨none, 0, by rw [h1, h2], .inl (by omega)⟩
  · subst h1
    exact ⟨_, cap', rfl, (RowN.of_own h').congr fun i hi => ints_getD .i64 xs (by omega)⟩
theorem info_tr3 : (Try.prog.info? 50).map (fun i => (i.zero, i.size, i.bytes)) = some (some (.agg #[.int .i64 0, .int .i64 0, .int .i64 0]), 3, 24) := by kernel_rfl
theorem three_ints {x y z : Int} : ∀ u ∈ [Value.int .i64 x, Value.int .i64 y, Value.int .i64 z], u.oneCell' = true := by
  intro u hu
  rcases List.mem_cons.1 hu with rfl | hu
  · rfl
  · rcases List.mem_cons.1 hu with rfl | hu
    · rfl
    · rcases List.mem_cons.1 hu with rfl | hu
      · rfl
      · cases hu
theorem rec_cell (W : World) (x y z : Int) (t : TypeId) (j : Nat) (u : Value) (hj : [Value.int .i64 x, Value.int .i64 y, Value.int .i64 z][j]? = some u) : (W.alloc (.cells #[.int .i64 x, .int .i64 y, .int .i64 z] t)).cell? ((⟨W.heap.size, 0, none⟩ : Addr).add j) = some u := by
  have e : (⟨W.heap.size, 0, none⟩ : Addr).add j = ⟨W.heap.size, j, none⟩ := by by_cases h0 : j = 0 <;> simp [Addr.add, h0]
  rw [e, new_cell]
  simpa using hj
/-- append one transfer -/
theorem app_transfer {ops : Array Oper} {rest : List Oper} {o : Oper} {a : Act} {Q : Exit → Act → World → Prop} (hgd : o.guard = none) (s x : Operand)
    (ho : o.op = .call { callee := .builtin .append, args := #[s, x], argTypes := #[45, 45] })
    (hs : a.eval s = v) (W : World) (hown : Gt W base v n xs) (p q r : Int) (m : Nat) (hw : w = (W.alloc (.cells #[.int .i64 p, .int .i64 q, .int .i64 r] 50)).drewN m) (b : Nat) (hbb : b = W.heap.size) (hx : a.eval x = .slice (some ⟨b, 0, none⟩) 1 1) (hn : n ≤ 1000) (hbase : base ≤ W.heap.size)
    (h : ∀ v' w', Gt w' base v' (n + 1) (xs ++ [p, q, r]) → Below base W w' → wpList Try.prog ops Q rest (a.put o.dst v') w') : wpList Try.prog ops Q (o :: rest) a w := by
  obtain ⟨i, hi, hz, hsize, hb⟩ := info_parts info_tr3
  subst hw hbb
  refine wpList_append_own _ hgd s x 45 ho base 50 i (.agg #[.int .i64 0, .int .i64 0, .int .i64 0]) 3 24 Try.underlying45 hi hz hsize hb rfl (by omega) v n _ hs ((show World.ownsRow _ base 50 3 v n (xs.map (.int .i64)) from World.ownsRow.alloc hown _)) ⟨W.heap.size, 0, none⟩ 1 1 [.int .i64 p, .int .i64 q, .int .i64 r] hx rfl (rec_cell W p q r _) three_ints (by unfold maxLen; omega) (by omega) (by simp; omega) ?_
  intro v' w' hv' hg' _
  refine h v' w' ?_ ?_
  · unfold Gt
    rw [List.map_append]
    exact hv'
  · refine (below_drewN ((Below.refl base W).alloc hbase _) m).grown hg' (by simp; omega) fun k e => ?_
    obtain ⟨h0, ⟨h1, h2⟩ | ⟨g', cap', cur, h1, h2, _⟩⟩ := hown
    · subst h1; cases e
    · subst h1; have e' : g' = k := by simpa [Value.ownBlock] using e
      omega
end

theorem balB_out {n : Nat} {xs : List Int} (h : balB n xs = true) : n ≤ 8 ∧ (∀ i, i < n → -60000000 ≤ xs.getD i 0 ∧ xs.getD i 0 ≤ 60000000) ∧ psum xs n = 0 := by
  simp only [balB, Bool.and_eq_true, decide_eq_true_eq, beq_iff_eq] at h
  exact ⟨h.1, fun i hi => wB_true.1 (allTo_at h.2.1 i hi), h.2.2⟩
/-- all transfers that settle balances; none if they cannot be settled -/
def suV (n : Nat) (xs : List Int) : List Int := if balB n xs then trL xs else []
def suC (n : Nat) (xs : List Int) : Int := if balB n xs then 0 else 1
theorem suV_len (n : Nat) (xs : List Int) (hl : xs.length = n) : (suV n xs).length ≤ 24 := by
  unfold suV
  split
  · rename_i h
    obtain ⟨m, h1, h2⟩ := trL_len (L := xs) (by unfold okL; rw [hl]; exact (balB_out h).2.2)
    have := (balB_out h).1
    omega
  · simp
def SuPost (n : Nat) (xs : List Int) (w : World) (e : Ending) (w' : World) : Prop :=
  ∃ a m c, e = .returned (.tuple #[.slice a m c, .int .i64 (suC n xs)]) ∧ (suV n xs).length = m * 3 ∧ RowN w' w.heap.size w'.heap.size 50 a (m * 3) (icell .i64 (suV n xs)) ∧ Below w.heap.size w w'
theorem su_tup {a : Option Addr} {n c : Nat} {x y : Int} (h : y = x) : Ending.returned (.tuple #[.slice a n c, .int .i64 x]) = Ending.returned (.tuple #[.slice a n c, .int .i64 y]) := by rw [h]
theorem su_end {n k m : Nat} {xs : List Int} {v : Value} {w W : World} {base : Nat} {C : Int} (hC : suC n xs = C) (hV : suV n xs = tr xs k) (hg : Gt W base v m (tr xs k)) (hb : Below w.heap.size w W) (hbase : w.heap.size ≤ base) :
    SuPost n xs w (.returned (.tuple #[v, .int .i64 C])) W := by
  obtain ⟨a, c, rfl, hr⟩ := hg.row
  subst hC
  refine ⟨a, m, c, rfl, ?_, ?_, hb⟩
  · rw [hV]; exact hg.len
  · rw [hV]; exact hr.wide hbase (Nat.le_refl _)
theorem RowN.keepB {w w' : World} {lo hi m B : Nat} {t : TypeId} {a : Option Addr} {f : Nat → Value} (h : RowN w lo hi t a m f) (hb : Below B w w') (hh : hi ≤ B) : RowN w' lo hi t a m f := by
  rcases h with h | ⟨g, h1, h2, h2', N, F, h3, h4, h5⟩
  · exact .inl h
  · exact .inr ⟨g, h1, h2, h2', N, F, h3, h4.of_block (hb.block g (by omega)), h5⟩
theorem row_at {w : World} {lo hi m g i : Nat} {t : TypeId} {f : Nat → Value} (h : RowN w lo hi t (some ⟨g, 0, none⟩) m f) (hi' : i < m) : w.cell? ⟨g, i, none⟩ = some (f i) ∧ w.frozen? ⟨g, i, none⟩ = false := by
  obtain ⟨g', e, _, _, _, hc⟩ := h.blk (by omega)
  injection e with e
  injection e with e
  subst e
  exact hc i hi'
/-- no transfer yet, or something was left ahead of the last one -/
def reach (L : List Int) : Nat → Prop
  | 0 => True
  | k + 1 => ¬ dn (lf L k)
theorem reach_le {L : List Int} (h : okL L) : ∀ {k : Nat}, reach L k → (k = 0 ∨ k < L.length) ∧ k ≤ L.length
  | 0, _ => ⟨.inl rfl, Nat.zero_le _⟩
  | k + 1, hr => by
    have := lf_lt h hr
    exact ⟨.inr (by omega), by omega⟩
theorem tr_next {L : List Int} {k : Nat} (hd : ¬ dn (lf L k)) : tr L (k + 1) = tr L k ++ [(fr (lf L k) : Int), (tt (lf L k) : Int), am (lf L k)] := by rw [tr_succ, if_neg hd]
theorem lf_next {L : List Int} {k : Nat} (hd : ¬ dn (lf L k)) : lf L (k + 1) = stL (lf L k) := by rw [lf_succ, if_neg hd]
/-- how many transfers may follow -/
def lenV (v : Value) : Nat := match v with | .slice _ n _ => n | _ => 0
theorem lenV_gt {W : World} {base m : Nat} {v : Value} {xs : List Int} (h : Gt W base v m xs) : lenV v = m := by
  obtain ⟨a, c, rfl, _⟩ := h.row
  rfl
theorem stL_row {L : List Int} {W : World} {lo hi t g n : Nat} (h : okL L) (hd : ¬ dn L) (hl : L.length = n) (hr : RowN W lo hi t (some ⟨g, 0, none⟩) n (icell .i64 L)) {x y : Int} (hx : L.getD (fr L) 0 + am L = x) (hy : L.getD (tt L) 0 - am L = y) :
    RowN ((W.setCell ⟨g, fr L, none⟩ (.int .i64 x)).setCell ⟨g, tt L, none⟩ (.int .i64 y)) lo hi t (some ⟨g, 0, none⟩) n (icell .i64 (stL L)) := by
  obtain ⟨h0, _⟩ := not_dn h hd
  refine ((hr.set (i := fr L) (by rw [← hl]; exact fr_lt h0) _).set (i := tt L) (by rw [← hl]; exact tt_lt h0) _).congr fun i hi => ?_
  show _ = Value.int .i64 ((stL L).getD i 0)
  rw [stL_at h hd]
  by_cases e1 : i = tt L
  · simp only [if_pos e1, hy]
  · by_cases e2 : i = fr L
    · simp only [if_neg e1, if_pos e2, hx]
    · simp only [if_neg e1, if_neg e2]; rfl

set_option maxHeartbeats 3200000 in
theorem impl_SettleUp_any (a : Option Addr) (n c : Nat) (xs : List Int) (w : World) (h : Ints w w.heap.size .i64 a n xs) (ha : a = none → c = 0) (hn : n ≤ 1048576) :
    Calls Try.prog 34 #[.slice a n c] w fun e w' => SuPost n xs w e w' := by
  cases hs : balB n xs
  · have HV := Lib.hid (show suV n xs = [] by rw [suV, hs]; rfl)
    have HC := Lib.hid (show suC n xs = 1 by rw [suC, hs]; rfl)
    go_enter Try.func34, Try.ntmps34
    go_wp2_with (go_at_call 36; refine (impl_IsBalances_any _ _ _ _ _ _ h).mono ?_; rintro e w1 ⟨rfl, rfl⟩)
    go_ret2
    exact ⟨none, 0, 0, su_tup HC.out, by rw [HV.out]; rfl, .inl rfl, Below.refl _ _⟩
  · have HV := Lib.hid (show suV n xs = trL xs by rw [suV, hs]; rfl)
    have HC := Lib.hid (show suC n xs = 0 by rw [suC, hs]; rfl)
    obtain ⟨n8, hbd0, hsum⟩ := balB_out hs
    have hbd := Lib.hid hbd0
    have HL := Lib.hid h.len
    have HK := Lib.hid (show okL xs by unfold okL; rw [HL.out]; exact hsum)
    clear hbd0 hsum
    go_enter Try.func34, Try.ntmps34
    go_wp2_with (go_at_call 36; refine (impl_IsBalances_any _ _ _ _ _ _ h).mono ?_; rintro e w1 ⟨rfl, rfl⟩)
    refine (clone_any _ _ _ _ _ h ha hn).mono ?_
    rintro e w1 ⟨a1, c1, rfl, hc1, hr1, hb1⟩
    have z1 := hb1.size
    clear hs h ha
    by_cases hn0 : n = 0
    · subst hn0
      have HT := Lib.hid (show trL xs = tr xs 0 by unfold trL; rw [HL.out])
      go_wp2_with fail
      go_loopw [5] (fun v wr => v = .slice none 0 0 ∧ wr = w1) (fun _ _ => 0)
      case atStart => exact ⟨rfl, rfl⟩
      case round =>
        obtain ⟨rfl, rfl⟩ := hrel
        go_wp2
        go_loop [6, 7, 18] (fun f t i => f = .int .i64 0 ∧ t = .int .i64 0 ∧ i = .int .i64 0) (fun _ _ _ => 0)
        case atStart => exact ⟨rfl, rfl, rfl⟩
        case round =>
          obtain ⟨rfl, rfl, rfl⟩ := hrel
          go_wp2
          go_ret2
          exact su_end HC.out (HV.out.trans HT.out) (Gt.nil _ _) hb1 (Nat.le_refl _)
    · obtain ⟨g, rfl, g1, g2, hgl, _⟩ := hr1.blk (by omega)
      go_wp2_with fail
      go_loopw [5] (fun v wr => ∃ k : Nat, Hid (reach xs k) ∧ Gt wr w1.heap.size v k (tr xs k) ∧ Hid (RowN wr w.heap.size w1.heap.size 2 (some ⟨g, 0, none⟩) n (icell .i64 (lf xs k))) ∧ Below w.heap.size w wr ∧ w1.heap.size ≤ wr.heap.size) (fun v _ => 8 - lenV v)
      case atStart => exact ⟨0, trivial, Gt.nil _ _, hr1, hb1, Nat.le_refl _⟩
      case round =>
        obtain ⟨k, hre, hgt, hrow, hbel, hzz⟩ := hrel
        obtain ⟨L, hL⟩ : ∃ L, lf xs k = L := ⟨_, rfl⟩
        have HKL := Lib.hid (lf_ok HK.out k)
        have HBL := Lib.hid (lf_bd HK.out (B := 60000000) (by rw [HL.out]; exact hbd.out) k)
        have HLL := Lib.hid (lf_len xs k)
        have HRL := Lib.hid (reach_le HK.out hre.out)
        rw [hL] at hrow HKL HBL HLL
        have hkn : k ≤ 8 := by have := HRL.out.2; rw [HL.out] at this; omega
        have HDN := Lib.hid (fun h : dn L => tr_done HK.out HRL.out.2 (by rw [hL]; exact h))
        have HTN := Lib.hid (fun h : ¬ dn L => And.intro (tr_next (L := xs) (k := k) (by rw [hL]; exact h)) (lf_next (L := xs) (k := k) (by rw [hL]; exact h)))
        rw [hL] at HTN
        have HRN := Lib.hid (fun h : ¬ dn L => show reach xs (k + 1) by rw [← hL] at h; exact h)
        have hnl : L.length = n := HLL.out.trans HL.out
        have HNL := Lib.hid hnl
        have HGT := Lib.hid hgt
        have HLV := Lib.hid (lenV_gt hgt)
        have hcc := Lib.hid (fun i hi => ((hrow.out.blk (by omega)).choose_spec.2.2.2.2 i hi))
        have HCL : Hid (∀ i, i < n → wr.cell? ⟨g, i, none⟩ = some (.int .i64 (L.getD i 0)) ∧ wr.frozen? ⟨g, i, none⟩ = false) := Lib.hid (fun i hi => by
          obtain ⟨g', e, _, _, _, hc⟩ := hrow.out.blk (by omega)
          injection e with e
          injection e with e
          subst e
          exact hc i hi)
        have HSL := Lib.hid hL
        clear hcc hgt hnl hL
        go_wp2
        go_loop [6, 7, 18] (fun f t i => ∃ j : Nat, j ≤ n ∧ ∃ F T : Nat, Hid (loI L j = F) ∧ Hid (hiI L j = T) ∧ F < n ∧ T < n ∧ f = .int .i64 F ∧ t = .int .i64 T ∧ i = .int .i64 j) (fun _ _ i => n - (intOf i).toNat)
        case atStart => exact ⟨0, Nat.zero_le _, 0, 0, rfl, rfl, by omega, by omega, rfl, rfl, rfl⟩
        case round =>
          obtain ⟨j, hj, F, T, hF, hT, hFn, hTn, rfl, rfl, rfl⟩ := hrel
          obtain ⟨cF, fF⟩ := HCL.out F hFn
          obtain ⟨cT, fT⟩ := HCL.out T hTn
          obtain ⟨xF, eF⟩ : ∃ x, L.getD F 0 = x := ⟨_, rfl⟩
          obtain ⟨xT, eT⟩ : ∃ x, L.getD T 0 = x := ⟨_, rfl⟩
          rw [eF] at cF
          rw [eT] at cT
          have EF := Lib.hid eF
          have ET := Lib.hid eT
          have bF := HBL.out F (by rw [HNL.out]; exact hFn)
          have bT := HBL.out T (by rw [HNL.out]; exact hTn)
          rw [eF] at bF
          rw [eT] at bT
          obtain ⟨bF1, bF2⟩ := bF
          obtain ⟨bT1, bT2⟩ := bT
          clear eF eT
          by_cases hlt : j < n
          · obtain ⟨cj, fj⟩ := HCL.out j hlt
            obtain ⟨x, ex⟩ : ∃ x, L.getD j 0 = x := ⟨_, rfl⟩
            rw [ex] at cj
            have EX := Lib.hid ex
            clear ex fj fF fT
            by_cases h1 : x < xF
            · have E1 := Lib.hid (show loI L (j + 1) = j by rw [loI_succ, hF.out, EX.out, EF.out, if_pos h1])
              by_cases h2 : xT < x
              · have E2 := Lib.hid (show hiI L (j + 1) = j by rw [hiI_succ, hT.out, EX.out, ET.out, if_pos h2])
                go_wp2
                go_round
                case rel => exact ⟨j + 1, by omega, j, j, E1, E2, hlt, hlt, rfl, rfl, by go_num⟩
                case measure => simp [intOf]; omega
              · have E2 := Lib.hid (show hiI L (j + 1) = T by rw [hiI_succ, hT.out, EX.out, ET.out, if_neg h2])
                go_wp2
                go_round
                case rel => exact ⟨j + 1, by omega, j, T, E1, E2, hlt, hTn, rfl, rfl, by go_num⟩
                case measure => simp [intOf]; omega
            · have E1 := Lib.hid (show loI L (j + 1) = F by rw [loI_succ, hF.out, EX.out, EF.out, if_neg h1])
              by_cases h2 : xT < x
              · have E2 := Lib.hid (show hiI L (j + 1) = j by rw [hiI_succ, hT.out, EX.out, ET.out, if_pos h2])
                go_wp2
                go_round
                case rel => exact ⟨j + 1, by omega, F, j, E1, E2, hFn, hlt, rfl, rfl, by go_num⟩
                case measure => simp [intOf]; omega
              · have E2 := Lib.hid (show hiI L (j + 1) = T by rw [hiI_succ, hT.out, EX.out, ET.out, if_neg h2])
                go_wp2
                go_round
                case rel => exact ⟨j + 1, by omega, F, T, E1, E2, hFn, hTn, rfl, rfl, by go_num⟩
                case measure => simp [intOf]; omega
          · obtain rfl : j = n := by omega
            have FF := Lib.hid (show fr L = F by unfold fr; rw [HNL.out]; exact hF.out)
            have TT := Lib.hid (show tt L = T by unfold tt; rw [HNL.out]; exact hT.out)
            have hn1 : ((j : Int) == 0) = false := by simpa using hn0
            by_cases hd : xF = 0
            · have HD := Lib.hid (HDN.out (.inr (by rw [FF.out, EF.out]; exact hd)))
              have hd' : (xF == 0) = true := by simpa using hd
              clear hd
              go_wp2
              go_ret2
              exact su_end HC.out (HV.out.trans HD.out.symm) HGT.out hbel z1
            · have hnd : ¬ dn L := by
                rintro (e | e)
                · rw [HNL.out] at e; omega
                · rw [FF.out, EF.out] at e; exact hd e
              have hd' : (xF == 0) = false := by simpa using hd
              have NDN := Lib.hid hnd
              obtain ⟨_, _, _, hFT, a1, a2, a3, _⟩ := not_dn HKL.out hnd
              have hAM : am L = min (-xF) xT := by unfold am; rw [FF.out, TT.out, EF.out, ET.out]
              rw [FF.out, EF.out] at a2
              rw [TT.out, ET.out] at a3
              rw [FF.out, TT.out] at hFT
              obtain ⟨A, hA⟩ : ∃ A, min (-xF) xT = A := ⟨_, rfl⟩
              rw [hA] at hAM
              rw [hAM] at a1 a2 a3
              have HA := Lib.hid hA
              have HAM := Lib.hid hAM
              have hTF : ¬ T = F := fun e => hFT e.symm
              have cT2 := ((hrow.out.set (i := F) hFn (.int .i64 (xF + A))).blk (by omega))
              obtain ⟨g', e, _, _, _, hc⟩ := cT2
              injection e with e
              injection e with e
              subst e
              obtain ⟨cT2, fT2⟩ := hc T hTn
              simp only [if_neg hTF] at cT2
              rw [icell, ET.out] at cT2
              clear hd hnd hA hAM hc
              go_wp2
              go_region
              rw [HA.out]
              go_wp2_with (first | (at_builtin; refine app_transfer rfl (.tmp 73) (.tmp 78) rfl rfl _ ((HGT.out.set g2 _).set g2 _) F T A 1 rfl _ (by simp) rfl (by omega) (by simp; omega) ?_; intro v5 w5 hg5 hb5))
              go_roundw
              case rel =>
                refine ⟨k + 1, HRN.out NDN.out, ?_, ?_, ?_, ?_⟩
                · rw [(HTN.out NDN.out).1, FF.out, TT.out, HAM.out]; exact hg5
                · refine Lib.hid ?_
                  have r := stL_row HKL.out NDN.out HNL.out hrow.out (x := xF + A) (y := xT - A) (by rw [FF.out, EF.out, HAM.out]) (by rw [TT.out, ET.out, HAM.out])
                  rw [FF.out, TT.out] at r
                  rw [(HTN.out NDN.out).2]
                  exact r.keepB hb5 (Nat.le_refl _)
                · exact ((hbel.setCell g1 _).setCell g1 _).trans (hb5.mono z1)
                · have := hb5.size; simp at this; omega
              case measure =>
                have q1 := lenV_gt hg5
                have q2 := HLV.out
                have q3 := (reach_le HK.out (HRN.out NDN.out)).2
                rw [HL.out] at q3
                omega

set_option maxRecDepth 16000 in
set_option maxHeartbeats 3200000 in
theorem spec_SettleUp_any (ad : Addr) (n c : Nat) (xs : List Int) (w : World) (h : Ints w w.heap.size .i64 (some ad) n xs) (hn : n ≤ 1048576) :
    Calls Try.prog 37 #[.slice (some ad) n c] w fun e w' => SuPost n xs w e w' := by
  cases hs : balB n xs
  · have HV := Lib.hid (show suV n xs = [] by rw [suV, hs]; rfl)
    have HC := Lib.hid (show suC n xs = 1 by rw [suC, hs]; rfl)
    go_enter Try.func37, Try.ntmps37
    go_wp2_with (go_at_call 35; refine (spec_IsBalances_any _ _ _ _ _ _ h hn).mono ?_; rintro e w1 ⟨rfl, rfl⟩)
    go_ret2
    exact ⟨none, 0, 0, su_tup HC.out, by rw [HV.out]; rfl, .inl rfl, Below.refl _ _⟩
  · have HV := Lib.hid (show suV n xs = trL xs by rw [suV, hs]; rfl)
    have HC := Lib.hid (show suC n xs = 0 by rw [suC, hs]; rfl)
    obtain ⟨n8, hbd0, hsum⟩ := balB_out hs
    have hbd := Lib.hid hbd0
    have HL := Lib.hid h.len
    have HK := Lib.hid (show okL xs by unfold okL; rw [HL.out]; exact hsum)
    have HG := Lib.hid (Grows.new w w.heap.size (Nat.le_refl _))
    have HB := Lib.hid ((Below.refl w.heap.size w).alloc (Nat.le_refl _) (.cells #[] 2))
    have HC0 : Hid (∀ i, i < n → (w.alloc (.cells #[] 2)).cell? (ad.add i) = some (.int .i64 (xs.getD i 0))) := Lib.hid (fun i hi => by
      obtain ⟨b, off, ha, hb, hc⟩ := h.2 (by omega)
      cases ha
      have e : (⟨b, off, none⟩ : Addr).add i = ⟨b, off + i, none⟩ := by by_cases h0 : i = 0 <;> simp [Addr.add, h0]
      rw [e]
      exact (HB.out.cell (p := ⟨b, off + i, none⟩) hb).trans (hc i hi))
    clear hbd0 hsum
    go_enter Try.func37, Try.ntmps37
    go_wp2_with (first | (go_at_call 35; refine (spec_IsBalances_any _ _ _ _ _ _ h hn).mono ?_; rintro e w1 ⟨rfl, rfl⟩) | (at_builtin; refine app_grows rfl (.tmp 13) (.tmp 14) rfl rfl HG.out ad xs n c rfl HL.out.symm HC0.out (by simp; omega) (by simp) ?_; intro v1 w1 hg1 hb10; rw [List.nil_append] at hg1; obtain ⟨a1, c1, hv, hc1, hr1⟩ := hg1.out; subst hv; rw [HL.out] at hc1 hr1 ⊢; have hb1 := HB.out.trans hb10; clear hg1 hb10))
    have z1 := hb1.size
    clear hs h
    by_cases hn0 : n = 0
    · subst hn0
      have HT := Lib.hid (show trL xs = tr xs 0 by unfold trL; rw [HL.out])
      go_loopw [5] (fun v wr => v = .slice (some ⟨w1.heap.size, 0, none⟩) 0 0 ∧ wr = w1.alloc (.cells #[] 50)) (fun _ _ => 0)
      case atStart => exact ⟨rfl, rfl⟩
      case round =>
        obtain ⟨rfl, rfl⟩ := hrel
        go_wp2
        go_loop [6, 7, 8] (fun f t i => f = .int .i64 0 ∧ t = .int .i64 0 ∧ i = .int .i64 0) (fun _ _ _ => 0)
        case atStart => exact ⟨rfl, rfl, rfl⟩
        case round =>
          obtain ⟨rfl, rfl, rfl⟩ := hrel
          go_wp2
          go_ret2
          exact su_end HC.out (HV.out.trans HT.out) (Gt.new w1 w1.heap.size (Nat.le_refl _)) (hb1.alloc z1 _) z1
    · obtain ⟨g, rfl, g1, g2, hgl, _⟩ := hr1.blk (by omega)
      go_loopw [5] (fun v wr => ∃ k : Nat, Hid (reach xs k) ∧ Gt wr w1.heap.size v k (tr xs k) ∧ Hid (RowN wr w.heap.size w1.heap.size 2 (some ⟨g, 0, none⟩) n (icell .i64 (lf xs k))) ∧ Below w.heap.size w wr ∧ w1.heap.size ≤ wr.heap.size) (fun v _ => 8 - lenV v)
      case atStart => exact ⟨0, trivial, Gt.new w1 w1.heap.size (Nat.le_refl _), hr1.below ((Below.refl w1.heap.size w1).alloc (Nat.le_refl _) _), hb1.alloc z1 _, by simp⟩
      case round =>
        obtain ⟨k, hre, hgt, hrow, hbel, hzz⟩ := hrel
        obtain ⟨wo, hwo⟩ : ∃ wo : World, wo = wr := ⟨_, rfl⟩
        subst hwo
        obtain ⟨L, hL⟩ : ∃ L, lf xs k = L := ⟨_, rfl⟩
        have HKL := Lib.hid (lf_ok HK.out k)
        have HBL := Lib.hid (lf_bd HK.out (B := 60000000) (by rw [HL.out]; exact hbd.out) k)
        have HLL := Lib.hid (lf_len xs k)
        have HRL := Lib.hid (reach_le HK.out hre.out)
        rw [hL] at hrow HKL HBL HLL
        have hkn : k ≤ 8 := by have := HRL.out.2; rw [HL.out] at this; omega
        have HDN := Lib.hid (fun h : dn L => tr_done HK.out HRL.out.2 (by rw [hL]; exact h))
        have HTN := Lib.hid (fun h : ¬ dn L => And.intro (tr_next (L := xs) (k := k) (by rw [hL]; exact h)) (lf_next (L := xs) (k := k) (by rw [hL]; exact h)))
        rw [hL] at HTN
        have HRN := Lib.hid (fun h : ¬ dn L => show reach xs (k + 1) by rw [← hL] at h; exact h)
        have hnl : L.length = n := HLL.out.trans HL.out
        have HNL := Lib.hid hnl
        have HGT := Lib.hid hgt
        have HLV := Lib.hid (lenV_gt hgt)
        have HCL : Hid (∀ i, i < n → wo.cell? ⟨g, i, none⟩ = some (.int .i64 (L.getD i 0)) ∧ wo.frozen? ⟨g, i, none⟩ = false) := Lib.hid (fun i hi => row_at hrow.out hi)
        clear hgt hnl hL
        go_wp2
        go_loopw [6, 7, 8] (fun f t i wq => ∃ j : Nat, j ≤ n ∧ ∃ F T : Nat, Hid (loI L j = F) ∧ Hid (hiI L j = T) ∧ F < n ∧ T < n ∧ f = .int .i64 F ∧ t = .int .i64 T ∧ i = .int .i64 j ∧ Below wo.heap.size wo wq) (fun _ _ i _ => n - (intOf i).toNat)
        case atStart => exact ⟨0, Nat.zero_le _, 0, 0, rfl, rfl, by omega, by omega, rfl, rfl, rfl, Below.refl _ _⟩
        case round =>
          obtain ⟨j, hj, F, T, hF, hT, hFn, hTn, rfl, rfl, rfl, hbq⟩ := hrel
          have gwo : g < wo.heap.size := by omega
          have HQ := Lib.hid (fun i => And.intro (hbq.cell (p := ⟨g, i, none⟩) gwo) (hbq.frozen (p := ⟨g, i, none⟩) gwo))
          obtain ⟨cF, fF⟩ : wr.cell? ⟨g, F, none⟩ = some (.int .i64 (L.getD F 0)) ∧ wr.frozen? ⟨g, F, none⟩ = false := ⟨(HQ.out F).1.trans (HCL.out F hFn).1, (HQ.out F).2.trans (HCL.out F hFn).2⟩
          obtain ⟨cT, fT⟩ : wr.cell? ⟨g, T, none⟩ = some (.int .i64 (L.getD T 0)) ∧ wr.frozen? ⟨g, T, none⟩ = false := ⟨(HQ.out T).1.trans (HCL.out T hTn).1, (HQ.out T).2.trans (HCL.out T hTn).2⟩
          obtain ⟨xF, eF⟩ : ∃ x, L.getD F 0 = x := ⟨_, rfl⟩
          obtain ⟨xT, eT⟩ : ∃ x, L.getD T 0 = x := ⟨_, rfl⟩
          rw [eF] at cF
          rw [eT] at cT
          have EF := Lib.hid eF
          have ET := Lib.hid eT
          have bF := HBL.out F (by rw [HNL.out]; exact hFn)
          have bT := HBL.out T (by rw [HNL.out]; exact hTn)
          rw [eF] at bF
          rw [eT] at bT
          obtain ⟨bF1, bF2⟩ := bF
          obtain ⟨bT1, bT2⟩ := bT
          clear eF eT
          by_cases hlt : j < n
          · obtain ⟨cj, fj⟩ : wr.cell? ⟨g, j, none⟩ = some (.int .i64 (L.getD j 0)) ∧ wr.frozen? ⟨g, j, none⟩ = false := ⟨(HQ.out j).1.trans (HCL.out j hlt).1, (HQ.out j).2.trans (HCL.out j hlt).2⟩
            obtain ⟨x, ex⟩ : ∃ x, L.getD j 0 = x := ⟨_, rfl⟩
            rw [ex] at cj
            have EX := Lib.hid ex
            clear ex fj fF fT
            by_cases h1 : x < xF
            · have E1 := Lib.hid (show loI L (j + 1) = j by rw [loI_succ, hF.out, EX.out, EF.out, if_pos h1])
              by_cases h2 : xT < x
              · have E2 := Lib.hid (show hiI L (j + 1) = j by rw [hiI_succ, hT.out, EX.out, ET.out, if_pos h2])
                go_wp2
                go_quiet (fail)
                go_wp2
                go_quiet (fail)
                go_wp2
                go_roundw
                case rel => exact ⟨j + 1, by omega, j, j, E1, E2, hlt, hlt, rfl, rfl, by go_num, by first | exact below_drewN hbq _ | exact below_drewN (below_drewN hbq _) _⟩
                case measure => simp [intOf]; omega
              · have E2 := Lib.hid (show hiI L (j + 1) = T by rw [hiI_succ, hT.out, EX.out, ET.out, if_neg h2])
                go_wp2
                go_quiet (fail)
                go_wp2
                go_quiet (fail)
                go_wp2
                go_roundw
                case rel => exact ⟨j + 1, by omega, j, T, E1, E2, hlt, hTn, rfl, rfl, by go_num, by first | exact below_drewN hbq _ | exact below_drewN (below_drewN hbq _) _⟩
                case measure => simp [intOf]; omega
            · have E1 := Lib.hid (show loI L (j + 1) = F by rw [loI_succ, hF.out, EX.out, EF.out, if_neg h1])
              by_cases h2 : xT < x
              · have E2 := Lib.hid (show hiI L (j + 1) = j by rw [hiI_succ, hT.out, EX.out, ET.out, if_pos h2])
                go_wp2
                go_quiet (fail)
                go_wp2
                go_quiet (fail)
                go_wp2
                go_roundw
                case rel => exact ⟨j + 1, by omega, F, j, E1, E2, hFn, hlt, rfl, rfl, by go_num, by first | exact below_drewN hbq _ | exact below_drewN (below_drewN hbq _) _⟩
                case measure => simp [intOf]; omega
              · have E2 := Lib.hid (show hiI L (j + 1) = T by rw [hiI_succ, hT.out, EX.out, ET.out, if_neg h2])
                go_wp2
                go_quiet (fail)
                go_wp2
                go_quiet (fail)
                go_wp2
                go_roundw
                case rel => exact ⟨j + 1, by omega, F, T, E1, E2, hFn, hTn, rfl, rfl, by go_num, by first | exact below_drewN hbq _ | exact below_drewN (below_drewN hbq _) _⟩
                case measure => simp [intOf]; omega
          · obtain rfl : j = n := by omega
            have FF := Lib.hid (show fr L = F by unfold fr; rw [HNL.out]; exact hF.out)
            have TT := Lib.hid (show tt L = T by unfold tt; rw [HNL.out]; exact hT.out)
            have hn1 : ((j : Int) == 0) = false := by simpa using hn0
            have HIH := Lib.hid (dn_hi HKL.out (by rw [HNL.out]; omega))
            by_cases hd : xT = 0
            · have HD := Lib.hid (HDN.out (HIH.out.2 (by rw [TT.out, ET.out]; exact hd)))
              have hd' : (xT == 0) = true := by simpa using hd
              clear hd
              go_wp2
              go_ret2
              exact su_end HC.out (HV.out.trans HD.out.symm) (HGT.out.below hbq) (hbel.trans (hbq.mono hbel.size)) z1
            · have hnd : ¬ dn L := fun e => hd (by have := HIH.out.1 e; rw [TT.out, ET.out] at this; exact this)
              have hd' : (xT == 0) = false := by simpa using hd
              have NDN := Lib.hid hnd
              obtain ⟨_, _, _, hFT, a1, a2, a3, _⟩ := not_dn HKL.out hnd
              have hAM : am L = min (-xF) xT := by unfold am; rw [FF.out, TT.out, EF.out, ET.out]
              rw [FF.out, EF.out] at a2
              rw [TT.out, ET.out] at a3
              rw [FF.out, TT.out] at hFT
              obtain ⟨A, hA⟩ : ∃ A, min (-xF) xT = A := ⟨_, rfl⟩
              rw [hA] at hAM
              rw [hAM] at a1 a2 a3
              have HA := Lib.hid hA
              have HAM := Lib.hid hAM
              have hTF : ¬ T = F := fun e => hFT e.symm
              clear hd hnd hA hAM
              go_wp2
              go_region
              rw [HA.out]
              go_wp2_with (first | (at_builtin; refine app_transfer rfl (.tmp 64) (.tmp 69) rfl rfl wr.drew ((HGT.out.below hbq).drewN 1) F T A 0 rfl _ (by rfl) rfl (by omega) (by have := hbq.size; simp; omega) ?_; intro v5 w5 hg5 hb5; have hw5 := RowN.keepB (RowN.drew (hrow.out.below hbq)) hb5 (Nat.le_refl _); obtain ⟨cF5, fF5⟩ := row_at hw5 hFn; rw [icell, EF.out] at cF5; obtain ⟨cT5, fT5⟩ := row_at (hw5.set (i := F) hFn (.int .i64 (xF + A))) hTn; simp only [if_neg hTF] at cT5; rw [icell, ET.out] at cT5))
              go_roundw
              case rel =>
                refine ⟨k + 1, HRN.out NDN.out, ?_, ?_, ?_, ?_⟩
                · rw [(HTN.out NDN.out).1, FF.out, TT.out, HAM.out]; exact (hg5.set g2 _).set g2 _
                · refine Lib.hid ?_
                  have r := stL_row HKL.out NDN.out HNL.out hw5 (x := xF + A) (y := xT - A) (by rw [FF.out, EF.out, HAM.out]) (by rw [TT.out, ET.out, HAM.out])
                  rw [FF.out, TT.out] at r
                  rw [(HTN.out NDN.out).2]
                  exact r
                · exact (((below_drewN (hbel.trans (hbq.mono hbel.size)) 1).trans (hb5.mono z1)).setCell g1 _).setCell g1 _
                · have := hb5.size; have := hbq.size; simp at *; omega
              case measure =>
                have q1 := lenV_gt hg5
                have q2 := HLV.out
                have q3 := (reach_le HK.out (HRN.out NDN.out)).2
                rw [HL.out] at q3
                omega
end Go.Proofs.Ytocdiflkegbffaa
