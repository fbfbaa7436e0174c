/-
  The draw of DrawWorstChoices.
-/
import Derived.Test.YtmhmhbiihcdgiaaDrL
import Derived.Test.YtmhmhbiihcdgiaaMkE
import Derived.Test.YtmhmhbiihcdgiaaApp
import Derived.Test.YtmhmhbiihcdgiaaExS
import Derived.StillTailTactics
import Derived.RegionTactic
import Derived.BigRegion
import Derived.Deep.RegionWith
import Derived.Deep.RegionHeld3
namespace Go.Proofs.Ytmhmhbiihcdgiaa
open Go.ChangeShapes Go.WideShapes Go.ChangeAt Go.RowKit
set_option linter.unusedVariables false
theorem info_ex2 : (Try.prog.info? 45).map (fun i => (i.zero, i.size, i.bytes)) = some (some (.agg #[.int .i64 0, .int .i64 0]), 2, 16) := by kernel_rfl
theorem two_ints {x y : Int} : ∀ u ∈ [Value.int .i64 x, Value.int .i64 y], u.oneCell' = true := by
  intro u hu
  rcases List.mem_cons.1 hu with rfl | hu
  · rfl
  · exact one_cells u hu
theorem ex_news (W : World) (x y : Int) (t : TypeId) (j : Nat) (u : Value) (hj : [Value.int .i64 x, Value.int .i64 y][j]? = some u) : (W.alloc (.cells #[.int .i64 x, .int .i64 y] t)).cell? ((⟨W.heap.size, 0, none⟩ : Addr).add j) = some u := by
  have e : (⟨W.heap.size, 0, none⟩ : Addr).add j = ⟨W.heap.size, j, none⟩ := by by_cases h0 : j = 0 <;> simp [Addr.add, h0]
  rw [e, new_cell]
  simpa using hj
theorem Own.setOther {w : World} {base g cap n k : Nat} {e : TypeId} {size : Nat} {vs : List Value} (h : Own w base e size g cap n vs) (hne : k ≠ g) (i : Nat) (u : Value) : Own (w.setCell ⟨k, i, none⟩ u) base e size g cap n vs :=
  h.kept (by_set (by_refl w (some k)) rfl u) (fun e => by injection e with e; exact hne e)
theorem own_cells {w : World} {base g cap m : Nat} {e : TypeId} {ys : List Int} (h : Own w base e 2 g cap m (ys.map (.int .i64))) : ∀ i, i < m * 2 → w.cell? ⟨g, i, none⟩ = some (.int .i64 (ys.getD i 0)) := by
  intro i hi
  have hl := h.len
  rw [List.length_map] at hl
  rw [(row_cells h.row hi).1, ints_getD .i64 ys (by omega)]
  rfl
theorem Own.toD {w : World} {base : Nat} {e : TypeId} {size g cap n n' : Nat} {vs vs' : List Value} (h : Own w base e size g cap n vs) (hn : n = n') (hv : vs = vs') : Own w base e size g cap n' vs' := by
  subst hn hv; exact h
theorem ys_two {ys : List Int} {m : Nat} {a b : Int} (hl : ys.length = m * 2) (h : ∀ k, k < m → ys.getD (k * 2 + 1) 0 ≤ 9223372036854775807) (hb : b ≤ 9223372036854775807) : ∀ k, k < m + 1 → (ys ++ [a, b]).getD (k * 2 + 1) 0 ≤ 9223372036854775807 := by
  intro k hk
  by_cases e : k < m
  · have := h k e
    rw [List.getD_eq_getElem?_getD, List.getElem?_append_left (by omega), ← List.getD_eq_getElem?_getD]; exact this
  · obtain rfl : k = m := by omega
    rw [List.getD_eq_getElem?_getD, List.getElem?_append_right (by omega), show k * 2 + 1 - ys.length = 1 by omega]
    exact hb
theorem getD_rep (m i : Nat) : (List.replicate m (0 : Int)).getD i 0 = 0 := by
  rw [List.getD_eq_getElem?_getD, List.getElem?_replicate]
  split <;> rfl
/-- a list of m exact numbers of the call's own -/
def WcD (w : World) (e : Ending) (w' : World) : Prop :=
  ∃ (P C H S : Int) (b m d : Nat) (ys : List Int), e = .returned (.tuple #[vrV P C H S, .slice (some ⟨b, 0, none⟩) m d]) ∧ m ≤ 40 ∧ b < w'.heap.size ∧ (∀ i, i < m * 2 → w'.cell? ⟨b, i, none⟩ = some (.int .i64 (ys.getD i 0))) ∧ (∀ k, k < m → ys.getD (k * 2 + 1) 0 ≤ 9223372036854775807) ∧ Below w.heap.size w w'
theorem wcd_end {w W wz : World} {g0 n c : Nat} {a : Option Addr} {xs : List Int} (hB : Below w.heap.size w W) (hd : Drawing W g0 a n c xs wz) (hW : w.heap.size < W.heap.size) (P C H S : Int) (b m d : Nat) (ys : List Int) (hm : m ≤ 40) (hb : b < wz.heap.size) (hne : w.heap.size ≠ b)
    (hc : ∀ i, i < m * 2 → wz.cell? ⟨b, i, none⟩ = some (.int .i64 (ys.getD i 0))) (hy : ∀ k, k < m → ys.getD (k * 2 + 1) 0 ≤ 9223372036854775807) :
    WcD w (.returned (.tuple #[vrV P C H S, .slice (some ⟨b, 0, none⟩) m d])) ((((wz.setCell ⟨w.heap.size, 0, none⟩ (.int .i64 P)).setCell ⟨w.heap.size, 1, none⟩ (.int .i64 C)).setCell ⟨w.heap.size, 2, none⟩ (.int .i64 H)).setCell ⟨w.heap.size, 3, none⟩ (.int .i64 S)) := by
  refine ⟨P, C, H, S, b, m, d, ys, rfl, hm, by simpa [World.size_setCell] using hb, fun i hi => ?_, hy, ?_⟩
  · rw [← hc i hi]
    have key : ∀ (V : World) (j : Nat) (u : Value), (V.setCell ⟨w.heap.size, j, none⟩ u).cell? ⟨b, i, none⟩ = V.cell? ⟨b, i, none⟩ := fun V j u => World.cell?_setCell_other _ _ _ _ (by intro e; simp only [Addr.mk.injEq] at e; omega)
    rw [key, key, key, key]
  · have h1 := hB.trans (hd.below.mono (by omega))
    exact (((h1.setCell (Nat.le_refl _) _).setCell (Nat.le_refl _) _).setCell (Nat.le_refl _) _).setCell (Nat.le_refl _) _
set_option maxHeartbeats 3200000 in
theorem DrawWorstChoices_any (a : Option Addr) (n c : Nat) (xs : List Int) (w : World) (h : IntsArg w .u8 a n xs) (hn : n ≤ 4096) :
    Calls Try.prog 16 #[.slice a n c] w fun e w' => WcD w e w' := by
  have HB0 := Lib.hid ((Below.refl w.heap.size w).alloc (Nat.le_refl _) (.cells #[.int .i64 0, .int .i64 0, .int .i64 0, .int .i64 0] 29))
  have R0 := Lib.hid (q4_new w (.int .i64 0) (.int .i64 0) (.int .i64 0) (.int .i64 0) 29)
  have h2 := h.after HB0.out
  obtain ⟨W, hW⟩ : ∃ W, W = w.alloc (.cells #[.int .i64 0, .int .i64 0, .int .i64 0, .int .i64 0] 29) := ⟨_, rfl⟩
  have hWs : w.heap.size < W.heap.size := by rw [hW]; simp
  rw [← hW] at h2 R0 HB0
  have NX := Lib.hid (fun m V hm hD => next_dr m W W.heap.size a n c xs V hD hm)
  have VD := Lib.hid (fun V hD => l17DrawVariant_dr W W.heap.size a n c xs V hD)
  have FD := Lib.hid (from_dr a n c xs W h2 hn)
  clear h h2
  go_enter Try.func16, Try.ntmps16
  go_wp2_with fail
  rw [← hW]
  refine FD.out.mono ?_
  rintro e w1 ⟨rfl, hd⟩
  have D1 := Lib.hid hd
  have R1 := Lib.hid (rowIs_below R0.out hd.below R0.out.lt)
  clear hd hW
  go_wp2_with fail
  refine (VD.out _ D1.out).mono ?_
  rintro e w2 ⟨P, C, H, S, rfl, hd, hg⟩
  have G2 := Lib.hid ((by_refl w2 (some W.heap.size)))
  have D2 := Lib.hid (hd.alloc (.cells #[.int .i64 P, .int .i64 C, .int .i64 H, .int .i64 S] 29))
  have V2 := Lib.hid (q4_new w2 (.int .i64 P) (.int .i64 C) (.int .i64 H) (.int .i64 S) 29)
  have R2 := Lib.hid ((row_by R1.out hg (by omega)).alloc (.cells #[.int .i64 P, .int .i64 C, .int .i64 H, .int .i64 S] 29))
  have l2 := hd.lt
  have D3 := Lib.hid (D2.out.alloc (.cells #[] 45))
  have V3 := Lib.hid (V2.out.alloc (.cells #[] 45))
  have R3 := Lib.hid (R2.out.alloc (.cells #[] 45))
  have O3 := Lib.hid (Own.new (w2.alloc (.cells #[.int .i64 P, .int .i64 C, .int .i64 H, .int .i64 S] 29)) (w2.heap.size + 1) 45 2 #[] 0 (by simp) (by unfold maxLen; omega) rfl)
  simp only [World.size_alloc] at O3
  clear hd hg
  go_wp2_with fail
  refine (NX.out 8 _ (by omega) D3.out).mono ?_
  rintro e w3 ⟨r, rfl, r1, r2, hd, hg⟩
  have D4 := Lib.hid hd
  have V4 := Lib.hid (row_by V3.out hg (by omega))
  have R4 := Lib.hid (row_by R3.out hg (by omega))
  have O4 := Lib.hid (O3.out.kept hg (fun e => by injection e with e; omega))
  have r8 : r < 8 := by omega
  clear r2 hd hg
  have hcells : ∀ (ys : List Int) (g cp m : Nat) (V : World), Own V (w2.heap.size + 1) 45 2 g cp m (ys.map (.int .i64)) → True := fun _ _ _ _ _ _ => trivial
  go_wp2_with fail
  go_loopw [6, 7] (fun lv rv wr => ∃ (g cp m : Nat) (ys : List Int) (q : Int), lv = .slice (some ⟨g, 0, none⟩) m cp ∧ rv = .int .i64 q ∧ 0 ≤ q ∧ q + m ≤ 8 ∧ Hid (Own wr (w2.heap.size + 1) 45 2 g cp m (ys.map (.int .i64))) ∧ Hid (∀ k, k < m → ys.getD (k * 2 + 1) 0 ≤ 9223372036854775807) ∧ Hid (Drawing W W.heap.size a n c xs wr) ∧ Hid (wr.rowIs w2.heap.size 29 4 (q4i P C H S)) ∧ Hid (wr.rowIs w.heap.size 29 4 (q4i 0 0 0 0))) (fun _ r _ => (intOf r).toNat)
  case atStart => exact ⟨w2.heap.size + 1, 0, 0, [], r, rfl, rfl, r1, by omega, O4, Lib.hid (fun k hk => absurd hk (by omega)), D4, V4, R4⟩
  case round =>
    clear hcells
    obtain ⟨g, cp, m, ys, q, rfl, rfl, q0, q1, HO, HY, HD, HV, HR⟩ := hrel
    by_cases hq : 0 < q
    · have hge := HO.out.ge
      have V5 := Lib.hid (show wr.drew.rowIs w2.heap.size 29 4 (q4i P C H S) from rowIs_drewN HV.out 1)
      have R5 := Lib.hid (show wr.drew.rowIs w.heap.size 29 4 (q4i 0 0 0 0) from rowIs_drewN HR.out 1)
      have D5 := Lib.hid (show Drawing W W.heap.size a n c xs wr.drew from HD.out.drw 1)
      have O5 := Lib.hid HO.out.drew
      have DA5 := Lib.hid (fun o => show Drawing W W.heap.size a n c xs (wr.alloc o).drew from (HD.out.alloc o).drw 1)
      have VA5 := Lib.hid (fun o => show (wr.alloc o).drew.rowIs w2.heap.size 29 4 (q4i P C H S) from HV.out.alloc o)
      have RA5 := Lib.hid (fun o => show (wr.alloc o).drew.rowIs w.heap.size 29 4 (q4i 0 0 0 0) from HR.out.alloc o)
      have OA5 := Lib.hid (fun o => show Own (wr.alloc o).drew (w2.heap.size + 1) 45 2 g cp m (ys.map (.int .i64)) from HO.out.alloc o)
      have l5 := HV.out.lt
      have KA5 := Lib.hid (fun o => show ((wr.alloc o).drew).cell? ⟨w2.heap.size, 0, none⟩ = some (.int .i64 P) ∧ ((wr.alloc o).drew).cell? ⟨w2.heap.size, 1, none⟩ = some (.int .i64 C) ∧ ((wr.alloc o).drew).cell? ⟨w2.heap.size, 2, none⟩ = some (.int .i64 H) ∧ ((wr.alloc o).drew).cell? ⟨w2.heap.size, 3, none⟩ = some (.int .i64 S) from q4_cells (HV.out.alloc o))
      have l5'' := HD.out.lt
      obtain ⟨v0, v1, v2, v3⟩ := q4_cells V5.out
      go_wp2_with fail
      go_region_held3 (fun w' => w'.cell? ⟨w2.heap.size, 0, none⟩ = some (.int .i64 P) ∧ w'.cell? ⟨w2.heap.size, 1, none⟩ = some (.int .i64 C) ∧ w'.cell? ⟨w2.heap.size, 2, none⟩ = some (.int .i64 H) ∧ w'.cell? ⟨w2.heap.size, 3, none⟩ = some (.int .i64 S))
        (first | (with_reducible exact KT.out _ _) | (with_reducible exact KA8.out _) | (with_reducible exact KA7.out _) | (with_reducible exact KA6.out _) | (with_reducible exact KA5.out _) | go_keep)
        (first
          | (go_at_call 31; (first | (with_reducible refine (NX.out 60 _ (by omega) D5.out).mono ?_) | (with_reducible refine (NX.out 60 _ (by omega) (DA5.out _)).mono ?_)); rintro e w4 ⟨x, rfl, x1, x2, hd, hg⟩; have x3 : x < 60 := (by omega); have D6 := Lib.hid hd; have K6 := Lib.hid (fun t m b f h (hb : b ≠ W.heap.size) => row_by (b := b) (t := t) (n := m) (f := f) h hg hb); have V6 := Lib.hid (show w4.rowIs w2.heap.size 29 4 (q4i P C H S) by first | exact row_by V5.out hg (by omega) | exact row_by (VA5.out _) hg (by omega)); have R6 := Lib.hid (show w4.rowIs w.heap.size 29 4 (q4i 0 0 0 0) by first | exact row_by R5.out hg (by omega) | exact row_by (RA5.out _) hg (by omega)); have O6 := Lib.hid (show Own w4 (w2.heap.size + 1) 45 2 g cp m (ys.map (.int .i64)) by first | exact O5.out.kept hg (fun e => by injection e with e; omega) | exact (OA5.out _).kept hg (fun e => by injection e with e; omega)); have KA6 := Lib.hid (fun o => show (w4.alloc o).cell? ⟨w2.heap.size, 0, none⟩ = some (.int .i64 P) ∧ (w4.alloc o).cell? ⟨w2.heap.size, 1, none⟩ = some (.int .i64 C) ∧ (w4.alloc o).cell? ⟨w2.heap.size, 2, none⟩ = some (.int .i64 H) ∧ (w4.alloc o).cell? ⟨w2.heap.size, 3, none⟩ = some (.int .i64 S) from q4_cells (V6.out.alloc o)); obtain ⟨v0, v1, v2, v3⟩ := q4_cells V6.out; have l6 := V6.out.lt; have l6' := O6.out.ge; have l6'' := D6.out.lt; have e1 : IntKind.i64.wrap (x - 30) = x - 30 := IntWalk.i64_in _ (by omega); clear x2 hd hg)
          | (go_at_call 31; (first | (with_reducible refine (NX.out 3 _ (by omega) D6.out).mono ?_) | (with_reducible refine (NX.out 3 _ (by omega) (D6.out.alloc _)).mono ?_)); rintro e w5 ⟨y, rfl, y1, y2, hd, hg⟩; have y3 : y < 3 := (by omega); have D7 := Lib.hid hd; have K7 := Lib.hid (fun t m b f h (hb : b ≠ W.heap.size) => row_by (b := b) (t := t) (n := m) (f := f) h hg hb); have V7 := Lib.hid (show w5.rowIs w2.heap.size 29 4 (q4i P C H S) by first | exact row_by V6.out hg (by omega) | exact row_by (V6.out.alloc _) hg (by omega)); have R7 := Lib.hid (show w5.rowIs w.heap.size 29 4 (q4i 0 0 0 0) by first | exact row_by R6.out hg (by omega) | exact row_by (R6.out.alloc _) hg (by omega)); have O7 := Lib.hid (show Own w5 (w2.heap.size + 1) 45 2 g cp m (ys.map (.int .i64)) by first | exact O6.out.kept hg (fun e => by injection e with e; omega) | exact (O6.out.alloc _).kept hg (fun e => by injection e with e; omega)); have KA7 := Lib.hid (fun o => show (w5.alloc o).cell? ⟨w2.heap.size, 0, none⟩ = some (.int .i64 P) ∧ (w5.alloc o).cell? ⟨w2.heap.size, 1, none⟩ = some (.int .i64 C) ∧ (w5.alloc o).cell? ⟨w2.heap.size, 2, none⟩ = some (.int .i64 H) ∧ (w5.alloc o).cell? ⟨w2.heap.size, 3, none⟩ = some (.int .i64 S) from q4_cells (V7.out.alloc o)); obtain ⟨v0, v1, v2, v3⟩ := q4_cells V7.out; have l7 := V7.out.lt; have l7' := O7.out.ge; have l7'' := D7.out.lt; obtain ⟨Y, rfl⟩ := Int.eq_ofNat_of_zero_le y1; clear y2 hd hg)
          | (go_at_call 32; (with_reducible refine (MakeExact_any P C H S (x - 30) Y _ (by omega) (by omega) (by omega)).mono ?_); rintro e w6 ⟨num, dep, code, rfl, p1, p2, hb⟩; have D8 := Lib.hid (show Drawing W W.heap.size a n c xs w6 by first | exact D7.out.after hb | exact (D7.out.alloc _).after hb); have K8 := Lib.hid (fun t m b f h (hl : b < _) => rowIs_below (b := b) (t := t) (n := m) (f := f) h hb hl); have V8 := Lib.hid (show w6.rowIs w2.heap.size 29 4 (q4i P C H S) by first | exact rowIs_below V7.out hb V7.out.lt | exact rowIs_below (V7.out.alloc _) hb (V7.out.alloc _).lt); have R8 := Lib.hid (show w6.rowIs w.heap.size 29 4 (q4i 0 0 0 0) by first | exact rowIs_below R7.out hb R7.out.lt | exact rowIs_below (R7.out.alloc _) hb (R7.out.alloc _).lt); have O8 := Lib.hid (show Own w6 (w2.heap.size + 1) 45 2 g cp m (ys.map (.int .i64)) by first | exact O7.out.below hb | exact (O7.out.alloc _).below hb); have KA8 := Lib.hid (fun o => show (w6.alloc o).cell? ⟨w2.heap.size, 0, none⟩ = some (.int .i64 P) ∧ (w6.alloc o).cell? ⟨w2.heap.size, 1, none⟩ = some (.int .i64 C) ∧ (w6.alloc o).cell? ⟨w2.heap.size, 2, none⟩ = some (.int .i64 H) ∧ (w6.alloc o).cell? ⟨w2.heap.size, 3, none⟩ = some (.int .i64 S) from q4_cells (V8.out.alloc o)); obtain ⟨v0, v1, v2, v3⟩ := q4_cells V8.out; (first | (have X7 := (two_new w5 0 0 45); have X8 := Lib.hid (K8.out _ _ (w5.heap.size) _ X7 X7.lt); clear X7; obtain ⟨y0, y1, f0, f1⟩ := two_cells X8.out; have KT := Lib.hid (fun v0 v1 => q4_cells (rowIs_other2 (rowIs_other2 V8.out (w5.heap.size) (by omega) 0 v0) (w5.heap.size) (by omega) 1 v1))) | (have X7 := (K7.out _ _ _ _ (two_new w4 0 0 45) (by omega)); have X8 := Lib.hid (K8.out _ _ (w4.heap.size) _ X7 X7.lt); clear X7; obtain ⟨y0, y1, f0, f1⟩ := two_cells X8.out; have KT := Lib.hid (fun v0 v1 => q4_cells (rowIs_other2 (rowIs_other2 V8.out (w4.heap.size) (by omega) 0 v0) (w4.heap.size) (by omega) 1 v1))) | (have X7 := (K7.out _ _ _ _ (K6.out _ _ (wr.heap.size) _ (show (wr.alloc (.cells #[.int .i64 0, .int .i64 0] 45)).drew.rowIs wr.heap.size 45 2 (two 0 0) from two_new wr 0 0 45) (by omega)) (by omega)); have X8 := Lib.hid (K8.out _ _ (wr.heap.size) _ X7 X7.lt); clear X7; obtain ⟨y0, y1, f0, f1⟩ := two_cells X8.out; have KT := Lib.hid (fun v0 v1 => q4_cells (rowIs_other2 (rowIs_other2 V8.out (wr.heap.size) (by omega) 0 v0) (wr.heap.size) (by omega) 1 v1))) | skip); clear hb))
      -- ENDS
      all_goals
        first
          | (obtain ⟨Wf, hWf⟩ : ∃ Wf, Wf = w6.alloc (.cells #[.int .i64 num, .int .i64 dep] 45) := ⟨_, rfl⟩; rw [← hWf]; obtain ⟨bx, hbx⟩ : ∃ bx, bx = w6.heap.size := ⟨_, rfl⟩; have XF := Lib.hid (show Wf.rowIs bx 45 2 (two num dep) by rw [hWf, hbx]; exact two_new w6 num dep 45); have DF := Lib.hid (show Drawing W W.heap.size a n c xs Wf by rw [hWf]; exact D8.out.alloc _); have VF := Lib.hid (show Wf.rowIs w2.heap.size 29 4 (q4i P C H S) by rw [hWf]; exact V8.out.alloc _); have RF := Lib.hid (show Wf.rowIs w.heap.size 29 4 (q4i 0 0 0 0) by rw [hWf]; exact R8.out.alloc _); have OF := Lib.hid (show Own Wf (w2.heap.size + 1) 45 2 g cp m (ys.map (.int .i64)) by rw [hWf]; exact O8.out.alloc _); rw [← hbx]; clear hWf hbx)
          | (obtain ⟨bx, hbx⟩ : ∃ bx, bx = w5.heap.size := ⟨_, rfl⟩; have l9 : w2.heap.size < bx ∧ W.heap.size < bx ∧ w.heap.size < bx ∧ g < bx := (by rw [hbx]; omega); rw [← hbx] at X8 ⊢; obtain ⟨Wf, hWf⟩ : ∃ Wf, Wf = (w6.setCell ⟨bx, 0, none⟩ (.int .i64 num)).setCell ⟨bx, 1, none⟩ (.int .i64 dep) := ⟨_, rfl⟩; rw [← hWf]; have XF := Lib.hid (show Wf.rowIs bx 45 2 (two num dep) by rw [hWf]; exact two_set X8.out num dep); have DF := Lib.hid (show Drawing W W.heap.size a n c xs Wf by rw [hWf]; exact (D8.out.setB (by show W.heap.size < bx; omega) _).setB (by show W.heap.size < bx; omega) _); have VF := Lib.hid (show Wf.rowIs w2.heap.size 29 4 (q4i P C H S) by rw [hWf]; exact rowIs_other2 (rowIs_other2 V8.out bx (by omega) 0 _) bx (by omega) 1 _); have RF := Lib.hid (show Wf.rowIs w.heap.size 29 4 (q4i 0 0 0 0) by rw [hWf]; exact rowIs_other2 (rowIs_other2 R8.out bx (by omega) 0 _) bx (by omega) 1 _); have OF := Lib.hid (show Own Wf (w2.heap.size + 1) 45 2 g cp m (ys.map (.int .i64)) by rw [hWf]; exact (O8.out.setOther (by omega) _ _).setOther (by omega) _ _); clear hWf hbx)
          | (obtain ⟨bx, hbx⟩ : ∃ bx, bx = w4.heap.size := ⟨_, rfl⟩; have l9 : w2.heap.size < bx ∧ W.heap.size < bx ∧ w.heap.size < bx ∧ g < bx := (by rw [hbx]; omega); rw [← hbx] at X8 ⊢; obtain ⟨Wf, hWf⟩ : ∃ Wf, Wf = (w6.setCell ⟨bx, 0, none⟩ (.int .i64 num)).setCell ⟨bx, 1, none⟩ (.int .i64 dep) := ⟨_, rfl⟩; rw [← hWf]; have XF := Lib.hid (show Wf.rowIs bx 45 2 (two num dep) by rw [hWf]; exact two_set X8.out num dep); have DF := Lib.hid (show Drawing W W.heap.size a n c xs Wf by rw [hWf]; exact (D8.out.setB (by show W.heap.size < bx; omega) _).setB (by show W.heap.size < bx; omega) _); have VF := Lib.hid (show Wf.rowIs w2.heap.size 29 4 (q4i P C H S) by rw [hWf]; exact rowIs_other2 (rowIs_other2 V8.out bx (by omega) 0 _) bx (by omega) 1 _); have RF := Lib.hid (show Wf.rowIs w.heap.size 29 4 (q4i 0 0 0 0) by rw [hWf]; exact rowIs_other2 (rowIs_other2 R8.out bx (by omega) 0 _) bx (by omega) 1 _); have OF := Lib.hid (show Own Wf (w2.heap.size + 1) 45 2 g cp m (ys.map (.int .i64)) by rw [hWf]; exact (O8.out.setOther (by omega) _ _).setOther (by omega) _ _); clear hWf hbx)
          | (obtain ⟨bx, hbx⟩ : ∃ bx, bx = wr.heap.size := ⟨_, rfl⟩; have l9 : w2.heap.size < bx ∧ W.heap.size < bx ∧ w.heap.size < bx ∧ g < bx := (by rw [hbx]; omega); rw [← hbx] at X8 ⊢; obtain ⟨Wf, hWf⟩ : ∃ Wf, Wf = (w6.setCell ⟨bx, 0, none⟩ (.int .i64 num)).setCell ⟨bx, 1, none⟩ (.int .i64 dep) := ⟨_, rfl⟩; rw [← hWf]; have XF := Lib.hid (show Wf.rowIs bx 45 2 (two num dep) by rw [hWf]; exact two_set X8.out num dep); have DF := Lib.hid (show Drawing W W.heap.size a n c xs Wf by rw [hWf]; exact (D8.out.setB (by show W.heap.size < bx; omega) _).setB (by show W.heap.size < bx; omega) _); have VF := Lib.hid (show Wf.rowIs w2.heap.size 29 4 (q4i P C H S) by rw [hWf]; exact rowIs_other2 (rowIs_other2 V8.out bx (by omega) 0 _) bx (by omega) 1 _); have RF := Lib.hid (show Wf.rowIs w.heap.size 29 4 (q4i 0 0 0 0) by rw [hWf]; exact rowIs_other2 (rowIs_other2 R8.out bx (by omega) 0 _) bx (by omega) 1 _); have OF := Lib.hid (show Own Wf (w2.heap.size + 1) 45 2 g cp m (ys.map (.int .i64)) by rw [hWf]; exact (O8.out.setOther (by omega) _ _).setOther (by omega) _ _); clear hWf hbx)
        have HYL := Lib.hid (show ys.length = m * 2 by have := HO.out.len; rwa [List.length_map] at this)
        have hWz := DF.out.lt
        have hgz := OF.out.ge
        have HY2 := Lib.hid (ys_two (a := num) (b := dep) HYL.out HY.out (by omega))
        obtain ⟨c0, c1, _, _⟩ := two_cells XF.out
        clear v0 v1 v2 v3
        go_wp2_with (at_builtin; refine app_own rfl (.tmp 31) (.tmp 33) 31 rfl (w2.heap.size + 1) 45 (.agg #[.int .i64 0, .int .i64 0]) 2 16 Try.underlying31 info_ex2 rfl (by omega) (by omega) g cp m _ rfl (OF.out.alloc _) ⟨Wf.heap.size, 0, none⟩ 1 1 [.int .i64 num, .int .i64 dep] rfl rfl (ex_news Wf num dep 45) two_ints (by omega) (by simp; omega) ?_; intro g1 p1 w7 ho1 hg1; have B9 := ((Below.refl (w2.heap.size + 1) Wf).alloc (by omega) (.cells #[.int .i64 num, .int .i64 dep] 45)).grown hg1 (by simp; omega) (fun k e => by injection e with e; omega); have D9 := Lib.hid (DF.out.keepB B9 (by omega)); have V9 := Lib.hid (rowIs_below VF.out B9 (by omega)); have R9 := Lib.hid (rowIs_below RF.out B9 (by omega)); have O9 := Lib.hid ho1; clear ho1 hg1 B9)
        go_roundw
        case rel => exact ⟨g1, p1, m + 1, ys ++ [num, dep], q - 1, rfl, by go_num, by omega, by omega, Lib.hid (by rw [List.map_append]; exact O9.out), HY2, D9, V9, R9⟩
        case measure => simp [intOf]; omega
    · have hq0 : ¬ 0 < q := hq
      have hWz := HD.out.lt
      have hgz := HO.out.ge
      have hHV := HV.out.lt
      go_wp2_with fail
      refine (NX.out 20 _ (by omega) HD.out).mono ?_
      rintro e w4 ⟨u, rfl, u1, u2, hd, hg⟩
      have u20 : u < 20 := by omega
      have D5 := Lib.hid hd
      have V5 := Lib.hid (row_by HV.out hg (by omega))
      have R5 := Lib.hid (row_by HR.out hg (by omega))
      have O5 := Lib.hid (HO.out.kept hg (fun e => by injection e with e; omega))
      clear u2 hd hg
      have hW5 := D5.out.lt
      have hg5 := O5.out.ge
      have hV5 := V5.out.lt
      by_cases h0 : u = 0
      · subst h0
        have HYL := Lib.hid (show ys.length = m * 2 by have := HO.out.len; rwa [List.length_map] at this)
        have HY2 := Lib.hid (ys_two (a := 1) (b := -1) HYL.out HY.out (by omega))
        go_wp2_with (at_builtin; refine app_own rfl (.tmp 39) (.tmp 41) 31 rfl (w2.heap.size + 1) 45 (.agg #[.int .i64 0, .int .i64 0]) 2 16 Try.underlying31 info_ex2 rfl (by omega) (by omega) g cp m _ rfl (O5.out.alloc _) ⟨w4.heap.size, 0, none⟩ 1 1 [.int .i64 1, .int .i64 (-1)] rfl rfl (ex_news w4 1 (-1) 45) two_ints (by omega) (by simp; omega) ?_; intro g1 p1 w7 ho1 hg1; have B9 := ((Below.refl (w2.heap.size + 1) w4).alloc (by omega) (.cells #[.int .i64 1, .int .i64 (-1)] 45)).grown hg1 (by simp; omega) (fun k e => by injection e with e; omega); have D9 := Lib.hid (D5.out.keepB B9 (by omega)); have V9 := Lib.hid (rowIs_below V5.out B9 (by omega)); have R9 := Lib.hid (rowIs_below R5.out B9 (by omega)); have O9 := Lib.hid ho1; clear ho1 hg1 B9; obtain ⟨v0, v1, v2, v3⟩ := q4_cells V9.out; obtain ⟨⟨r0, r1, r2, r3⟩, f0, f1, f2, f3⟩ := q4_full R9.out)
        obtain ⟨z0, z1, z2, z3⟩ := q4_cells (q4_put R9.out P C H S)
        have hg9 := O9.out.ge
        exact bodyPost_ret (v := .tuple #[vrV P C H S, .slice (some ⟨g1, 0, none⟩) (m + 1) p1]) (by simp [results, Try.results16, go_sem, z0, z1, z2, z3]) rfl
          (wcd_end HB0.out D9.out (by omega) P C H S g1 (m + 1) p1 (ys ++ [1, -1]) (by omega) hg9.2 (by omega) (own_cells (O9.out.toD rfl (by rw [List.map_append]; rfl))) HY2.out)
      have n0 : (u == 0) = false := by simpa using h0
      by_cases h1 : u = 1
      · subst h1
        clear h0 n0
        go_wp2_with fail
        refine (NX.out 2 _ (by omega) D5.out).mono ?_
        rintro e w5 ⟨x, rfl, x1, x2, hd, hg⟩
        obtain ⟨X, rfl⟩ := Int.eq_ofNat_of_zero_le x1
        have x3 : X < 2 := by omega
        have D6 := Lib.hid hd
        have V6 := Lib.hid (row_by V5.out hg (by omega))
        have R6 := Lib.hid (row_by R5.out hg (by omega))
        clear x2 hd hg
        have e1 : IntKind.i64.wrap (30 + (X : Int)) = ((30 + X : Nat) : Int) := by rw [IntWalk.i64_in _ (by omega)]; omega
        obtain ⟨M, hM⟩ : ∃ M, 30 + X = M := ⟨_, rfl⟩
        have hmk := make_ex M (by omega)
        rw [hM] at e1
        have hM40 : M ≤ 40 := by omega
        clear hM
        have hV6 := V6.out.lt
        have D7 := Lib.hid (D6.out.alloc (.cells (madeCells #[.int .i64 0, .int .i64 0] (M * 2)) 45))
        have V7 := Lib.hid (V6.out.alloc (.cells (madeCells #[.int .i64 0, .int .i64 0] (M * 2)) 45))
        have R7 := Lib.hid (R6.out.alloc (.cells (madeCells #[.int .i64 0, .int .i64 0] (M * 2)) 45))
        have X7 := Lib.hid (made_ex w5 (M * 2) 45)
        obtain ⟨v0, v1, v2, v3⟩ := q4_cells V7.out
        obtain ⟨⟨r0, r1, r2, r3⟩, f0, f1, f2, f3⟩ := q4_full R7.out
        go_wp2_with fail
        obtain ⟨z0, z1, z2, z3⟩ := q4_cells (q4_put R7.out P C H S)
        exact bodyPost_ret (v := .tuple #[vrV P C H S, .slice (some ⟨w5.heap.size, 0, none⟩) M M]) (by simp [results, Try.results16, go_sem, z0, z1, z2, z3]) rfl
          (wcd_end HB0.out D7.out (by omega) P C H S w5.heap.size M M (List.replicate (M * 2) 0) hM40 (by simp) (by omega) (fun i hi => by rw [X7.out.cell hi, getD_rep]) (fun k hk => by rw [getD_rep]; omega))
      · have n1 : (u == 1) = false := by simpa using h1
        obtain ⟨v0, v1, v2, v3⟩ := q4_cells V5.out
        obtain ⟨⟨r0, r1, r2, r3⟩, f0, f1, f2, f3⟩ := q4_full R5.out
        go_wp2_with fail
        obtain ⟨z0, z1, z2, z3⟩ := q4_cells (q4_put R5.out P C H S)
        exact bodyPost_ret (v := .tuple #[vrV P C H S, .slice (some ⟨g, 0, none⟩) m cp]) (by simp [results, Try.results16, go_sem, z0, z1, z2, z3]) rfl
          (wcd_end HB0.out D5.out (by omega) P C H S g m cp ys (by omega) hg5.2 (by omega) (own_cells O5.out) HY.out)
end Go.Proofs.Ytmhmhbiihcdgiaa
