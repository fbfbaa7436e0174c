/-
  The walks of the next order of a chouette (both packages).
-/
import Derived.Test.YtocdiflkegbffaaCh
import Derived.Test.YtocdiflkegbffaaApp
namespace Go.Proofs.Ytocdiflkegbffaa
open Go.ChangeShapes Go.WideShapes Go.ChangeAt Go.RowKit

def nextL (xs : List Int) (y : Int) : List Int := if 0 < y then xs.getD 0 0 :: (xs.drop 2 ++ [xs.getD 1 0]) else xs.drop 1 ++ [xs.getD 0 0]
theorem nextL_len {xs : List Int} {y : Int} (h : 2 ≤ xs.length) : (nextL xs y).length = xs.length := by
  unfold nextL
  split <;> simp <;> omega
def NextPost (xs : List Int) (y : Int) (n : Nat) (w : World) (e : Ending) (w' : World) : Prop :=
  ∃ a c, n ≤ c ∧ e = .returned (.slice a n c) ∧ RowN w' w.heap.size w'.heap.size 2 a n (icell .i64 (nextL xs y)) ∧ Below w.heap.size w w'

theorem make_cap (n : Nat) (hn : n ≤ 1048576) (W : World) : (Instr.makeSlice 29 (.int .i64 0) (.int .i64 (n : Int))).run Try.prog W = .ok (.slice (some ⟨W.heap.size, 0, none⟩) 0 n) (W.alloc (.cells (madeCells #[.int .i64 0] n) 2)) := by
  obtain ⟨i, hi, hz, hs, hbt⟩ := info_parts info_int
  have hr := run_make (P := Try.prog) W 29 2 i (.int .i64 0) Try.underlying29 hi hz .i64 .i64 0 n (by omega) (by omega) (by rw [hbt]; omega) (by omega)
  simp only [Int.toNat_natCast, hs, Nat.mul_one] at hr
  exact hr
theorem own_made (w : World) (base n : Nat) (hb : base ≤ w.heap.size) (hn : n ≤ 1048576) : Own (w.alloc (.cells (madeCells #[.int .i64 0] n) 2)) base 2 1 w.heap.size n 0 [] :=
  World.ownsRow_made w _ n hb (by unfold maxLen; omega) (by simp [madeCells])

theorem next_fin {w w3 : World} {g p n n' : Nat} {vs : List Value} {xs : List Int} {y : Int} (ho : Own w3 w.heap.size 2 1 g p n' vs) (hn : n' = n) (hv : vs = (nextL xs y).map (.int .i64)) (hb : Below w.heap.size w w3) :
    NextPost xs y n w (.returned (.slice (some ⟨g, 0, none⟩) n' p)) w3 := by
  subst hn hv
  exact ⟨_, _, ho.room, rfl, ho.rowI, hb⟩

set_option maxHeartbeats 1600000 in
theorem nextOrder_any (a a' : Option Addr) (n c m c' : Nat) (xs ys : List Int) (w : World) (h : Ints w w.heap.size .i64 a n xs) (h' : Ints w w.heap.size .i64 a' m ys) (hnc : n ≤ c) (hn : 2 ≤ n) (hn2 : n ≤ 8) (hm : 1 ≤ m) (hm2 : m ≤ 1048576) :
    Calls Try.prog 60 #[.slice a n c, .slice a' m c'] w fun e w' => NextPost xs (ys.getD 0 0) n w e w' := by
  have hlen := h.len
  obtain ⟨b, off, rfl, hb, hc0⟩ := h.2 (by omega)
  obtain ⟨b', off', rfl, hb', hc0'⟩ := h'.2 (by omega)
  have hy := hc0' 0 (by omega)
  have hx0 := hc0 0 (by omega)
  have hx1 := hc0 1 (by omega)
  rw [Nat.add_zero] at hx0 hy
  have hc := Lib.hid hc0
  have hmk := make_cap n (by omega)
  obtain ⟨y, ey⟩ : ∃ y, ys.getD 0 0 = y := ⟨_, rfl⟩
  rw [ey] at hy ⊢
  clear hc0 hc0' h h' ey
  obtain ⟨x0, e0⟩ : ∃ x, xs.getD 0 0 = x := ⟨_, rfl⟩
  obtain ⟨x1, e1⟩ : ∃ x, xs.getD 1 0 = x := ⟨_, rfl⟩
  rw [e0] at hx0
  rw [e1] at hx1
  have E0 := Lib.hid e0
  have E1 := Lib.hid e1
  have HL := Lib.hid hlen
  clear e0 e1 hlen
  have hnew := own_made w w.heap.size n (Nat.le_refl _) (by omega)
  have HB0 := (Below.refl w.heap.size w).alloc (Nat.le_refl _) (.cells (madeCells #[.int .i64 0] n) 2)
  have HB0a : ∀ o, Below w.heap.size w ((w.alloc (.cells (madeCells #[.int .i64 0] n) 2)).alloc o) := fun o => HB0.alloc (by simp) o
  have hk0 : ∀ x : Int, ((w.alloc (.cells (madeCells #[.int .i64 0] n) 2)).alloc (.cells #[.int .i64 x] 2)).cell? ⟨w.heap.size + 1, 0, none⟩ = some (.int .i64 x) := fun x => (by have h := new_cell (w.alloc (.cells (madeCells #[.int .i64 0] n) 2)) #[.int .i64 x] 2 0; simp only [World.size_alloc] at h; exact h)
  have hk1 : ∀ (W : World) (x : Int), (W.alloc (.cells #[.int .i64 x] 2)).cell? ⟨W.heap.size, 0, none⟩ = some (.int .i64 x) := fun W x => (by have h := new_cell W #[.int .i64 x] 2 0; exact h)
  have Hk0 := Lib.hid hk0
  have Hk1 := Lib.hid hk1
  have HH0 := Lib.hid HB0a
  have Hnew := Lib.hid hnew
  clear hk0 hk1 HB0a hnew
  by_cases hy0 : 0 < y
  · have HR := Lib.hid (show nextL xs y = x0 :: (xs.drop 2 ++ [x1]) by rw [nextL, if_pos hy0, E0.out, E1.out])
    by_cases hc2 : c = 2
    · obtain rfl : n = 2 := by omega
      subst hc2
      have hd : xs.drop 2 = [] := List.drop_eq_nil_of_le (by rw [HL.out]; exact Nat.le_refl _)
      have HD := Lib.hid hd
      clear hd hmk
      have hmk : ∀ W : World, (Instr.makeSlice 29 (.int .i64 0) (.int .i64 2)).run Try.prog W = .ok (.slice (some ⟨W.heap.size, 0, none⟩) 0 2) (W.alloc (.cells (madeCells #[.int .i64 0] 2) 2)) := fun W => make_cap 2 (by omega) W
      go_enter Try.func60, Try.ntmps60
      go_wp2_with (first
        | (at_builtin; refine app_own rfl (.tmp 13) (.tmp 17) 29 rfl w.heap.size 2 (.int .i64 0) 1 8 Try.underlying29 info_int rfl (by omega) (by omega) w.heap.size 2 0 [] rfl (Hnew.out.alloc _) ⟨w.heap.size + 1, 0, none⟩ 1 1 [.int .i64 x0] rfl rfl (one_news (Hk0.out x0)) one_cells (by omega) (by simp; omega) ?_; intro g1 p1 w1 ho1 hg1; simp only [Nat.zero_add, List.nil_append] at ho1; have HB1 := (HH0.out _).grown hg1 (by simp; omega) (fun k e => by injection e with e; omega); have hx1 := (HB1.cell (p := ⟨b, off + 1, none⟩) hb).trans hx1; clear hg1)
        | (at_builtin; refine app_own rfl (.tmp 19) (.tmp 21) 29 rfl w.heap.size 2 (.int .i64 0) 1 8 Try.underlying29 info_int rfl (by omega) (by omega) g1 p1 1 [.int .i64 x0] rfl ho1 ⟨b, off, none⟩ 0 0 [] rfl rfl (fun j u hj => by simp at hj) (fun u hu => by simp at hu) (by omega) HB1.size ?_; intro g2 p2 w2 ho2 hg2; simp only [Nat.add_zero, List.append_nil] at ho2; have HB2 := HB1.grown hg2 HB1.size (fun k e => by injection e with e; have := ho1.ge; omega); have hx1 := (HB2.cell (p := ⟨b, off + 1, none⟩) hb).trans ((HB1.cell (p := ⟨b, off + 1, none⟩) hb).symm.trans hx1); clear hg2)
        | (at_builtin; refine app_own rfl (.tmp 23) (.tmp 27) 29 rfl w.heap.size 2 (.int .i64 0) 1 8 Try.underlying29 info_int rfl (by omega) (by omega) g2 p2 1 [.int .i64 x0] rfl (ho2.alloc _) ⟨w2.heap.size, 0, none⟩ 1 1 [.int .i64 x1] rfl rfl (one_news (Hk1.out w2 x1)) one_cells (by omega) (by have := HB2.size; simp; omega) ?_; intro g3 p3 w3 ho3 hg3; have HB3 := (HB2.alloc HB2.size _).grown hg3 (by have := HB2.size; simp; omega) (fun k e => by injection e with e; have := ho2.ge; omega); clear hg3))
      go_ret
      exact next_fin ho3 rfl (by rw [HR.out, HD.out]; rfl) HB3
    · go_enter Try.func60, Try.ntmps60
      go_wp2_with (first
        | (at_builtin; refine app_own rfl (.tmp 13) (.tmp 17) 29 rfl w.heap.size 2 (.int .i64 0) 1 8 Try.underlying29 info_int rfl (by omega) (by omega) w.heap.size n 0 [] rfl (Hnew.out.alloc _) ⟨w.heap.size + 1, 0, none⟩ 1 1 [.int .i64 x0] rfl rfl (one_news (Hk0.out x0)) one_cells (by omega) (by simp; omega) ?_; intro g1 p1 w1 ho1 hg1; simp only [Nat.zero_add, List.nil_append] at ho1; have HB1 := (HH0.out _).grown hg1 (by simp; omega) (fun k e => by injection e with e; omega); have hx1 := (HB1.cell (p := ⟨b, off + 1, none⟩) hb).trans hx1; clear hg1)
        | (at_builtin; refine app_own rfl (.tmp 19) (.tmp 21) 29 rfl w.heap.size 2 (.int .i64 0) 1 8 Try.underlying29 info_int rfl (by omega) (by omega) g1 p1 1 [.int .i64 x0] rfl ho1 ⟨b, off + 2, none⟩ (n - 2) (c - 2) ((xs.drop 2).map (.int .i64)) rfl (by rw [List.length_map, List.length_drop, HL.out, Nat.mul_one]) (tail_news HL.out (fun i hi => (HB1.cell (p := ⟨b, off + i, none⟩) hb).trans (hc.out i hi))) ints_cells (by omega) HB1.size ?_; intro g2 p2 w2 ho2 hg2; have HB2 := HB1.grown hg2 HB1.size (fun k e => by injection e with e; have := ho1.ge; omega); have hx1 := (HB2.cell (p := ⟨b, off + 1, none⟩) hb).trans ((HB1.cell (p := ⟨b, off + 1, none⟩) hb).symm.trans hx1); clear hg2)
        | (at_builtin; refine app_own rfl (.tmp 23) (.tmp 27) 29 rfl w.heap.size 2 (.int .i64 0) 1 8 Try.underlying29 info_int rfl (by omega) (by omega) g2 p2 (1 + (n - 2)) ([.int .i64 x0] ++ (xs.drop 2).map (.int .i64)) rfl (ho2.alloc _) ⟨w2.heap.size, 0, none⟩ 1 1 [.int .i64 x1] rfl rfl (one_news (Hk1.out w2 x1)) one_cells (by omega) (by have := HB2.size; simp; omega) ?_; intro g3 p3 w3 ho3 hg3; have HB3 := (HB2.alloc HB2.size _).grown hg3 (by have := HB2.size; simp; omega) (fun k e => by injection e with e; have := ho2.ge; omega); clear hg3))
      go_ret
      exact next_fin ho3 (by omega) (by rw [HR.out]; simp) HB3
  · have HR := Lib.hid (show nextL xs y = xs.drop 1 ++ [x0] by rw [nextL, if_neg hy0, E0.out])
    go_enter Try.func60, Try.ntmps60
    go_wp2_with (first
      | (at_builtin; refine app_own rfl (.tmp 29) (.tmp 31) 29 rfl w.heap.size 2 (.int .i64 0) 1 8 Try.underlying29 info_int rfl (by omega) (by omega) w.heap.size n 0 [] rfl Hnew.out ⟨b, off + 1, none⟩ (n - 1) (c - 1) ((xs.drop 1).map (.int .i64)) rfl (by rw [List.length_map, List.length_drop, HL.out, Nat.mul_one]) (tail_news HL.out (fun i hi => (HB0.cell (p := ⟨b, off + i, none⟩) hb).trans (hc.out i hi))) ints_cells (by omega) HB0.size ?_; intro g1 p1 w1 ho1 hg1; simp only [Nat.zero_add, List.nil_append] at ho1; have HB1 := HB0.grown hg1 HB0.size (fun k e => by injection e with e; omega); have hx0 := (HB1.cell (p := ⟨b, off, none⟩) hb).trans hx0; clear hg1)
      | (at_builtin; refine app_own rfl (.tmp 33) (.tmp 37) 29 rfl w.heap.size 2 (.int .i64 0) 1 8 Try.underlying29 info_int rfl (by omega) (by omega) g1 p1 (n - 1) ((xs.drop 1).map (.int .i64)) rfl (ho1.alloc _) ⟨w1.heap.size, 0, none⟩ 1 1 [.int .i64 x0] rfl rfl (one_news (Hk1.out w1 x0)) one_cells (by omega) (by have := HB1.size; simp; omega) ?_; intro g2 p2 w2 ho2 hg2; have HB2 := (HB1.alloc HB1.size _).grown hg2 (by have := HB1.size; simp; omega) (fun k e => by injection e with e; have := ho1.ge; omega); clear hg2))
    go_ret
    exact next_fin ho2 (by omega) (by rw [HR.out]; simp) HB2

set_option maxHeartbeats 1600000 in
theorem l21Next_any (a a' : Option Addr) (n c m c' : Nat) (xs ys : List Int) (w : World) (h : Ints w w.heap.size .i64 a n xs) (h' : Ints w w.heap.size .i64 a' m ys) (hnc : n ≤ c) (hn : 2 ≤ n) (hn2 : n ≤ 8) (hm : 1 ≤ m) (hm2 : m ≤ 1048576) :
    Calls Try.prog 59 #[.slice a n c, .slice a' m c'] w fun e w' => NextPost xs (ys.getD 0 0) n w e w' := by
  have hlen := h.len
  obtain ⟨b, off, rfl, hb, hc0⟩ := h.2 (by omega)
  obtain ⟨b', off', rfl, hb', hc0'⟩ := h'.2 (by omega)
  have hy := hc0' 0 (by omega)
  have hx0 := hc0 0 (by omega)
  have hx1 := hc0 1 (by omega)
  rw [Nat.add_zero] at hx0 hy
  have hc := Lib.hid hc0
  obtain ⟨y, ey⟩ : ∃ y, ys.getD 0 0 = y := ⟨_, rfl⟩
  rw [ey] at hy ⊢
  clear hc0 hc0' h h' ey
  obtain ⟨x0, e0⟩ : ∃ x, xs.getD 0 0 = x := ⟨_, rfl⟩
  obtain ⟨x1, e1⟩ : ∃ x, xs.getD 1 0 = x := ⟨_, rfl⟩
  rw [e0] at hx0
  rw [e1] at hx1
  have E0 := Lib.hid e0
  have E1 := Lib.hid e1
  have HL := Lib.hid hlen
  have HD1 := Lib.hid (show xs.drop 1 = x1 :: xs.drop 2 by
    rw [List.drop_eq_getElem_cons (by omega)]
    rw [List.getD_eq_getElem?_getD, List.getElem?_eq_getElem (by omega)] at e1
    rw [← e1]; rfl)
  clear e0 e1 hlen
  have HB0 := (Below.refl w.heap.size w).alloc (Nat.le_refl _) (.cells #[] 2)
  have Hnew := Lib.hid (Own.new w w.heap.size 2 1 #[] 0 (Nat.le_refl _) (by unfold maxLen; omega) rfl)
  have Hk1 := Lib.hid (fun (W : World) (x : Int) => show (W.alloc (.cells #[.int .i64 x] 2)).cell? ⟨W.heap.size, 0, none⟩ = some (.int .i64 x) by have h := new_cell W #[.int .i64 x] 2 0; exact h)
  have Hlit := Lib.hid (fun (W : World) (x : Int) (hz : w.heap.size ≤ W.heap.size) => Own.new W w.heap.size 2 1 #[.int .i64 x] 1 hz (by unfold maxLen; omega) rfl)
  by_cases hy0 : 0 < y
  · have HR := Lib.hid (show nextL xs y = x0 :: (xs.drop 2 ++ [x1]) by rw [nextL, if_pos hy0, E0.out, E1.out])
    by_cases hc2 : c = 2
    · obtain rfl : n = 2 := by omega
      have HD := Lib.hid (show xs.drop 2 = [] from List.drop_eq_nil_of_le (by rw [HL.out]; omega))
      subst hc2
      go_enter Try.func59, Try.ntmps59
      go_wp2_with (first
        | (at_builtin; refine app_own rfl (.tmp 6) (.tmp 8) 29 rfl w.heap.size 2 (.int .i64 0) 1 8 Try.underlying29 info_int rfl (by omega) (by omega) w.heap.size 0 0 [] rfl Hnew.out ⟨b, off, none⟩ 0 0 [] rfl rfl (fun j u hj => by simp at hj) (fun u hu => by simp at hu) (by omega) HB0.size ?_; intro g1 p1 w1 ho1 hg1; simp only [Nat.zero_add, List.nil_append] at ho1; have HB1 := HB0.grown hg1 HB0.size (fun k e => by injection e with e; omega); have hx0a := (HB1.cell (p := ⟨b, off, none⟩) hb).trans hx0; have hx1a := (HB1.cell (p := ⟨b, off + 1, none⟩) hb).trans hx1; have hya := (HB1.cell (p := ⟨b', off', none⟩) hb').trans hy; clear hg1)
        | (at_builtin; refine app_own rfl (.tmp 17) (.tmp 18) 29 rfl w.heap.size 2 (.int .i64 0) 1 8 Try.underlying29 info_int rfl (by omega) (by omega) w1.heap.size 1 1 [.int .i64 x0] rfl (Hlit.out w1 x0 HB1.size) ⟨g1, 0, none⟩ 0 p1 [] rfl rfl (fun j u hj => by simp at hj) (fun u hu => by simp at hu) (by omega) (by have := HB1.size; simp; omega) ?_; intro g2 p2 w2 ho2 hg2; simp only [Nat.add_zero, List.append_nil] at ho2; have HB2 := (HB1.alloc HB1.size _).grown hg2 (by have := HB1.size; simp; omega) (fun k e => by injection e with e; have := HB1.size; omega); have hx0 := (HB2.cell (p := ⟨b, off, none⟩) hb).trans hx0; have hx1 := (HB2.cell (p := ⟨b, off + 1, none⟩) hb).trans hx1; clear hg2)
        | (at_builtin; refine app_own rfl (.tmp 20) (.tmp 24) 29 rfl w.heap.size 2 (.int .i64 0) 1 8 Try.underlying29 info_int rfl (by omega) (by omega) g2 p2 1 ([.int .i64 x0]) rfl (ho2.alloc _) ⟨w2.heap.size, 0, none⟩ 1 1 [.int .i64 x1] rfl rfl (one_news (Hk1.out w2 x1)) one_cells (by omega) (by have := HB2.size; simp; omega) ?_; intro g3 p3 w3 ho3 hg3; have HB3 := (HB2.alloc HB2.size _).grown hg3 (by have := HB2.size; simp; omega) (fun k e => by injection e with e; have := ho2.ge; omega); clear hg3))
      go_ret
      exact next_fin ho3 rfl (by rw [HR.out, HD.out]; rfl) HB3
    · go_enter Try.func59, Try.ntmps59
      go_wp2_with (first
        | (at_builtin; refine app_own rfl (.tmp 6) (.tmp 8) 29 rfl w.heap.size 2 (.int .i64 0) 1 8 Try.underlying29 info_int rfl (by omega) (by omega) w.heap.size 0 0 [] rfl Hnew.out ⟨b, off + 2, none⟩ (n - 2) (c - 2) ((xs.drop 2).map (.int .i64)) rfl (by rw [List.length_map, List.length_drop, HL.out, Nat.mul_one]) (tail_news HL.out (fun i hi => (HB0.cell (p := ⟨b, off + i, none⟩) hb).trans (hc.out i hi))) ints_cells (by omega) HB0.size ?_; intro g1 p1 w1 ho1 hg1; simp only [Nat.zero_add, List.nil_append] at ho1; have HB1 := HB0.grown hg1 HB0.size (fun k e => by injection e with e; omega); have hx0a := (HB1.cell (p := ⟨b, off, none⟩) hb).trans hx0; have hx1a := (HB1.cell (p := ⟨b, off + 1, none⟩) hb).trans hx1; have hya := (HB1.cell (p := ⟨b', off', none⟩) hb').trans hy; clear hg1)
        | (at_builtin; refine app_own rfl (.tmp 17) (.tmp 18) 29 rfl w.heap.size 2 (.int .i64 0) 1 8 Try.underlying29 info_int rfl (by omega) (by omega) w1.heap.size 1 1 [.int .i64 x0] rfl (Hlit.out w1 x0 HB1.size) ⟨g1, 0, none⟩ (n - 2) p1 ((xs.drop 2).map (.int .i64)) rfl (by rw [List.length_map, List.length_drop, HL.out, Nat.mul_one]) (fun j u hj => World.ownsRow.cells (ho1.alloc _) rfl j u hj) ints_cells (by omega) (by have := HB1.size; simp; omega) ?_; intro g2 p2 w2 ho2 hg2; have HB2 := (HB1.alloc HB1.size _).grown hg2 (by have := HB1.size; simp; omega) (fun k e => by injection e with e; have := HB1.size; omega); have hx0 := (HB2.cell (p := ⟨b, off, none⟩) hb).trans hx0; have hx1 := (HB2.cell (p := ⟨b, off + 1, none⟩) hb).trans hx1; clear hg2)
        | (at_builtin; refine app_own rfl (.tmp 20) (.tmp 24) 29 rfl w.heap.size 2 (.int .i64 0) 1 8 Try.underlying29 info_int rfl (by omega) (by omega) g2 p2 (1 + (n - 2)) ([.int .i64 x0] ++ (xs.drop 2).map (.int .i64)) rfl (ho2.alloc _) ⟨w2.heap.size, 0, none⟩ 1 1 [.int .i64 x1] rfl rfl (one_news (Hk1.out w2 x1)) one_cells (by omega) (by have := HB2.size; simp; omega) ?_; intro g3 p3 w3 ho3 hg3; have HB3 := (HB2.alloc HB2.size _).grown hg3 (by have := HB2.size; simp; omega) (fun k e => by injection e with e; have := ho2.ge; omega); clear hg3))
      go_ret
      exact next_fin ho3 (by omega) (by rw [HR.out]; simp) HB3
  · have HR := Lib.hid (show nextL xs y = x1 :: (xs.drop 2 ++ [x0]) by rw [nextL, if_neg hy0, E0.out, HD1.out]; rfl)
    by_cases hc2 : c = 2
    · obtain rfl : n = 2 := by omega
      have HD := Lib.hid (show xs.drop 2 = [] from List.drop_eq_nil_of_le (by rw [HL.out]; omega))
      subst hc2
      go_enter Try.func59, Try.ntmps59
      go_wp2_with (first
        | (at_builtin; refine app_own rfl (.tmp 6) (.tmp 8) 29 rfl w.heap.size 2 (.int .i64 0) 1 8 Try.underlying29 info_int rfl (by omega) (by omega) w.heap.size 0 0 [] rfl Hnew.out ⟨b, off, none⟩ 0 0 [] rfl rfl (fun j u hj => by simp at hj) (fun u hu => by simp at hu) (by omega) HB0.size ?_; intro g1 p1 w1 ho1 hg1; simp only [Nat.zero_add, List.nil_append] at ho1; have HB1 := HB0.grown hg1 HB0.size (fun k e => by injection e with e; omega); have hx0a := (HB1.cell (p := ⟨b, off, none⟩) hb).trans hx0; have hx1a := (HB1.cell (p := ⟨b, off + 1, none⟩) hb).trans hx1; have hya := (HB1.cell (p := ⟨b', off', none⟩) hb').trans hy; clear hg1)
        | (at_builtin; refine app_own rfl (.tmp 29) (.tmp 30) 29 rfl w.heap.size 2 (.int .i64 0) 1 8 Try.underlying29 info_int rfl (by omega) (by omega) w1.heap.size 1 1 [.int .i64 x1] rfl (Hlit.out w1 x1 HB1.size) ⟨g1, 0, none⟩ 0 p1 [] rfl rfl (fun j u hj => by simp at hj) (fun u hu => by simp at hu) (by omega) (by have := HB1.size; simp; omega) ?_; intro g2 p2 w2 ho2 hg2; simp only [Nat.add_zero, List.append_nil] at ho2; have HB2 := (HB1.alloc HB1.size _).grown hg2 (by have := HB1.size; simp; omega) (fun k e => by injection e with e; have := HB1.size; omega); have hx0 := (HB2.cell (p := ⟨b, off, none⟩) hb).trans hx0; have hx1 := (HB2.cell (p := ⟨b, off + 1, none⟩) hb).trans hx1; clear hg2)
        | (at_builtin; refine app_own rfl (.tmp 32) (.tmp 36) 29 rfl w.heap.size 2 (.int .i64 0) 1 8 Try.underlying29 info_int rfl (by omega) (by omega) g2 p2 1 ([.int .i64 x1]) rfl (ho2.alloc _) ⟨w2.heap.size, 0, none⟩ 1 1 [.int .i64 x0] rfl rfl (one_news (Hk1.out w2 x0)) one_cells (by omega) (by have := HB2.size; simp; omega) ?_; intro g3 p3 w3 ho3 hg3; have HB3 := (HB2.alloc HB2.size _).grown hg3 (by have := HB2.size; simp; omega) (fun k e => by injection e with e; have := ho2.ge; omega); clear hg3))
      go_ret
      exact next_fin ho3 rfl (by rw [HR.out, HD.out]; rfl) HB3
    · go_enter Try.func59, Try.ntmps59
      go_wp2_with (first
        | (at_builtin; refine app_own rfl (.tmp 6) (.tmp 8) 29 rfl w.heap.size 2 (.int .i64 0) 1 8 Try.underlying29 info_int rfl (by omega) (by omega) w.heap.size 0 0 [] rfl Hnew.out ⟨b, off + 2, none⟩ (n - 2) (c - 2) ((xs.drop 2).map (.int .i64)) rfl (by rw [List.length_map, List.length_drop, HL.out, Nat.mul_one]) (tail_news HL.out (fun i hi => (HB0.cell (p := ⟨b, off + i, none⟩) hb).trans (hc.out i hi))) ints_cells (by omega) HB0.size ?_; intro g1 p1 w1 ho1 hg1; simp only [Nat.zero_add, List.nil_append] at ho1; have HB1 := HB0.grown hg1 HB0.size (fun k e => by injection e with e; omega); have hx0a := (HB1.cell (p := ⟨b, off, none⟩) hb).trans hx0; have hx1a := (HB1.cell (p := ⟨b, off + 1, none⟩) hb).trans hx1; have hya := (HB1.cell (p := ⟨b', off', none⟩) hb').trans hy; clear hg1)
        | (at_builtin; refine app_own rfl (.tmp 29) (.tmp 30) 29 rfl w.heap.size 2 (.int .i64 0) 1 8 Try.underlying29 info_int rfl (by omega) (by omega) w1.heap.size 1 1 [.int .i64 x1] rfl (Hlit.out w1 x1 HB1.size) ⟨g1, 0, none⟩ (n - 2) p1 ((xs.drop 2).map (.int .i64)) rfl (by rw [List.length_map, List.length_drop, HL.out, Nat.mul_one]) (fun j u hj => World.ownsRow.cells (ho1.alloc _) rfl j u hj) ints_cells (by omega) (by have := HB1.size; simp; omega) ?_; intro g2 p2 w2 ho2 hg2; have HB2 := (HB1.alloc HB1.size _).grown hg2 (by have := HB1.size; simp; omega) (fun k e => by injection e with e; have := HB1.size; omega); have hx0 := (HB2.cell (p := ⟨b, off, none⟩) hb).trans hx0; have hx1 := (HB2.cell (p := ⟨b, off + 1, none⟩) hb).trans hx1; clear hg2)
        | (at_builtin; refine app_own rfl (.tmp 32) (.tmp 36) 29 rfl w.heap.size 2 (.int .i64 0) 1 8 Try.underlying29 info_int rfl (by omega) (by omega) g2 p2 (1 + (n - 2)) ([.int .i64 x1] ++ (xs.drop 2).map (.int .i64)) rfl (ho2.alloc _) ⟨w2.heap.size, 0, none⟩ 1 1 [.int .i64 x0] rfl rfl (one_news (Hk1.out w2 x0)) one_cells (by omega) (by have := HB2.size; simp; omega) ?_; intro g3 p3 w3 ho3 hg3; have HB3 := (HB2.alloc HB2.size _).grown hg3 (by have := HB2.size; simp; omega) (fun k e => by injection e with e; have := ho2.ge; omega); clear hg3))
      go_ret
      exact next_fin ho3 (by omega) (by rw [HR.out]; simp) HB3

theorem ret_sl {a : Option Addr} {n c : Nat} {x y : Int} (h : y = x) : Ending.returned (.tuple #[.slice a n c, .int .i64 x]) = Ending.returned (.tuple #[.slice a n c, .int .i64 y]) := by rw [h]
/-- the order after a game; empty if the arguments are not valid -/
def coL (n : Nat) (xs : List Int) (m : Nat) (ys : List Int) : List Int := if ordB n xs && outB n m ys then nextL xs (ys.getD 0 0) else []
def coC (n : Nat) (xs : List Int) (m : Nat) (ys : List Int) : Int := if ordB n xs && outB n m ys then 0 else 1
theorem coL_no {n m : Nat} {xs ys : List Int} (h : (ordB n xs && outB n m ys) = false) : coL n xs m ys = [] := by rw [coL, h]; rfl
theorem coC_no {n m : Nat} {xs ys : List Int} (h : (ordB n xs && outB n m ys) = false) : coC n xs m ys = 1 := by rw [coC, h]; rfl
theorem coL_yes {n m : Nat} {xs ys : List Int} (h : (ordB n xs && outB n m ys) = true) : coL n xs m ys = nextL xs (ys.getD 0 0) := by rw [coL, h]; rfl
theorem coC_yes {n m : Nat} {xs ys : List Int} (h : (ordB n xs && outB n m ys) = true) : coC n xs m ys = 0 := by rw [coC, h]; rfl
theorem coL_len {n m : Nat} {xs ys : List Int} (hl : xs.length = n) : (coL n xs m ys).length ≤ 8 := by
  cases h : ordB n xs && outB n m ys
  · rw [coL_no h]; simp
  · rw [coL_yes h]
    simp only [Bool.and_eq_true] at h
    have := ordB_out h.1
    rw [nextL_len (by omega)]
    omega
def ChPost (n : Nat) (xs : List Int) (m : Nat) (ys : List Int) (w : World) (e : Ending) (w' : World) : Prop :=
  ∃ a k c, e = .returned (.tuple #[.slice a k c, .int .i64 (coC n xs m ys)]) ∧ (coL n xs m ys).length = k ∧ RowN w' w.heap.size w'.heap.size 2 a k (icell .i64 (coL n xs m ys)) ∧ Below w.heap.size w w'

set_option maxHeartbeats 800000 in
theorem impl_ChouetteOrder_any (a a' : Option Addr) (n c m c' : Nat) (xs ys : List Int) (w : World) (h : Ints w w.heap.size .i64 a n xs) (h' : Ints w w.heap.size .i64 a' m ys) (hnc : n ≤ c) (hn : n ≤ 1048576) (hm : m ≤ 1048576) :
    Calls Try.prog 32 #[.slice a n c, .slice a' m c'] w fun e w' => ChPost n xs m ys w e w' := by
  cases hk : ordB n xs && outB n m ys
  · have HL := Lib.hid (coL_no hk)
    have HC := Lib.hid (coC_no hk)
    go_enter Try.func32, Try.ntmps32
    go_wp2_with (go_at_call 20; refine (impl_IsChouette_any _ _ _ _ _ _ _ _ _ _ _ h h' hnc hn hm).mono ?_; rintro e w' ⟨rfl, rfl⟩)
    go_ret2
    exact ⟨none, 0, 0, ret_sl HC.out, by rw [HL.out]; rfl, .inl rfl, Below.refl _ _⟩
  · have HL := Lib.hid (coL_yes hk)
    have HC := Lib.hid (coC_yes hk)
    have hk2 := hk
    simp only [Bool.and_eq_true] at hk2
    obtain ⟨n1, n2, _⟩ := ordB_out hk2.1
    obtain ⟨m1, _⟩ := outB_out hk2.2
    have m2 : 1 ≤ m := by omega
    have hlen := Lib.hid h.len
    clear hk2 m1
    go_enter Try.func32, Try.ntmps32
    go_wp2_with (go_at_call 20; refine (impl_IsChouette_any _ _ _ _ _ _ _ _ _ _ _ h h' hnc hn hm).mono ?_; rintro e w' ⟨rfl, rfl⟩)
    refine (nextOrder_any _ _ _ _ _ _ _ _ _ h h' hnc n1 n2 m2 hm).mono ?_
    rintro e w2 ⟨a2, c2, _, rfl, hr, hb2⟩
    go_wp2_with fail
    go_ret2
    exact ⟨a2, n, c2, ret_sl HC.out, by rw [HL.out, nextL_len (by rw [hlen.out]; exact n1), hlen.out], by rw [HL.out]; exact hr, hb2⟩

set_option maxHeartbeats 800000 in
theorem spec_ChouetteOrder_any (a a' : Option Addr) (n c m c' : Nat) (xs ys : List Int) (w : World) (h : Ints w w.heap.size .i64 a n xs) (h' : Ints w w.heap.size .i64 a' m ys) (hnc : n ≤ c) (hn : n ≤ 1048576) (hm : m ≤ 1048576) :
    Calls Try.prog 31 #[.slice a n c, .slice a' m c'] w fun e w' => ChPost n xs m ys w e w' := by
  cases hk : ordB n xs && outB n m ys
  · have HL := Lib.hid (coL_no hk)
    have HC := Lib.hid (coC_no hk)
    go_enter Try.func31, Try.ntmps31
    go_wp2_with (go_at_call 18; refine (spec_IsChouette_any _ _ _ _ _ _ _ _ _ _ _ h h' (Nat.le_refl _) (Nat.le_refl _) hn hm).mono ?_; rintro e w1 ⟨rfl, hb1⟩)
    go_ret2
    exact ⟨none, 0, 0, ret_sl HC.out, by rw [HL.out]; rfl, .inl rfl, hb1⟩
  · have HL := Lib.hid (coL_yes hk)
    have HC := Lib.hid (coC_yes hk)
    have hk2 := hk
    simp only [Bool.and_eq_true] at hk2
    obtain ⟨n1, n2, _⟩ := ordB_out hk2.1
    obtain ⟨m1, _⟩ := outB_out hk2.2
    have m2 : 1 ≤ m := by omega
    have hlen := Lib.hid h.len
    clear hk2 m1
    go_enter Try.func31, Try.ntmps31
    go_wp2_with (go_at_call 18; refine (spec_IsChouette_any _ _ _ _ _ _ _ _ _ _ _ h h' (Nat.le_refl _) (Nat.le_refl _) hn hm).mono ?_; rintro e w1 ⟨rfl, hb1⟩)
    refine (l21Next_any _ _ _ _ _ _ _ _ _ ((h.below hb1).more hb1.size) ((h'.below hb1).more hb1.size) hnc n1 n2 m2 hm).mono ?_
    rintro e w2 ⟨a2, c2, _, rfl, hr, hb2⟩
    go_wp2_with fail
    go_ret2
    exact ⟨a2, n, c2, ret_sl HC.out, by rw [HL.out, nextL_len (by rw [hlen.out]; exact n1), hlen.out], by rw [HL.out]; exact hr.wide hb1.size (Nat.le_refl _), hb1.trans (hb2.mono hb1.size)⟩
end Go.Proofs.Ytocdiflkegbffaa
