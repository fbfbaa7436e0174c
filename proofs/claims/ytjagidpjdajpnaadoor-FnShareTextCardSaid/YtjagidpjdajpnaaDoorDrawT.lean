/-
  The draws of shares: l18DrawShare and DrawMixPoints.
-/
import Derived.Test.YtjagidpjdajpnaaDoorDraw
import Derived.Test.YtjagidpjdajpnaaDoorGcd
import Derived.StillTailTactics
import Derived.RegionTactic
import Derived.BigRegion
import Derived.Deep.RegionWith
import Derived.Deep.RegionHeld3
import Derived.Deep.Cut
import Derived.Deep.CutRange
import Derived.Deep.DeepCutAuto
namespace Go.Proofs.YtjagidpjdajpnaaDoor
open Go.ChangeShapes Go.WideShapes Go.ChangeAt Go.RowKit
set_option linter.unusedVariables false

section
variable {w0 w w1 : World} {g n c : Nat} {a : Option Addr} {xs : List Int}
theorem Below.setNew {B : Nat} {a w : World} (h : Below B a w) {p : Addr} (hp : B ≤ p.block) (v : Value) : Below B a (w.setCell p v) := h.setCell hp v
theorem Drawing.other (h : Drawing w0 g a n c xs w) {p : Addr} (hp : p.block ≠ g) (hz : w0.heap.size ≤ p.block) (v : Value) : Drawing w0 g a n c xs (w.setCell p v) := by
  obtain ⟨h1, h2, h3, h4, h5, h6⟩ := h
  refine ⟨h1.of_block (Below.heap_setCell w p v g (fun e => hp e.symm)), h2.below ((Below.refl w0.heap.size w).setCell hz v), h3, h4, h5, h6.setCell hz v⟩
theorem by_new {a w : World} {r : Option Nat} (h : a.grownBy w r) {p : Addr} (hp : a.heap.size ≤ p.block) (u : Value) : a.grownBy (w.setCell p u) r :=
  ⟨h.os, h.tape, h.output, by simpa [World.setCell] using h.size, fun i hi hne => (Below.heap_setCell w p u i (by rintro rfl; omega)).trans (h.block i hi hne)⟩
theorem by_alloc {a w : World} {r : Option Nat} (h : a.grownBy w r) (o : Obj) : a.grownBy (w.alloc o) r := by
  have k := World.grownBy_alloc w o r
  exact ⟨k.os.trans h.os, k.tape.trans h.tape, k.output.trans h.output, Nat.le_trans h.size k.size, fun i hi hn => (k.block i (Nat.lt_of_lt_of_le hi h.size) hn).trans (h.block i hi hn)⟩
theorem row_by {w w' : World} {g b : Nat} {t : TypeId} {n : Nat} {f : Nat → Value} (h : w.rowIs b t n f) (hg : w.grownBy w' (some g)) (hb : b ≠ g) : w'.rowIs b t n f :=
  h.of_block (hg.block b h.lt (fun e => hb (by injection e)))
theorem Drawing.drewN (h : Drawing w0 g a n c xs w) (k : Nat) : Drawing w0 g a n c xs (w.drewN k) := h.after ⟨rfl, rfl, rfl, Nat.le_refl _, fun _ _ => rfl⟩
end

theorem rowIs_other2 {w : World} {b : Nat} {t : TypeId} {n : Nat} {f : Nat → Value} (h : w.rowIs b t n f) (g : Nat) (hne : ¬ b = g) (k : Nat) (v : Value) : (w.setCell ⟨g, k, none⟩ v).rowIs b t n f := h.setOther (a := ⟨g, k, none⟩) (by simpa using hne) v

theorem IntsArg.after {w w1 : World} {k : IntKind} {a : Option Addr} {n : Nat} {xs : List Int} (h : IntsArg w k a n xs) (hb : Below w.heap.size w w1) : IntsArg w1 k a n xs :=
  ⟨(h.1.below hb).more hb.size, h.2.1, h.2.2⟩

def ShPost (w0 w : World) (g : Nat) (a : Option Addr) (n c : Nat) (xs : List Int) (e : Ending) (w' : World) : Prop :=
  ∃ x y : Int, e = .returned (shV x y) ∧ Drawing w0 g a n c xs w' ∧ w.grownBy w' (some g)
set_option maxHeartbeats 3200000 in
theorem drawShare_dr (w0 : World) (g : Nat) (a : Option Addr) (n c : Nat) (xs : List Int) (w : World) (h : Drawing w0 g a n c xs w) :
    Calls Tryd.prog 18 #[.pointer (some ⟨g, 0, none⟩)] w fun e w' => ShPost w0 w g a n c xs e w' := by
  have hlt := h.lt
  have hle := h.2.2.1
  have hz := h.below.size
  have H0 := Lib.hid (h.alloc (.cells #[.int .i64 0, .int .i64 0] 23))
  have RB := Lib.hid (two_new w 0 0 23)
  have GB := Lib.hid (World.grownBy_alloc w (.cells #[.int .i64 0, .int .i64 0] 23) (some g))
  clear h
  go_enter Tryd.func18, Tryd.ntmps18
  go_wp2_with fail
  refine (next_dr _ w0 _ a n c xs _ H0.out (by omega)).mono ?_
  rintro e v1 ⟨x, rfl, x0, x1, hd1, hg1⟩
  have x2 : x < 60 := by omega
  clear x1
  replace RB := Lib.hid (row_by RB.out hg1 (by omega))
  replace GB := Lib.hid (by_trans GB.out hg1)
  clear hg1
  go_wp2_with fail
  refine (next_dr _ w0 _ a n c xs _ hd1 (by omega)).mono ?_
  rintro e v2 ⟨y, rfl, y0, y1, hd2, hg2⟩
  replace RB := Lib.hid (row_by RB.out hg2 (by omega))
  replace GB := Lib.hid (by_trans GB.out hg2)
  have l2 := hd2.lt
  clear hg2 hd1 y1
  go_upto_if 11 with fail
  go_cut [3] (fun v wx => ∃ D : Int, v = .int .i64 D ∧ 1 ≤ D ∧ D ≤ 1000000000000000 ∧ Drawing w0 g a n c xs wx ∧ wx.rowIs w.heap.size 23 2 (two 0 0) ∧ w.grownBy wx (some g))
  case first =>
    by_cases hy : y = 0
    · subst hy
      go_wp2_with fail
      refine (next_dr _ w0 _ a n c xs _ (hd2.alloc _) (by omega)).mono ?_
      rintro e v3 ⟨z, rfl, z0, z1, hd3, hg3⟩
      have hcx := fun k => new_kept hg3 l2 k
      replace RB := Lib.hid (row_by (RB.out.alloc _) hg3 (by omega))
      replace GB := Lib.hid (by_trans (by_alloc GB.out _) hg3)
      have z2 : z < 4 := by omega
      have HD := Lib.hid hd3
      clear z1 hg3 hd2 hd3
      obtain rfl | rfl | rfl | rfl : z = 0 ∨ z = 1 ∨ z = 2 ∨ z = 3 := by omega
      · have hc := hcx 0
        simp at hc
        clear hcx
        go_wp2_with fail
        go_meet
        exact ⟨_, rfl, by omega, by omega, HD.out, RB.out, GB.out⟩
      · have hc := hcx 1
        simp at hc
        clear hcx
        go_wp2_with fail
        go_meet
        exact ⟨_, rfl, by omega, by omega, HD.out, RB.out, GB.out⟩
      · have hc := hcx 2
        simp at hc
        clear hcx
        go_wp2_with fail
        go_meet
        exact ⟨_, rfl, by omega, by omega, HD.out, RB.out, GB.out⟩
      · have hc := hcx 3
        simp at hc
        clear hcx
        go_wp2_with fail
        go_meet
        exact ⟨_, rfl, by omega, by omega, HD.out, RB.out, GB.out⟩
    · have HD := Lib.hid hd2
      clear hd2
      go_wp2_with fail
      go_meet
      exact ⟨_, rfl, by omega, by omega, HD.out, RB.out, GB.out⟩
  case rest =>
    obtain ⟨D, rfl, D1, D2, hd, rb, gb⟩ := hcut
    have RB := Lib.hid rb
    have GB := Lib.hid gb
    have hz1 := gb.size
    clear rb gb H0
    go_wp2_with fail
    all_goals
      refine (next_dr _ w0 _ a n c xs _ hd (by omega)).mono ?_
      rintro e v1 ⟨x, rfl, x0, x1, hd1, hg1⟩
      have x2 : x ≤ D := by omega
      replace RB := Lib.hid (row_by RB.out hg1 (by omega))
      replace GB := Lib.hid (by_trans GB.out hg1)
      have hz2 := hg1.size
      clear hg1 hd x1
      go_wp2_with fail
      refine (l18Make_any _ _ _ (by omega) (by omega) (by omega) (by omega)).mono ?_
      rintro e v2 ⟨rfl, hb⟩
      have hd2 := hd1.after hb
      replace RB := Lib.hid (rowIs_below RB.out hb RB.out.lt)
      have hz3 := hb.size
      have hgb : v1.grownBy v2 (some g) := ⟨hb.os, hb.tape, hb.output, hb.size, fun i hi _ => hb.block i hi⟩
      replace GB := Lib.hid (by_trans GB.out hgb)
      clear hgb hb hd1
      obtain ⟨X, hX⟩ : ∃ X, loN x D = X := ⟨_, rfl⟩
      obtain ⟨Y, hY⟩ : ∃ Y, loD x D = Y := ⟨_, rfl⟩
      obtain ⟨B, hB⟩ : ∃ B, loB x D = B := ⟨_, rfl⟩
      rw [hX, hY, hB]
      clear hX hY hB
      go_wp2_with fail
      have hsz : w.heap.size < v2.heap.size := RB.out.lt
      have SN := Lib.hid (two_new v2 X Y 23)
      replace RB := Lib.hid (RB.out.alloc (.cells #[.int .i64 X, .int .i64 Y] 23))
      replace GB := Lib.hid (by_alloc GB.out (.cells #[.int .i64 X, .int .i64 Y] 23))
      have lt2 := hd2.lt
      refine (next_dr _ w0 _ a n c xs _ (hd2.alloc _) (by omega)).mono ?_
      rintro e v3 ⟨y, rfl, y0, y1, hd3, hg3⟩
      replace RB := Lib.hid (row_by RB.out hg3 (by omega))
      replace SN := Lib.hid (row_by SN.out hg3 (by omega))
      replace GB := Lib.hid (by_trans GB.out hg3)
      have hz4 := hg3.size
      simp only [World.size_alloc] at hz4
      clear hg3 hd2 y1
      obtain ⟨q0, q1, g0, g1⟩ := two_cells RB.out
      obtain ⟨n0, n1, n2, n3⟩ := two_cells SN.out
      by_cases h0 : y = 0
      · subst h0
        obtain ⟨S, hS⟩ : ∃ S, IntKind.i64.wrap (X + Y) = S := ⟨_, rfl⟩
        go_wp2_with fail
        obtain ⟨p0, p1, _, _⟩ := two_cells (two_set (rowIs_other2 RB.out (v2.heap.size) (by omega) 0 (.int .i64 S)) S Y)
        refine bodyPost_ret (v := shV S Y) (by simp [results, Tryd.results18, go_sem, p0, p1]) rfl ⟨_, _, rfl, ?_, ?_⟩
        · exact ((hd3.other (by first | omega | (simp; done) | (simp; omega)) (by first | omega | (simp; done) | (simp; omega)) _).other (by first | omega | (simp; done) | (simp; omega)) (by first | omega | (simp; done) | (simp; omega)) _).other (by first | omega | (simp; done) | (simp; omega)) (by first | omega | (simp; done) | (simp; omega)) _
        · exact by_new (by_new (by_new GB.out (by first | omega | (simp; done) | (simp; omega)) _) (by first | omega | (simp; done) | (simp; omega)) _) (by first | omega | (simp; done) | (simp; omega)) _
      by_cases h1 : y = 1
      · subst h1
        go_wp2_with fail
        refine (next_dr _ w0 _ a n c xs _ (hd3.alloc _) (by omega)).mono ?_
        rintro e v4 ⟨z, rfl, z0, z1, hd4, hg4⟩
        have l3 := hd3.lt
        have hcx := fun k => new_kept hg4 l3 k
        have hz5 := hg4.size
        simp only [World.size_alloc] at hz5
        replace RB := Lib.hid (row_by (RB.out.alloc _) hg4 (by omega))
        replace SN := Lib.hid (row_by (SN.out.alloc _) hg4 (by omega))
        replace GB := Lib.hid (by_trans (by_alloc GB.out _) hg4)
        have z2 : z < 3 := by omega
        clear z1 hg4 hd3 q0 q1 g0 g1 n0 n1 n2 n3
        obtain ⟨q0, q1, g0, g1⟩ := two_cells RB.out
        obtain ⟨n0, n1, n2, n3⟩ := two_cells SN.out
        obtain rfl | rfl | rfl : z = 0 ∨ z = 1 ∨ z = 2 := by omega
        · have hc := hcx 0
          simp at hc
          clear hcx
          go_wp2_with fail
          obtain ⟨p0, p1, _, _⟩ := two_cells (two_set (rowIs_other2 RB.out (v2.heap.size) (by omega) 1 (.int .i64 0)) X 0)
          refine bodyPost_ret (v := shV X 0) (by simp [results, Tryd.results18, go_sem, p0, p1]) rfl ⟨_, _, rfl, ?_, ?_⟩
          · exact ((hd4.other (by first | omega | (simp; done) | (simp; omega)) (by first | omega | (simp; done) | (simp; omega)) _).other (by first | omega | (simp; done) | (simp; omega)) (by first | omega | (simp; done) | (simp; omega)) _).other (by first | omega | (simp; done) | (simp; omega)) (by first | omega | (simp; done) | (simp; omega)) _
          · exact by_new (by_new (by_new GB.out (by first | omega | (simp; done) | (simp; omega)) _) (by first | omega | (simp; done) | (simp; omega)) _) (by first | omega | (simp; done) | (simp; omega)) _
        · have hc := hcx 1
          simp at hc
          clear hcx
          go_wp2_with fail
          obtain ⟨p0, p1, _, _⟩ := two_cells (two_set (rowIs_other2 RB.out (v2.heap.size) (by omega) 1 (.int .i64 (-1))) X (-1))
          refine bodyPost_ret (v := shV X (-1)) (by simp [results, Tryd.results18, go_sem, p0, p1]) rfl ⟨_, _, rfl, ?_, ?_⟩
          · exact ((hd4.other (by first | omega | (simp; done) | (simp; omega)) (by first | omega | (simp; done) | (simp; omega)) _).other (by first | omega | (simp; done) | (simp; omega)) (by first | omega | (simp; done) | (simp; omega)) _).other (by first | omega | (simp; done) | (simp; omega)) (by first | omega | (simp; done) | (simp; omega)) _
          · exact by_new (by_new (by_new GB.out (by first | omega | (simp; done) | (simp; omega)) _) (by first | omega | (simp; done) | (simp; omega)) _) (by first | omega | (simp; done) | (simp; omega)) _
        · have hc := hcx 2
          simp at hc
          clear hcx
          go_wp2_with fail
          obtain ⟨p0, p1, _, _⟩ := two_cells (two_set (rowIs_other2 RB.out (v2.heap.size) (by omega) 1 (.int .i64 1000000000000001)) X 1000000000000001)
          refine bodyPost_ret (v := shV X 1000000000000001) (by simp [results, Tryd.results18, go_sem, p0, p1]) rfl ⟨_, _, rfl, ?_, ?_⟩
          · exact ((hd4.other (by first | omega | (simp; done) | (simp; omega)) (by first | omega | (simp; done) | (simp; omega)) _).other (by first | omega | (simp; done) | (simp; omega)) (by first | omega | (simp; done) | (simp; omega)) _).other (by first | omega | (simp; done) | (simp; omega)) (by first | omega | (simp; done) | (simp; omega)) _
          · exact by_new (by_new (by_new GB.out (by first | omega | (simp; done) | (simp; omega)) _) (by first | omega | (simp; done) | (simp; omega)) _) (by first | omega | (simp; done) | (simp; omega)) _
      by_cases h2 : y = 2
      · subst h2
        obtain ⟨S, hS⟩ : ∃ S, IntKind.i64.wrap (2 * X) = S := ⟨_, rfl⟩
        obtain ⟨U, hU⟩ : ∃ S, IntKind.i64.wrap (2 * Y) = S := ⟨_, rfl⟩
        go_wp2_with fail
        obtain ⟨p0, p1, _, _⟩ := two_cells (two_set (rowIs_other2 (rowIs_other2 RB.out (v2.heap.size) (by omega) 0 (.int .i64 S)) (v2.heap.size) (by omega) 1 (.int .i64 U)) S U)
        refine bodyPost_ret (v := shV S U) (by simp [results, Tryd.results18, go_sem, p0, p1]) rfl ⟨_, _, rfl, ?_, ?_⟩
        · exact (((hd3.other (by first | omega | (simp; done) | (simp; omega)) (by first | omega | (simp; done) | (simp; omega)) _).other (by first | omega | (simp; done) | (simp; omega)) (by first | omega | (simp; done) | (simp; omega)) _).other (by first | omega | (simp; done) | (simp; omega)) (by first | omega | (simp; done) | (simp; omega)) _).other (by first | omega | (simp; done) | (simp; omega)) (by first | omega | (simp; done) | (simp; omega)) _
        · exact by_new (by_new (by_new (by_new GB.out (by first | omega | (simp; done) | (simp; omega)) _) (by first | omega | (simp; done) | (simp; omega)) _) (by first | omega | (simp; done) | (simp; omega)) _) (by first | omega | (simp; done) | (simp; omega)) _
      go_wp2_with fail
      obtain ⟨p0, p1, _, _⟩ := two_cells (two_set RB.out X Y)
      refine bodyPost_ret (v := shV X Y) (by simp [results, Tryd.results18, go_sem, p0, p1]) rfl ⟨_, _, rfl, ?_, ?_⟩
      · exact (hd3.other (by first | omega | (simp; done) | (simp; omega)) (by first | omega | (simp; done) | (simp; omega)) _).other (by first | omega | (simp; done) | (simp; omega)) (by first | omega | (simp; done) | (simp; omega)) _
      · exact by_new (by_new GB.out (by first | omega | (simp; done) | (simp; omega)) _) (by first | omega | (simp; done) | (simp; omega)) _

theorem two_set_other {w : World} {b g t : Nat} {x0 y0 x1 y1 : Int} (h : w.rowIs b t 2 (two x0 y0)) (k : w.rowIs g t 2 (two x1 y1)) (x y p q : Int) (hne : ¬ b = g) :
    let W := (((w.setCell ⟨b, 0, none⟩ (.int .i64 x)).setCell ⟨b, 1, none⟩ (.int .i64 y)).setCell ⟨g, 0, none⟩ (.int .i64 p)).setCell ⟨g, 1, none⟩ (.int .i64 q)
    W.cell? ⟨b, 0, none⟩ = some (.int .i64 x) ∧ W.cell? ⟨b, 1, none⟩ = some (.int .i64 y) ∧ W.cell? ⟨g, 0, none⟩ = some (.int .i64 p) ∧ W.cell? ⟨g, 1, none⟩ = some (.int .i64 q) := by
  have h1 := rowIs_other2 (rowIs_other2 (two_set h x y) g hne 0 (.int .i64 p)) g hne 1 (.int .i64 q)
  have k1 := two_set (rowIs_other2 (rowIs_other2 k b (fun e => hne e.symm) 0 (.int .i64 x)) b (fun e => hne e.symm) 1 (.int .i64 y)) p q
  exact ⟨(two_cells h1).1, (two_cells h1).2.1, (two_cells k1).1, (two_cells k1).2.1⟩
theorem keep4 {w : World} {b t : Nat} {x y : Int} (h : w.rowIs b t 2 (two x y)) (g g2 : Nat) (hne : ¬ b = g) (hne2 : ¬ b = g2) (v0 v1 v2 v3 : Value) :
    (((w.setCell ⟨g, 0, none⟩ v0).setCell ⟨g, 1, none⟩ v1).setCell ⟨g2, 0, none⟩ v2).setCell ⟨g2, 1, none⟩ v3 |>.rowIs b t 2 (two x y) :=
  rowIs_other2 (rowIs_other2 (rowIs_other2 (rowIs_other2 h g hne 0 v0) g hne 1 v1) g2 hne2 0 v2) g2 hne2 1 v3

end Go.Proofs.YtjagidpjdajpnaaDoor
