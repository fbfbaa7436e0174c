/-
  The draws of shares: l18DrawShare and DrawMixPoints.
-/
import Derived.Test.YtjagidpjdajpnaaDraw
import Derived.Test.YtjagidpjdajpnaaGcd
import Derived.StillTailTactics
import Derived.RegionTactic
import Derived.BigRegion
import Derived.Deep.RegionWith
import Derived.Deep.RegionHeld3
import Derived.Deep.Cut
import Derived.Deep.CutRange
import Derived.Deep.DeepCutAuto
namespace Go.Proofs.Ytjagidpjdajpnaa
open Go.ChangeShapes Go.WideShapes Go.ChangeAt Go.RowKit
set_option linter.unusedVariables false

section
variable {w0 w w1 : World} {g n c : Nat} {a : Option Addr} {xs : List Int}
theorem Below.setNew {B : Nat} {a w : World} (h : Below B a w) {p : Addr} (hp : B ≤ p.block) (v : Value) : Below B a (w.setCell p v) := h.setCell hp v
theorem Drawing.other (h : Drawing w0 g a n c xs w) {p : Addr} (hp : p.block ≠ g) (hz : w0.heap.size ≤ p.block) (v : Value) : Drawing w0 g a n c xs (w.setCell p v) := by
  obtain ⟨h1, h2, h3, h4, h5, h6⟩ := h
  refine ⟨h1.of_block (Below.heap_setCell w p v g (fun e => hp e.symm)), h2.below ((Below.refl w0.heap.size w).setCell hz v), h3, h4, h5, h6.setCell hz v⟩
theorem by_new {a w : World} {r : Option Nat} (h : a.grownBy w r) {p : Addr} (hp : a.heap.size ≤ p.block) (u : Value) : a.grownBy (w.setCell p u) r :=
  ⟨h.os, h.tape, h.output, by simpa [World.setCell] using h.size, fun i hi hne => (Below.heap_setCell w p u i (by rintro rfl; omega)).trans (h.block i hi hne)⟩
theorem by_alloc {a w : World} {r : Option Nat} (h : a.grownBy w r) (o : Obj) : a.grownBy (w.alloc o) r := by
  have k := World.grownBy_alloc w o r
  exact ⟨k.os.trans h.os, k.tape.trans h.tape, k.output.trans h.output, Nat.le_trans h.size k.size, fun i hi hn => (k.block i (Nat.lt_of_lt_of_le hi h.size) hn).trans (h.block i hi hn)⟩
theorem row_by {w w' : World} {g b : Nat} {t : TypeId} {n : Nat} {f : Nat → Value} (h : w.rowIs b t n f) (hg : w.grownBy w' (some g)) (hb : b ≠ g) : w'.rowIs b t n f :=
  h.of_block (hg.block b h.lt (fun e => hb (by injection e)))
theorem Drawing.drewN (h : Drawing w0 g a n c xs w) (k : Nat) : Drawing w0 g a n c xs (w.drewN k) := h.after ⟨rfl, rfl, rfl, Nat.le_refl _, fun _ _ => rfl⟩
end

theorem rowIs_other2 {w : World} {b : Nat} {t : TypeId} {n : Nat} {f : Nat → Value} (h : w.rowIs b t n f) (g : Nat) (hne : ¬ b = g) (k : Nat) (v : Value) : (w.setCell ⟨g, k, none⟩ v).rowIs b t n f := h.setOther (a := ⟨g, k, none⟩) (by simpa using hne) v

theorem IntsArg.after {w w1 : World} {k : IntKind} {a : Option Addr} {n : Nat} {xs : List Int} (h : IntsArg w k a n xs) (hb : Below w.heap.size w w1) : IntsArg w1 k a n xs :=
  ⟨(h.1.below hb).more hb.size, h.2.1, h.2.2⟩

def ShPost (w0 w : World) (g : Nat) (a : Option Addr) (n c : Nat) (xs : List Int) (e : Ending) (w' : World) : Prop :=
  ∃ x y : Int, e = .returned (shV x y) ∧ Drawing w0 g a n c xs w' ∧ w.grownBy w' (some g)
set_option maxHeartbeats 3200000 in
theorem drawShare_dr (w0 : World) (g : Nat) (a : Option Addr) (n c : Nat) (xs : List Int) (w : World) (h : Drawing w0 g a n c xs w) :
    Calls Try.prog 36 #[.pointer (some ⟨g, 0, none⟩)] w fun e w' => ShPost w0 w g a n c xs e w' := by
  have hlt := h.lt
  have hle := h.2.2.1
  have hz := h.below.size
  have H0 := Lib.hid (h.alloc (.cells #[.int .i64 0, .int .i64 0] 23))
  have RB := Lib.hid (two_new w 0 0 23)
  have GB := Lib.hid (World.grownBy_alloc w (.cells #[.int .i64 0, .int .i64 0] 23) (some g))
  clear h
  go_enter Try.func36, Try.ntmps36
  go_wp2_with fail
  refine (next_dr _ w0 _ a n c xs _ H0.out (by omega)).mono ?_
  rintro e v1 ⟨x, rfl, x0, x1, hd1, hg1⟩
  have x2 : x < 60 := by omega
  clear x1
  replace RB := Lib.hid (row_by RB.out hg1 (by omega))
  replace GB := Lib.hid (by_trans GB.out hg1)
  clear hg1
  go_wp2_with fail
  refine (next_dr _ w0 _ a n c xs _ hd1 (by omega)).mono ?_
  rintro e v2 ⟨y, rfl, y0, y1, hd2, hg2⟩
  replace RB := Lib.hid (row_by RB.out hg2 (by omega))
  replace GB := Lib.hid (by_trans GB.out hg2)
  have l2 := hd2.lt
  clear hg2 hd1 y1
  go_upto_if 11 with fail
  go_cut [3] (fun v wx => ∃ D : Int, v = .int .i64 D ∧ 1 ≤ D ∧ D ≤ 1000000000000000 ∧ Drawing w0 g a n c xs wx ∧ wx.rowIs w.heap.size 23 2 (two 0 0) ∧ w.grownBy wx (some g))
  case first =>
    by_cases hy : y = 0
    · subst hy
      go_wp2_with fail
      refine (next_dr _ w0 _ a n c xs _ (hd2.alloc _) (by omega)).mono ?_
      rintro e v3 ⟨z, rfl, z0, z1, hd3, hg3⟩
      have hcx := fun k => new_kept hg3 l2 k
      replace RB := Lib.hid (row_by (RB.out.alloc _) hg3 (by omega))
      replace GB := Lib.hid (by_trans (by_alloc GB.out _) hg3)
      have z2 : z < 4 := by omega
      have HD := Lib.hid hd3
      clear z1 hg3 hd2 hd3
      obtain rfl | rfl | rfl | rfl : z = 0 ∨ z = 1 ∨ z = 2 ∨ z = 3 := by omega
      · have hc := hcx 0
        simp at hc
        clear hcx
        go_wp2_with fail
        go_meet
        exact ⟨_, rfl, by omega, by omega, HD.out, RB.out, GB.out⟩
      · have hc := hcx 1
        simp at hc
        clear hcx
        go_wp2_with fail
        go_meet
        exact ⟨_, rfl, by omega, by omega, HD.out, RB.out, GB.out⟩
      · have hc := hcx 2
        simp at hc
        clear hcx
        go_wp2_with fail
        go_meet
        exact ⟨_, rfl, by omega, by omega, HD.out, RB.out, GB.out⟩
      · have hc := hcx 3
        simp at hc
        clear hcx
        go_wp2_with fail
        go_meet
        exact ⟨_, rfl, by omega, by omega, HD.out, RB.out, GB.out⟩
    · have HD := Lib.hid hd2
      clear hd2
      go_wp2_with fail
      go_meet
      exact ⟨_, rfl, by omega, by omega, HD.out, RB.out, GB.out⟩
  case rest =>
    obtain ⟨D, rfl, D1, D2, hd, rb, gb⟩ := hcut
    have RB := Lib.hid rb
    have GB := Lib.hid gb
    have hz1 := gb.size
    clear rb gb H0
    go_wp2_with fail
    all_goals
      refine (next_dr _ w0 _ a n c xs _ hd (by omega)).mono ?_
      rintro e v1 ⟨x, rfl, x0, x1, hd1, hg1⟩
      have x2 : x ≤ D := by omega
      replace RB := Lib.hid (row_by RB.out hg1 (by omega))
      replace GB := Lib.hid (by_trans GB.out hg1)
      have hz2 := hg1.size
      clear hg1 hd x1
      go_wp2_with fail
      refine (l18Make_any _ _ _ (by omega) (by omega) (by omega) (by omega)).mono ?_
      rintro e v2 ⟨rfl, hb⟩
      have hd2 := hd1.after hb
      replace RB := Lib.hid (rowIs_below RB.out hb RB.out.lt)
      have hz3 := hb.size
      have hgb : v1.grownBy v2 (some g) := ⟨hb.os, hb.tape, hb.output, hb.size, fun i hi _ => hb.block i hi⟩
      replace GB := Lib.hid (by_trans GB.out hgb)
      clear hgb hb hd1
      obtain ⟨X, hX⟩ : ∃ X, loN x D = X := ⟨_, rfl⟩
      obtain ⟨Y, hY⟩ : ∃ Y, loD x D = Y := ⟨_, rfl⟩
      obtain ⟨B, hB⟩ : ∃ B, loB x D = B := ⟨_, rfl⟩
      rw [hX, hY, hB]
      clear hX hY hB
      go_wp2_with fail
      have hsz : w.heap.size < v2.heap.size := RB.out.lt
      have SN := Lib.hid (two_new v2 X Y 23)
      replace RB := Lib.hid (RB.out.alloc (.cells #[.int .i64 X, .int .i64 Y] 23))
      replace GB := Lib.hid (by_alloc GB.out (.cells #[.int .i64 X, .int .i64 Y] 23))
      have lt2 := hd2.lt
      refine (next_dr _ w0 _ a n c xs _ (hd2.alloc _) (by omega)).mono ?_
      rintro e v3 ⟨y, rfl, y0, y1, hd3, hg3⟩
      replace RB := Lib.hid (row_by RB.out hg3 (by omega))
      replace SN := Lib.hid (row_by SN.out hg3 (by omega))
      replace GB := Lib.hid (by_trans GB.out hg3)
      have hz4 := hg3.size
      simp only [World.size_alloc] at hz4
      clear hg3 hd2 y1
      obtain ⟨q0, q1, g0, g1⟩ := two_cells RB.out
      obtain ⟨n0, n1, n2, n3⟩ := two_cells SN.out
      by_cases h0 : y = 0
      · subst h0
        obtain ⟨S, hS⟩ : ∃ S, IntKind.i64.wrap (X + Y) = S := ⟨_, rfl⟩
        go_wp2_with fail
        obtain ⟨p0, p1, _, _⟩ := two_cells (two_set (rowIs_other2 RB.out (v2.heap.size) (by omega) 0 (.int .i64 S)) S Y)
        refine bodyPost_ret (v := shV S Y) (by simp [results, Try.results36, go_sem, p0, p1]) rfl ⟨_, _, rfl, ?_, ?_⟩
        · exact ((hd3.other (by first | omega | (simp; done) | (simp; omega)) (by first | omega | (simp; done) | (simp; omega)) _).other (by first | omega | (simp; done) | (simp; omega)) (by first | omega | (simp; done) | (simp; omega)) _).other (by first | omega | (simp; done) | (simp; omega)) (by first | omega | (simp; done) | (simp; omega)) _
        · exact by_new (by_new (by_new GB.out (by first | omega | (simp; done) | (simp; omega)) _) (by first | omega | (simp; done) | (simp; omega)) _) (by first | omega | (simp; done) | (simp; omega)) _
      by_cases h1 : y = 1
      · subst h1
        go_wp2_with fail
        refine (next_dr _ w0 _ a n c xs _ (hd3.alloc _) (by omega)).mono ?_
        rintro e v4 ⟨z, rfl, z0, z1, hd4, hg4⟩
        have l3 := hd3.lt
        have hcx := fun k => new_kept hg4 l3 k
        have hz5 := hg4.size
        simp only [World.size_alloc] at hz5
        replace RB := Lib.hid (row_by (RB.out.alloc _) hg4 (by omega))
        replace SN := Lib.hid (row_by (SN.out.alloc _) hg4 (by omega))
        replace GB := Lib.hid (by_trans (by_alloc GB.out _) hg4)
        have z2 : z < 3 := by omega
        clear z1 hg4 hd3 q0 q1 g0 g1 n0 n1 n2 n3
        obtain ⟨q0, q1, g0, g1⟩ := two_cells RB.out
        obtain ⟨n0, n1, n2, n3⟩ := two_cells SN.out
        obtain rfl | rfl | rfl : z = 0 ∨ z = 1 ∨ z = 2 := by omega
        · have hc := hcx 0
          simp at hc
          clear hcx
          go_wp2_with fail
          obtain ⟨p0, p1, _, _⟩ := two_cells (two_set (rowIs_other2 RB.out (v2.heap.size) (by omega) 1 (.int .i64 0)) X 0)
          refine bodyPost_ret (v := shV X 0) (by simp [results, Try.results36, go_sem, p0, p1]) rfl ⟨_, _, rfl, ?_, ?_⟩
          · exact ((hd4.other (by first | omega | (simp; done) | (simp; omega)) (by first | omega | (simp; done) | (simp; omega)) _).other (by first | omega | (simp; done) | (simp; omega)) (by first | omega | (simp; done) | (simp; omega)) _).other (by first | omega | (simp; done) | (simp; omega)) (by first | omega | (simp; done) | (simp; omega)) _
          · exact by_new (by_new (by_new GB.out (by first | omega | (simp; done) | (simp; omega)) _) (by first | omega | (simp; done) | (simp; omega)) _) (by first | omega | (simp; done) | (simp; omega)) _
        · have hc := hcx 1
          simp at hc
          clear hcx
          go_wp2_with fail
          obtain ⟨p0, p1, _, _⟩ := two_cells (two_set (rowIs_other2 RB.out (v2.heap.size) (by omega) 1 (.int .i64 (-1))) X (-1))
          refine bodyPost_ret (v := shV X (-1)) (by simp [results, Try.results36, go_sem, p0, p1]) rfl ⟨_, _, rfl, ?_, ?_⟩
          · exact ((hd4.other (by first | omega | (simp; done) | (simp; omega)) (by first | omega | (simp; done) | (simp; omega)) _).other (by first | omega | (simp; done) | (simp; omega)) (by first | omega | (simp; done) | (simp; omega)) _).other (by first | omega | (simp; done) | (simp; omega)) (by first | omega | (simp; done) | (simp; omega)) _
          · exact by_new (by_new (by_new GB.out (by first | omega | (simp; done) | (simp; omega)) _) (by first | omega | (simp; done) | (simp; omega)) _) (by first | omega | (simp; done) | (simp; omega)) _
        · have hc := hcx 2
          simp at hc
          clear hcx
          go_wp2_with fail
          obtain ⟨p0, p1, _, _⟩ := two_cells (two_set (rowIs_other2 RB.out (v2.heap.size) (by omega) 1 (.int .i64 1000000000000001)) X 1000000000000001)
          refine bodyPost_ret (v := shV X 1000000000000001) (by simp [results, Try.results36, go_sem, p0, p1]) rfl ⟨_, _, rfl, ?_, ?_⟩
          · exact ((hd4.other (by first | omega | (simp; done) | (simp; omega)) (by first | omega | (simp; done) | (simp; omega)) _).other (by first | omega | (simp; done) | (simp; omega)) (by first | omega | (simp; done) | (simp; omega)) _).other (by first | omega | (simp; done) | (simp; omega)) (by first | omega | (simp; done) | (simp; omega)) _
          · exact by_new (by_new (by_new GB.out (by first | omega | (simp; done) | (simp; omega)) _) (by first | omega | (simp; done) | (simp; omega)) _) (by first | omega | (simp; done) | (simp; omega)) _
      by_cases h2 : y = 2
      · subst h2
        obtain ⟨S, hS⟩ : ∃ S, IntKind.i64.wrap (2 * X) = S := ⟨_, rfl⟩
        obtain ⟨U, hU⟩ : ∃ S, IntKind.i64.wrap (2 * Y) = S := ⟨_, rfl⟩
        go_wp2_with fail
        obtain ⟨p0, p1, _, _⟩ := two_cells (two_set (rowIs_other2 (rowIs_other2 RB.out (v2.heap.size) (by omega) 0 (.int .i64 S)) (v2.heap.size) (by omega) 1 (.int .i64 U)) S U)
        refine bodyPost_ret (v := shV S U) (by simp [results, Try.results36, go_sem, p0, p1]) rfl ⟨_, _, rfl, ?_, ?_⟩
        · exact (((hd3.other (by first | omega | (simp; done) | (simp; omega)) (by first | omega | (simp; done) | (simp; omega)) _).other (by first | omega | (simp; done) | (simp; omega)) (by first | omega | (simp; done) | (simp; omega)) _).other (by first | omega | (simp; done) | (simp; omega)) (by first | omega | (simp; done) | (simp; omega)) _).other (by first | omega | (simp; done) | (simp; omega)) (by first | omega | (simp; done) | (simp; omega)) _
        · exact by_new (by_new (by_new (by_new GB.out (by first | omega | (simp; done) | (simp; omega)) _) (by first | omega | (simp; done) | (simp; omega)) _) (by first | omega | (simp; done) | (simp; omega)) _) (by first | omega | (simp; done) | (simp; omega)) _
      go_wp2_with fail
      obtain ⟨p0, p1, _, _⟩ := two_cells (two_set RB.out X Y)
      refine bodyPost_ret (v := shV X Y) (by simp [results, Try.results36, go_sem, p0, p1]) rfl ⟨_, _, rfl, ?_, ?_⟩
      · exact (hd3.other (by first | omega | (simp; done) | (simp; omega)) (by first | omega | (simp; done) | (simp; omega)) _).other (by first | omega | (simp; done) | (simp; omega)) (by first | omega | (simp; done) | (simp; omega)) _
      · exact by_new (by_new GB.out (by first | omega | (simp; done) | (simp; omega)) _) (by first | omega | (simp; done) | (simp; omega)) _

theorem two_set_other {w : World} {b g t : Nat} {x0 y0 x1 y1 : Int} (h : w.rowIs b t 2 (two x0 y0)) (k : w.rowIs g t 2 (two x1 y1)) (x y p q : Int) (hne : ¬ b = g) :
    let W := (((w.setCell ⟨b, 0, none⟩ (.int .i64 x)).setCell ⟨b, 1, none⟩ (.int .i64 y)).setCell ⟨g, 0, none⟩ (.int .i64 p)).setCell ⟨g, 1, none⟩ (.int .i64 q)
    W.cell? ⟨b, 0, none⟩ = some (.int .i64 x) ∧ W.cell? ⟨b, 1, none⟩ = some (.int .i64 y) ∧ W.cell? ⟨g, 0, none⟩ = some (.int .i64 p) ∧ W.cell? ⟨g, 1, none⟩ = some (.int .i64 q) := by
  have h1 := rowIs_other2 (rowIs_other2 (two_set h x y) g hne 0 (.int .i64 p)) g hne 1 (.int .i64 q)
  have k1 := two_set (rowIs_other2 (rowIs_other2 k b (fun e => hne e.symm) 0 (.int .i64 x)) b (fun e => hne e.symm) 1 (.int .i64 y)) p q
  exact ⟨(two_cells h1).1, (two_cells h1).2.1, (two_cells k1).1, (two_cells k1).2.1⟩
theorem keep4 {w : World} {b t : Nat} {x y : Int} (h : w.rowIs b t 2 (two x y)) (g g2 : Nat) (hne : ¬ b = g) (hne2 : ¬ b = g2) (v0 v1 v2 v3 : Value) :
    (((w.setCell ⟨g, 0, none⟩ v0).setCell ⟨g, 1, none⟩ v1).setCell ⟨g2, 0, none⟩ v2).setCell ⟨g2, 1, none⟩ v3 |>.rowIs b t 2 (two x y) :=
  rowIs_other2 (rowIs_other2 (rowIs_other2 (rowIs_other2 h g hne 0 v0) g hne 1 v1) g2 hne2 0 v2) g2 hne2 1 v3

def MixDPost (w : World) (e : Ending) (w' : World) : Prop := ∃ p q r s t : Int, e = .returned (.tuple #[shV p q, shV r s, .int .i64 t]) ∧ Below w.heap.size w w'
set_option maxHeartbeats 3200000 in
theorem DrawMixPoints_any (a : Option Addr) (n c : Nat) (xs : List Int) (w : World) (h : IntsArg w .u8 a n xs) (hn : n ≤ 4096) :
    Calls Try.prog 20 #[.slice a n c] w fun e w' => MixDPost w e w' := by
  have HB0 := ((Below.refl w.heap.size w).alloc (Nat.le_refl _) (.cells #[.int .i64 0, .int .i64 0] 23)).alloc (by first | omega | (simp; done) | (simp; omega)) (.cells #[.int .i64 0, .int .i64 0] 23)
  have R0 := Lib.hid ((two_new w 0 0 23).alloc (.cells #[.int .i64 0, .int .i64 0] 23))
  have R1 := Lib.hid (two_new (w.alloc (.cells #[.int .i64 0, .int .i64 0] 23)) 0 0 23)
  have z0 : ((w.alloc (.cells #[.int .i64 0, .int .i64 0] 23)).alloc (.cells #[.int .i64 0, .int .i64 0] 23)).heap.size = w.heap.size + 1 + 1 := by simp
  have h2 := h.after HB0
  rw [World.size_alloc] at R1
  clear h
  have HZ := Lib.hid z0
  clear z0
  go_enter Try.func20, Try.ntmps20
  go_wp2_with fail
  refine (from_dr a n c xs ((w.alloc (.cells #[.int .i64 0, .int .i64 0] 23)).alloc (.cells #[.int .i64 0, .int .i64 0] 23)) h2 hn).mono ?_
  rintro e w1 ⟨rfl, hd⟩
  have hb := hd.below
  replace R0 := Lib.hid (rowIs_below R0.out hb R0.out.lt)
  replace R1 := Lib.hid (rowIs_below R1.out hb R1.out.lt)
  replace HB0 := HB0.trans (hb.mono HB0.size)
  clear hb h2
  have le1 : w.heap.size + 1 + 1 ≤ ((w.alloc (.cells #[.int .i64 0, .int .i64 0] 23)).alloc (.cells #[.int .i64 0, .int .i64 0] 23)).heap.size := Nat.le_of_eq HZ.out.symm
  have le2 : ((w.alloc (.cells #[.int .i64 0, .int .i64 0] 23)).alloc (.cells #[.int .i64 0, .int .i64 0] 23)).heap.size ≤ w.heap.size + 1 + 1 := Nat.le_of_eq HZ.out
  obtain ⟨W, hW⟩ : ∃ W, W = ((w.alloc (.cells #[.int .i64 0, .int .i64 0] 23)).alloc (.cells #[.int .i64 0, .int .i64 0] 23)) := ⟨_, rfl⟩
  rw [← hW] at hd le1 le2
  rw [← hW]
  clear hW HZ
  obtain ⟨g, hg1, hg2⟩ : ∃ g, g = W.heap.size ∧ W.heap.size ≤ g := ⟨_, rfl, Nat.le_refl _⟩
  rw [← hg1] at hd
  rw [← hg1]
  have HG := Lib.hid hg1
  clear hg1
  go_wp2_with fail
  refine (drawShare_dr W g a n c xs w1 hd).mono ?_
  rintro e w2 ⟨x, y, rfl, hd2, hg⟩
  replace R0 := Lib.hid (row_by R0.out hg (by omega))
  replace R1 := Lib.hid (row_by R1.out hg (by omega))
  replace HB0 := by_below HB0 hg (by omega) (by have := HB0.size; omega)
  clear hg hd
  go_wp2_with fail
  have SN := Lib.hid (two_new w2 x y 23)
  have l2 := hd2.lt
  have s2 : w.heap.size + 1 < w2.heap.size := R1.out.lt
  replace R0 := Lib.hid (R0.out.alloc (.cells #[.int .i64 x, .int .i64 y] 23))
  replace R1 := Lib.hid (R1.out.alloc (.cells #[.int .i64 x, .int .i64 y] 23))
  replace HB0 := HB0.alloc HB0.size (.cells #[.int .i64 x, .int .i64 y] 23)
  refine (next_dr _ W _ a n c xs _ (hd2.alloc _) (by omega)).mono ?_
  rintro e w3 ⟨t, rfl, t0, t1, hd3, hg⟩
  replace R0 := Lib.hid (row_by R0.out hg (by omega))
  replace R1 := Lib.hid (row_by R1.out hg (by omega))
  replace SN := Lib.hid (row_by SN.out hg (by omega))
  replace HB0 := by_below HB0 hg (by omega) (by have := HB0.size; omega)
  have s3 := hg.size
  simp only [World.size_alloc] at s3
  clear hg hd2
  go_wp2_with fail
  refine (next_dr _ W _ a n c xs _ hd3 (by omega)).mono ?_
  rintro e w4 ⟨k, rfl, k0, k1, hd4, hg⟩
  replace R0 := Lib.hid (row_by R0.out hg (by omega))
  replace R1 := Lib.hid (row_by R1.out hg (by omega))
  replace SN := Lib.hid (row_by SN.out hg (by omega))
  replace HB0 := by_below HB0 hg (by omega) (by have := HB0.size; omega)
  have s4 := hg.size
  clear hg hd3 k1 t1
  go_upto_if 16 with fail
  go_cut [7] (fun v wx => ∃ t : Int, v = .int .i64 t ∧ Drawing W g a n c xs wx ∧ wx.rowIs w.heap.size 23 2 (two 0 0) ∧ wx.rowIs (w.heap.size + 1) 23 2 (two 0 0) ∧ wx.rowIs w2.heap.size 23 2 (two x y) ∧ Below w.heap.size w wx)
  case first =>
    by_cases hk : k = 0
    · subst hk
      go_wp2_with fail
      refine (next_dr _ W _ a n c xs _ (hd4.alloc _) (by omega)).mono ?_
      rintro e w5 ⟨z, rfl, z0, z1, hd5, hg⟩
      have l4 := hd4.lt
      have hcx := fun k => new_kept hg l4 k
      replace R0 := Lib.hid (row_by (R0.out.alloc _) hg (by omega))
      replace R1 := Lib.hid (row_by (R1.out.alloc _) hg (by omega))
      replace SN := Lib.hid (row_by (SN.out.alloc _) hg (by omega))
      have HB1 := by_below (HB0.alloc HB0.size _) hg (by omega) (by have := HB0.size; simp; omega)
      have z2 : z < 4 := by omega
      have HD := Lib.hid hd5
      have HB2 := Lib.hid HB1
      clear z1 hg hd4 hd5 HB0 HB1
      obtain rfl | rfl | rfl | rfl : z = 0 ∨ z = 1 ∨ z = 2 ∨ z = 3 := by omega
      · have hc := hcx 0
        simp at hc
        clear hcx
        go_wp2_with fail
        go_meet
        exact ⟨_, rfl, HD.out, R0.out, R1.out, SN.out, HB2.out⟩
      · have hc := hcx 1
        simp at hc
        clear hcx
        go_wp2_with fail
        go_meet
        exact ⟨_, rfl, HD.out, R0.out, R1.out, SN.out, HB2.out⟩
      · have hc := hcx 2
        simp at hc
        clear hcx
        go_wp2_with fail
        go_meet
        exact ⟨_, rfl, HD.out, R0.out, R1.out, SN.out, HB2.out⟩
      · have hc := hcx 3
        simp at hc
        clear hcx
        go_wp2_with fail
        go_meet
        exact ⟨_, rfl, HD.out, R0.out, R1.out, SN.out, HB2.out⟩
    · have HD := Lib.hid hd4
      have HB2 := Lib.hid HB0
      clear hd4 HB0
      go_wp2_with fail
      go_meet
      exact ⟨_, rfl, HD.out, R0.out, R1.out, SN.out, HB2.out⟩
  case rest =>
    obtain ⟨t, rfl, hd, r0, r1, sn, HB1⟩ := hcut
    clear R0 R1 SN HB0
    have R0 := Lib.hid r0
    have R1 := Lib.hid r1
    have SN := Lib.hid sn
    obtain ⟨w6, hw6⟩ : ∃ x, x = wc := ⟨_, rfl⟩
    subst hw6
    have HD := Lib.hid (drawShare_dr W g a n c xs w6.drew (hd.drewN 1))
    obtain ⟨n0, n1, _, _⟩ := two_cells SN.out
    clear r0 r1 sn hd hd4
    go_wp2_with fail
    go_region_held3 (fun w' => w'.cell? ⟨w2.heap.size, 0, none⟩ = some (.int .i64 x) ∧ w'.cell? ⟨w2.heap.size, 1, none⟩ = some (.int .i64 y))
      (first | (with_reducible exact ⟨n0, n1⟩) | (with_reducible exact SX.out _ _ _ _) | (with_reducible exact SY.out _ _) | (with_reducible exact SZ0.out) | exact ⟨n0, n1⟩ | go_keep)
      ((go_at_call 36; (with_reducible refine HD.out.mono ?_); rintro e w7 ⟨p, q, rfl, hd7, hg⟩; have S0 := row_by (rowIs_drewN R0.out 1) hg (by omega); have S1 := row_by (rowIs_drewN R1.out 1) hg (by omega); replace SN := Lib.hid (row_by (rowIs_drewN SN.out 1) hg (by omega)); have HB8 := Lib.hid (by_below (w := w6.drew) (below_drewN HB1 1) hg (by omega) (by exact HB1.size)); obtain ⟨b0, b1, b2, b3⟩ := two_cells S0; obtain ⟨c0, c1, c2, c3⟩ := two_cells S1; have zz := S1.lt; have SS := Lib.hid (two_set_other S0 S1 x y p q (by omega)); have SY := Lib.hid (fun v0 v1 => And.intro (two_cells (rowIs_other2 (rowIs_other2 SN.out (w.heap.size) (by omega) 0 v0) (w.heap.size) (by omega) 1 v1)).1 (two_cells (rowIs_other2 (rowIs_other2 SN.out (w.heap.size) (by omega) 0 v0) (w.heap.size) (by omega) 1 v1)).2.1); have SZ0 := Lib.hid (And.intro (two_cells SN.out).1 (two_cells SN.out).2.1); have SX := Lib.hid (fun v0 v1 v2 v3 => And.intro (two_cells (keep4 SN.out (w.heap.size) (w.heap.size + 1) (by omega) (by omega) v0 v1 v2 v3)).1 (two_cells (keep4 SN.out (w.heap.size) (w.heap.size + 1) (by omega) (by omega) v0 v1 v2 v3)).2.1); clear hg))
    all_goals
      obtain ⟨p0, p1, p2, p3⟩ := SS.out
      go_wp2
      refine bodyPost_ret (v := .tuple #[shV x y, shV p q, .int .i64 t]) (by simp [results, Try.results20, go_sem, p0, p1, p2, p3]) rfl ⟨_, _, _, _, _, rfl, ?_⟩
      exact (((HB8.out.setCell (by first | omega | (simp; done) | (simp; omega)) _).setCell (by first | omega | (simp; done) | (simp; omega)) _).setCell (by first | omega | (simp; done) | (simp; omega)) _).setCell (by first | omega | (simp; done) | (simp; omega)) _
end Go.Proofs.Ytjagidpjdajpnaa
