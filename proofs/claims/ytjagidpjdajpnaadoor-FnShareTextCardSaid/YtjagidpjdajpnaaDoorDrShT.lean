/-
  The draw of DrawShareText: one share.
-/
import Derived.Test.YtjagidpjdajpnaaDoorDrawT
namespace Go.Proofs.YtjagidpjdajpnaaDoor
open Go.ChangeShapes Go.WideShapes Go.ChangeAt Go.RowKit
set_option linter.unusedVariables false
def ShDPost (w : World) (e : Ending) (w' : World) : Prop := ∃ x y : Int, e = .returned (shV x y) ∧ Below w.heap.size w w'
set_option maxHeartbeats 1600000 in
theorem DrawShareText_any (a : Option Addr) (n c : Nat) (xs : List Int) (w : World) (h : IntsArg w .u8 a n xs) (hn : n ≤ 4096) :
    Calls Tryd.prog 9 #[.slice a n c] w fun e w' => ShDPost w e w' := by
  have HB0 := Lib.hid ((Below.refl w.heap.size w).alloc (Nat.le_refl _) (.cells #[.int .i64 0, .int .i64 0] 23))
  have R0 := Lib.hid (two_new w 0 0 23)
  have h2 := h.after HB0.out
  clear h
  go_enter Tryd.func9, Tryd.ntmps9
  go_wp2_with fail
  refine (from_dr a n c xs _ h2 hn).mono ?_
  rintro e w1 ⟨rfl, hd⟩
  have hb := hd.below
  have hgs : (w.alloc (.cells #[.int .i64 0, .int .i64 0] 23)).heap.size = w.heap.size + 1 := by simp
  rw [hgs] at hd
  have R1 := Lib.hid (rowIs_below R0.out hb R0.out.lt)
  have HB1 := Lib.hid (HB0.out.trans (hb.mono HB0.out.size))
  have hl := R1.out.lt
  clear hb h2
  go_wp2_with fail
  refine (drawShare_dr _ _ a n c xs w1 hd).mono ?_
  rintro e w2 ⟨x, y, rfl, hd2, hg⟩
  have R2 := Lib.hid (row_by R1.out hg (by omega))
  have hb2 := hd2.below
  have HB2 := Lib.hid (HB0.out.trans (hb2.mono HB0.out.size))
  have hl2 := R2.out.lt
  clear hg hb2 hd hd2
  obtain ⟨c0, c1, f0, f1⟩ := two_cells R2.out
  go_wp2_with fail
  obtain ⟨z0, z1, _, _⟩ := two_cells (two_set R2.out x y)
  refine bodyPost_ret (v := shV x y) (by simp [results, Tryd.results9, go_sem, z0, z1]) rfl ⟨x, y, rfl, (HB2.out.setCell (by simp) _).setCell (by simp) _⟩
end Go.Proofs.YtjagidpjdajpnaaDoor
