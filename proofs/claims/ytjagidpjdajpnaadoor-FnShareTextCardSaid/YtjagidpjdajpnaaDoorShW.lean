/-
  ShareText of both packages (printed by gen_shw.py).
-/
import Derived.Test.YtjagidpjdajpnaaDoorDec
import Derived.Test.YtjagidpjdajpnaaDoorNumW
import Derived.Deep.RegionHeld3
namespace Go.Proofs.YtjagidpjdajpnaaDoor
open Go.ChangeShapes Go.WideShapes Go.ChangeAt Go.RowKit Go.Deep
set_option linter.unusedVariables false
theorem shT_yes {n d : Int} (h : shB n d = true) : shT n d = itS n ++ (⟨#[47]⟩ : ByteArray) ++ itS d := by rw [shT, if_pos h, shR]

theorem impl_ShareText_any (n d : Int) (w : World) (ht : Tab w) : Calls Tryd.prog 10 #[shV n d] w fun e w' => e = .returned (.string (shT n d)) ∧ Below w.heap.size w w' := by
  have HB0 := Lib.hid ((Below.refl w.heap.size w).alloc (Nat.le_refl _) (.cells #[.int .i64 n, .int .i64 d] 23))
  have X0 := Lib.hid (q2_new w (.int .i64 n) (.int .i64 d) 23)
  obtain ⟨K, hK⟩ : ∃ K, shB n d = K := ⟨_, rfl⟩
  have IS := Lib.hid (fun W => hK ▸ impl_IsShare_any n d W)
  cases K
  · have HV := Lib.hid (shT_none hK)
    clear hK
    go_enter Tryd.func10, Tryd.ntmps10
    obtain ⟨x0, x1⟩ := q2_cells X0.out
    go_wp2_with fail
    (with_reducible refine (IS.out _).mono ?_)
    rintro e w1 ⟨rfl, hb⟩
    have HB1 := Lib.hid (HB0.out.trans (hb.mono HB0.out.size))
    clear hb x0 x1
    go_wp2_with fail
    go_ret
    exact ⟨ret_str HV.out, HB1.out⟩
  · obtain ⟨⟨n0, n1⟩, ⟨d0, d1⟩⟩ := shB_rg hK
    have HV := Lib.hid (shT_yes hK)
    clear hK
    have DN := Lib.hid (fun W (hW : Below w.heap.size w W) => decimal_any n W (by omega) (by omega) (ht.below hW))
    have DD := Lib.hid (fun W (hW : Below w.heap.size w W) => decimal_any d W (by omega) (by omega) (ht.below hW))
    have z1 := itS_size (n := n) (by omega) (by omega)
    have z2 := itS_size (n := d) (by omega) (by omega)
    have zs : (⟨#[47]⟩ : ByteArray).size = 1 := rfl
    have zz : (itS n ++ (⟨#[47]⟩ : ByteArray)).size = (itS n).size + 1 := by rw [ByteArray.size_append]; rfl
    have A1 : ∀ W : World, (Op.stringOp .add (itS n) (⟨#[47]⟩ : ByteArray)).run Tryd.prog W = .ok (.string (itS n ++ (⟨#[47]⟩ : ByteArray))) W := fun W => run_string_add_sum W _ _ (by omega)
    have B1 : ∀ W : World, (binOp .add 9 (.string (itS n)) (.string (⟨#[47]⟩ : ByteArray))).run Tryd.prog W = .ok (.string (itS n ++ (⟨#[47]⟩ : ByteArray))) W := fun W => A1 W
    have A2 : ∀ W : World, (Op.stringOp .add (itS n ++ (⟨#[47]⟩ : ByteArray)) (itS d)).run Tryd.prog W = .ok (.string (itS n ++ (⟨#[47]⟩ : ByteArray) ++ itS d)) W := fun W => run_string_add_sum W _ _ (by omega)
    have B2 : ∀ W : World, (binOp .add 9 (.string (itS n ++ (⟨#[47]⟩ : ByteArray))) (.string (itS d))).run Tryd.prog W = .ok (.string (itS n ++ (⟨#[47]⟩ : ByteArray) ++ itS d)) W := fun W => A2 W
    clear zs zz
    go_enter Tryd.func10, Tryd.ntmps10
    obtain ⟨x0, x1⟩ := q2_cells X0.out
    go_wp2_with fail
    (with_reducible refine (IS.out _).mono ?_)
    rintro e w1 ⟨rfl, hb⟩
    have HB1 := Lib.hid (HB0.out.trans (hb.mono HB0.out.size))
    have X1 := Lib.hid (rowIs_below X0.out hb X0.out.lt)
    clear hb x0 x1
    obtain ⟨x0, x1⟩ := q2_cells X1.out
    go_wp2_with fail
    replace X1 := Lib.hid (show w1.drew.rowIs w.heap.size 23 2 (q2 (.int .i64 n) (.int .i64 d)) from rowIs_drewN X1.out 1)
    replace HB1 := Lib.hid (show Below w.heap.size w w1.drew from below_drewN HB1.out 1)
    go_region_held3 (fun w' => w'.cell? ⟨w.heap.size, 0, none⟩ = some (.int .i64 n) ∧ w'.cell? ⟨w.heap.size, 1, none⟩ = some (.int .i64 d))
      (go_keep)
      ((go_at_call 20; (first
        | ((with_reducible refine (DN.out _ HB1.out).mono ?_); rintro e wa ⟨rfl, hb⟩; replace X1 := Lib.hid (rowIs_below X1.out hb X1.out.lt); replace HB1 := Lib.hid (HB1.out.trans (hb.mono HB1.out.size)); clear hb; obtain ⟨x0, x1⟩ := q2_cells X1.out)
        | ((with_reducible refine (DD.out _ HB1.out).mono ?_); rintro e wb ⟨rfl, hb⟩; replace X1 := Lib.hid (rowIs_below X1.out hb X1.out.lt); replace HB1 := Lib.hid (HB1.out.trans (hb.mono HB1.out.size)); clear hb; obtain ⟨x0, x1⟩ := q2_cells X1.out))))
    all_goals
      go_wp2_with fail
      go_ret
      exact ⟨ret_str HV.out, HB1.out⟩
theorem spec_ShareText_any (n d : Int) (w : World) : Calls Tryd.prog 11 #[shV n d] w fun e w' => e = .returned (.string (shT n d)) ∧ Below w.heap.size w w' := by
  have HB0 := Lib.hid ((Below.refl w.heap.size w).alloc (Nat.le_refl _) (.cells #[.int .i64 n, .int .i64 d] 23))
  have X0 := Lib.hid (q2_new w (.int .i64 n) (.int .i64 d) 23)
  obtain ⟨K, hK⟩ : ∃ K, shB n d = K := ⟨_, rfl⟩
  have IS := Lib.hid (fun W => hK ▸ spec_IsShare_any n d W)
  cases K
  · have HV := Lib.hid (shT_none hK)
    clear hK
    go_enter Tryd.func11, Tryd.ntmps11
    obtain ⟨x0, x1⟩ := q2_cells X0.out
    go_wp2_with fail
    (with_reducible refine (IS.out _).mono ?_)
    rintro e w1 ⟨rfl, hb⟩
    have HB1 := Lib.hid (HB0.out.trans (hb.mono HB0.out.size))
    clear hb x0 x1
    go_wp2_with fail
    go_ret
    exact ⟨ret_str HV.out, HB1.out⟩
  · obtain ⟨⟨n0, n1⟩, ⟨d0, d1⟩⟩ := shB_rg hK
    have HV := Lib.hid (shT_yes hK)
    clear hK
    have DN := Lib.hid (fun W (hW : Below w.heap.size w W) => l16Number_any n W (by omega) (by omega))
    have DD := Lib.hid (fun W (hW : Below w.heap.size w W) => l16Number_any d W (by omega) (by omega))
    have z1 := itS_size (n := n) (by omega) (by omega)
    have z2 := itS_size (n := d) (by omega) (by omega)
    have zs : (⟨#[47]⟩ : ByteArray).size = 1 := rfl
    have zz : (itS n ++ (⟨#[47]⟩ : ByteArray)).size = (itS n).size + 1 := by rw [ByteArray.size_append]; rfl
    have A1 : ∀ W : World, (Op.stringOp .add (itS n) (⟨#[47]⟩ : ByteArray)).run Tryd.prog W = .ok (.string (itS n ++ (⟨#[47]⟩ : ByteArray))) W := fun W => run_string_add_sum W _ _ (by omega)
    have B1 : ∀ W : World, (binOp .add 9 (.string (itS n)) (.string (⟨#[47]⟩ : ByteArray))).run Tryd.prog W = .ok (.string (itS n ++ (⟨#[47]⟩ : ByteArray))) W := fun W => A1 W
    have A2 : ∀ W : World, (Op.stringOp .add (itS n ++ (⟨#[47]⟩ : ByteArray)) (itS d)).run Tryd.prog W = .ok (.string (itS n ++ (⟨#[47]⟩ : ByteArray) ++ itS d)) W := fun W => run_string_add_sum W _ _ (by omega)
    have B2 : ∀ W : World, (binOp .add 9 (.string (itS n ++ (⟨#[47]⟩ : ByteArray))) (.string (itS d))).run Tryd.prog W = .ok (.string (itS n ++ (⟨#[47]⟩ : ByteArray) ++ itS d)) W := fun W => A2 W
    clear zs zz
    go_enter Tryd.func11, Tryd.ntmps11
    obtain ⟨x0, x1⟩ := q2_cells X0.out
    go_wp2_with fail
    (with_reducible refine (IS.out _).mono ?_)
    rintro e w1 ⟨rfl, hb⟩
    have HB1 := Lib.hid (HB0.out.trans (hb.mono HB0.out.size))
    have X1 := Lib.hid (rowIs_below X0.out hb X0.out.lt)
    clear hb x0 x1
    obtain ⟨x0, x1⟩ := q2_cells X1.out
    go_wp2_with fail
    replace X1 := Lib.hid (show w1.drew.rowIs w.heap.size 23 2 (q2 (.int .i64 n) (.int .i64 d)) from rowIs_drewN X1.out 1)
    replace HB1 := Lib.hid (show Below w.heap.size w w1.drew from below_drewN HB1.out 1)
    go_region_held3 (fun w' => w'.cell? ⟨w.heap.size, 0, none⟩ = some (.int .i64 n) ∧ w'.cell? ⟨w.heap.size, 1, none⟩ = some (.int .i64 d))
      (go_keep)
      ((go_at_call 21; (first
        | ((with_reducible refine (DN.out _ HB1.out).mono ?_); rintro e wa ⟨rfl, hb⟩; replace X1 := Lib.hid (rowIs_below X1.out hb X1.out.lt); replace HB1 := Lib.hid (HB1.out.trans (hb.mono HB1.out.size)); clear hb; obtain ⟨x0, x1⟩ := q2_cells X1.out)
        | ((with_reducible refine (DD.out _ HB1.out).mono ?_); rintro e wb ⟨rfl, hb⟩; replace X1 := Lib.hid (rowIs_below X1.out hb X1.out.lt); replace HB1 := Lib.hid (HB1.out.trans (hb.mono HB1.out.size)); clear hb; obtain ⟨x0, x1⟩ := q2_cells X1.out))))
    all_goals
      go_wp2_with fail
      go_ret
      exact ⟨ret_str HV.out, HB1.out⟩
end Go.Proofs.YtjagidpjdajpnaaDoor
