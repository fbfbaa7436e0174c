/-
  The walks of MatchChance (both packages), from fresh tables.
-/
import Derived.Test.YtkioliioakmepaaMchX
import Derived.Test.YtkioliioakmepaaMchD
import Derived.Test.YtkioliioakmepaaMchE
namespace Go.Proofs.Ytkioliioakmepaa
open Go.ChangeShapes Go.WideShapes Go.ChangeAt Go.RowKit
set_option linter.unusedVariables false

set_option maxHeartbeats 800000 in
theorem newMatch_any (M : Mm) (w : World) : Calls Try.prog 70 #[M.V] w fun e w' => ∃ g t f, e = .returned (.pointer (some ⟨g, 0, none⟩)) ∧ Lie w.heap.size w'.heap.size g t f ∧ Tm M g t f 0 w' ∧ Below w.heap.size w w' := by
  have hmm := @run_makeMap Try.prog
  have HB := ((((Below.refl w.heap.size w).alloc (Nat.le_refl _) (.cells #[.slice M.a M.n M.c, .slice M.b M.m M.d, .slice M.e M.p M.f] 26)).alloc (by simp) (.map #[] 0)).alloc (by simp; omega) (.map #[] 0)).alloc (by simp; omega) (.cells #[.slice M.a M.n M.c, .slice M.b M.m M.d, .slice M.e M.p M.f, .map (some (w.heap.size + 1)), .map (some (w.heap.size + 1 + 1))] 108)
  have m1 := ((Mp.made (w.alloc (.cells #[.slice M.a M.n M.c, .slice M.b M.m M.d, .slice M.e M.p M.f] 26))).alloc (.map #[] 0)).alloc (.cells #[.slice M.a M.n M.c, .slice M.b M.m M.d, .slice M.e M.p M.f, .map (some (w.heap.size + 1)), .map (some (w.heap.size + 1 + 1))] 108)
  have m2 := (Mp.made ((w.alloc (.cells #[.slice M.a M.n M.c, .slice M.b M.m M.d, .slice M.e M.p M.f] 26)).alloc (.map #[] 0))).alloc (.cells #[.slice M.a M.n M.c, .slice M.b M.m M.d, .slice M.e M.p M.f, .map (some (w.heap.size + 1)), .map (some (w.heap.size + 1 + 1))] 108)
  have r := World.rowIs_alloc (((w.alloc (.cells #[.slice M.a M.n M.c, .slice M.b M.m M.d, .slice M.e M.p M.f] 26)).alloc (.map #[] 0)).alloc (.map #[] 0)) #[.slice M.a M.n M.c, .slice M.b M.m M.d, .slice M.e M.p M.f, .map (some (w.heap.size + 1)), .map (some (w.heap.size + 1 + 1))] 108 (mtC M (w.heap.size + 1) (w.heap.size + 1 + 1)) (fun j hj => by
    match j, hj with
    | 0, _ => rfl
    | 1, _ => rfl
    | 2, _ => rfl
    | 3, _ => rfl
    | 4, _ => rfl)
  simp only [World.size_alloc] at m1 m2 r
  have HT : Hid (Tm M (w.heap.size + 1 + 1 + 1) (w.heap.size + 1) (w.heap.size + 1 + 1) 0 ((((w.alloc (.cells #[.slice M.a M.n M.c, .slice M.b M.m M.d, .slice M.e M.p M.f] 26)).alloc (.map #[] 0)).alloc (.map #[] 0)).alloc (.cells #[.slice M.a M.n M.c, .slice M.b M.m M.d, .slice M.e M.p M.f, .map (some (w.heap.size + 1)), .map (some (w.heap.size + 1 + 1))] 108))) :=
    ⟨_, _, r, m1, m2, fun _ _ _ _ _ _ _ => .inl ⟨rfl, rfl⟩⟩
  clear m1 m2 r
  go_enter Try.func70, Try.ntmps70
  go_wp2_with fail
  go_ret
  exact ⟨_, _, _, rfl, (by unfold Lie; simp; omega), HT.out, HB⟩
theorem info_b : (Try.prog.info? 4).map (fun i => (i.zero, i.size, i.bytes)) = some (some (.bool false), 1, 1) := by kernel_rfl
theorem info_sh : (Try.prog.info? 30).map (fun i => (i.zero, i.size, i.bytes)) = some (some (shV 0 0), 2, 16) := by kernel_rfl
theorem make_b300 (W : World) : (Instr.makeSlice 82 (.int .i64 300) (.int .i64 300)).run Try.prog W = .ok (.slice (some ⟨W.heap.size, 0, none⟩) 300 300) (W.alloc (.cells (madeCells #[.bool false] 300) 4)) :=
  run_make_row' (P := Try.prog) 82 4 (.bool false) 1 Try.underlying82 info_b rfl .i64 .i64 300 (by omega) (by omega) W
theorem make_sh300 (W : World) : (Instr.makeSlice 63 (.int .i64 300) (.int .i64 300)).run Try.prog W = .ok (.slice (some ⟨W.heap.size, 0, none⟩) 300 300) (W.alloc (.cells (madeCells #[.int .i64 0, .int .i64 0] 600) 30)) :=
  make_recs (P := Try.prog) 63 30 (shV 0 0) 2 16 Try.underlying63 info_sh 300 (by omega) (by omega) W
theorem made_sh (w : World) : (w.alloc (.cells (madeCells #[.int .i64 0, .int .i64 0] 600) 30)).rowIs w.heap.size 30 600 (fun _ => .int .i64 0) :=
  ⟨_, Deep.blk_alloc_new _ _, size_madeCells _ _, fun i hi => by
    rcases Nat.mod_two_eq_zero_or_one i with e | e <;> simp [madeCells, hi, e]⟩
/-- a fresh table -/
theorem Tb.fresh {M : Mm} {g k v : Nat} {w : World} (h1 : w.rowIs g 84 6 (tbC M k v false)) (h2 : w.rowIs k 4 300 (fun _ => .bool false)) (h3 : w.rowIs v 30 600 (fun _ => .int .i64 0)) : Tb M g k v false w :=
  ⟨fun _ => false, fun _ => 0, h1, h2, h3, fun _ _ _ _ _ _ _ _ hk => by cases hk⟩
theorem tb_new (M : Mm) (w : World) (k v : Nat) : (w.alloc (.cells #[.slice M.a M.n M.c, .slice M.b M.m M.d, .slice M.e M.p M.f, .slice (some ⟨k, 0, none⟩) 300 300, .slice (some ⟨v, 0, none⟩) 300 300, .bool false] 84)).rowIs w.heap.size 84 6 (tbC M k v false) :=
  World.rowIs_alloc w _ _ _ (fun j hj => by
    match j, hj with
    | 0, _ => rfl
    | 1, _ => rfl
    | 2, _ => rfl
    | 3, _ => rfl
    | 4, _ => rfl
    | 5, _ => rfl)
set_option maxHeartbeats 800000 in
theorem l18New_any (M : Mm) (w : World) : Calls Try.prog 66 #[M.V] w fun e w' => ∃ g k v, e = .returned (.pointer (some ⟨g, 0, none⟩)) ∧ Lie w.heap.size w'.heap.size g k v ∧ Tb M g k v false w' ∧ Below w.heap.size w w' := by
  have a1 := (World.rowIs_made (w.alloc (.cells #[.slice M.a M.n M.c, .slice M.b M.m M.d, .slice M.e M.p M.f] 26)) (.bool false) 300 4).alloc (.cells (madeCells #[.int .i64 0, .int .i64 0] 600) 30) |>.alloc (.cells #[.slice M.a M.n M.c, .slice M.b M.m M.d, .slice M.e M.p M.f, .slice (some ⟨w.heap.size + 1, 0, none⟩) 300 300, .slice (some ⟨w.heap.size + 1 + 1, 0, none⟩) 300 300, .bool false] 84)
  have a2 := (made_sh ((w.alloc (.cells #[.slice M.a M.n M.c, .slice M.b M.m M.d, .slice M.e M.p M.f] 26)).alloc (.cells (madeCells #[.bool false] 300) 4))).alloc (.cells #[.slice M.a M.n M.c, .slice M.b M.m M.d, .slice M.e M.p M.f, .slice (some ⟨w.heap.size + 1, 0, none⟩) 300 300, .slice (some ⟨w.heap.size + 1 + 1, 0, none⟩) 300 300, .bool false] 84)
  have a3 := tb_new M (((w.alloc (.cells #[.slice M.a M.n M.c, .slice M.b M.m M.d, .slice M.e M.p M.f] 26)).alloc (.cells (madeCells #[.bool false] 300) 4)).alloc (.cells (madeCells #[.int .i64 0, .int .i64 0] 600) 30)) (w.heap.size + 1) (w.heap.size + 1 + 1)
  have b1 := (made_sh (w.alloc (.cells #[.slice M.a M.n M.c, .slice M.b M.m M.d, .slice M.e M.p M.f] 26))).alloc (.cells (madeCells #[.bool false] 300) 4) |>.alloc (.cells #[.slice M.a M.n M.c, .slice M.b M.m M.d, .slice M.e M.p M.f, .slice (some ⟨w.heap.size + 1 + 1, 0, none⟩) 300 300, .slice (some ⟨w.heap.size + 1, 0, none⟩) 300 300, .bool false] 84)
  have b2 := (World.rowIs_made ((w.alloc (.cells #[.slice M.a M.n M.c, .slice M.b M.m M.d, .slice M.e M.p M.f] 26)).alloc (.cells (madeCells #[.int .i64 0, .int .i64 0] 600) 30)) (.bool false) 300 4).alloc (.cells #[.slice M.a M.n M.c, .slice M.b M.m M.d, .slice M.e M.p M.f, .slice (some ⟨w.heap.size + 1 + 1, 0, none⟩) 300 300, .slice (some ⟨w.heap.size + 1, 0, none⟩) 300 300, .bool false] 84)
  have b3 := tb_new M (((w.alloc (.cells #[.slice M.a M.n M.c, .slice M.b M.m M.d, .slice M.e M.p M.f] 26)).alloc (.cells (madeCells #[.int .i64 0, .int .i64 0] 600) 30)).alloc (.cells (madeCells #[.bool false] 300) 4)) (w.heap.size + 1 + 1) (w.heap.size + 1)
  simp only [World.size_alloc] at a1 a2 a3 b1 b2 b3
  have X1 := Lib.hid (Tb.fresh a3 a1 a2).drew
  have X2 := Lib.hid (Tb.fresh b3 b2 b1).drew
  have Y1 := Lib.hid (((((Below.refl w.heap.size w).alloc (Nat.le_refl _) (.cells #[.slice M.a M.n M.c, .slice M.b M.m M.d, .slice M.e M.p M.f] 26)).alloc (by simp) (.cells (madeCells #[.bool false] 300) 4)).alloc (by simp; omega) (.cells (madeCells #[.int .i64 0, .int .i64 0] 600) 30)).alloc (by simp; omega) (.cells #[.slice M.a M.n M.c, .slice M.b M.m M.d, .slice M.e M.p M.f, .slice (some ⟨w.heap.size + 1, 0, none⟩) 300 300, .slice (some ⟨w.heap.size + 1 + 1, 0, none⟩) 300 300, .bool false] 84)).drew
  have Y2 := Lib.hid (((((Below.refl w.heap.size w).alloc (Nat.le_refl _) (.cells #[.slice M.a M.n M.c, .slice M.b M.m M.d, .slice M.e M.p M.f] 26)).alloc (by simp) (.cells (madeCells #[.int .i64 0, .int .i64 0] 600) 30)).alloc (by simp; omega) (.cells (madeCells #[.bool false] 300) 4)).alloc (by simp; omega) (.cells #[.slice M.a M.n M.c, .slice M.b M.m M.d, .slice M.e M.p M.f, .slice (some ⟨w.heap.size + 1 + 1, 0, none⟩) 300 300, .slice (some ⟨w.heap.size + 1, 0, none⟩) 300 300, .bool false] 84)).drew
  clear a1 a2 a3 b1 b2 b3
  have mb := make_b300
  have ms := make_sh300
  go_enter Try.func66, Try.ntmps66
  go_wp2_with fail
  go_region
  all_goals
    go_wp2_with fail
    go_ret
    first
      | exact ⟨_, _, _, rfl, (by unfold Lie; simp; omega), X1.out, Y1.out⟩
      | exact ⟨_, _, _, rfl, (by unfold Lie; simp; omega), X2.out, Y2.out⟩
end Go.Proofs.Ytkioliioakmepaa
