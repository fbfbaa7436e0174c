/-
  l04Step of the reference.
-/
import Derived.Test.YtjfmpnkbocilpaaHwS
namespace Go.Proofs.Ytjfmpnkbocilpaa
open Go.ChangeShapes Go.WideShapes Go.ChangeAt Go.RowKit
set_option linter.unusedVariables false

def stG (P H : Int) (own oth : List Int) (die fr : Int) : Option St := if ovB own oth then none else stF P H own oth die fr
/-- what l04Step returns: a step that counts only if it is legal -/
def StPost (o : Option St) (w : World) (e : Ending) (w' : World) : Prop := (∃ s, e = .returned (.tuple #[stV s, .bool o.isSome]) ∧ ∀ t, o = some t → s = t) ∧ Below w.heap.size w w'
theorem StPost.none {o : Option St} {w w' : World} {e : Ending} (ho : o = Option.none) (he : e = .returned (.tuple #[.agg #[.int .i64 0, .int .i64 0, .int .i64 0, .bool false], .bool false])) (hb : Below w.heap.size w w') : StPost o w e w' := by
  subst ho
  exact ⟨⟨⟨0, 0, 0, false⟩, he, fun t h => by cases h⟩, hb⟩
theorem StPost.some {o : Option St} {w w' : World} {e : Ending} {t : St} (ho : o = Option.some t) (he : e = .returned (.tuple #[stV t, .bool true])) (hb : Below w.heap.size w w') : StPost o w e w' := by
  subst ho
  exact ⟨⟨t, he, fun t h => by cases h; rfl⟩, hb⟩
theorem StPost.shut {o : Option St} {w w' : World} {e : Ending} {t : St} (ho : o = Option.none) (he : e = .returned (.tuple #[stV t, .bool false])) (hb : Below w.heap.size w w') : StPost o w e w' := by
  subst ho
  exact ⟨⟨t, he, fun t h => by cases h⟩, hb⟩
theorem ks_keep {w : World} {h gb j : Nat} {t t' : TypeId} {p1 p2 p3 p4 q1 q2 y : Value} (r1 : w.rowIs h t 4 (vr4 p1 p2 p3 p4)) (r2 : w.rowIs (h + 1) t' 2 (pr q1 q2)) (hg : gb ≠ h + 1 + 1) (cy : w.cell? ⟨gb, j, none⟩ = some y) (u0 u1 u2 u3 : Value) :
    ((((w.setCell ⟨h + 1 + 1, 0, none⟩ u0).setCell ⟨h + 1 + 1, 1, none⟩ u1).setCell ⟨h + 1 + 1, 2, none⟩ u2).setCell ⟨h + 1 + 1, 3, none⟩ u3).cell? ⟨h, 0, none⟩ = some p1 ∧
    ((((w.setCell ⟨h + 1 + 1, 0, none⟩ u0).setCell ⟨h + 1 + 1, 1, none⟩ u1).setCell ⟨h + 1 + 1, 2, none⟩ u2).setCell ⟨h + 1 + 1, 3, none⟩ u3).cell? ⟨h, 1, none⟩ = some p2 ∧
    ((((w.setCell ⟨h + 1 + 1, 0, none⟩ u0).setCell ⟨h + 1 + 1, 1, none⟩ u1).setCell ⟨h + 1 + 1, 2, none⟩ u2).setCell ⟨h + 1 + 1, 3, none⟩ u3).cell? ⟨h, 2, none⟩ = some p3 ∧
    ((((w.setCell ⟨h + 1 + 1, 0, none⟩ u0).setCell ⟨h + 1 + 1, 1, none⟩ u1).setCell ⟨h + 1 + 1, 2, none⟩ u2).setCell ⟨h + 1 + 1, 3, none⟩ u3).cell? ⟨h, 3, none⟩ = some p4 ∧
    ((((w.setCell ⟨h + 1 + 1, 0, none⟩ u0).setCell ⟨h + 1 + 1, 1, none⟩ u1).setCell ⟨h + 1 + 1, 2, none⟩ u2).setCell ⟨h + 1 + 1, 3, none⟩ u3).cell? ⟨h + 1, 0, none⟩ = some q1 ∧
    ((((w.setCell ⟨h + 1 + 1, 0, none⟩ u0).setCell ⟨h + 1 + 1, 1, none⟩ u1).setCell ⟨h + 1 + 1, 2, none⟩ u2).setCell ⟨h + 1 + 1, 3, none⟩ u3).cell? ⟨h + 1, 1, none⟩ = some q2 ∧
    ((((w.setCell ⟨h + 1 + 1, 0, none⟩ u0).setCell ⟨h + 1 + 1, 1, none⟩ u1).setCell ⟨h + 1 + 1, 2, none⟩ u2).setCell ⟨h + 1 + 1, 3, none⟩ u3).cell? ⟨gb, j, none⟩ = some y := by
  obtain ⟨a1, a2, a3, a4⟩ := vr4_cells ((((r1.setOther (a := ⟨h + 1 + 1, 0, none⟩) (by show h ≠ h + 1 + 1; omega) u0).setOther (a := ⟨h + 1 + 1, 1, none⟩) (by show h ≠ h + 1 + 1; omega) u1).setOther (a := ⟨h + 1 + 1, 2, none⟩) (by show h ≠ h + 1 + 1; omega) u2).setOther (a := ⟨h + 1 + 1, 3, none⟩) (by show h ≠ h + 1 + 1; omega) u3)
  obtain ⟨b1, b2⟩ := pr_cells ((((r2.setOther (a := ⟨h + 1 + 1, 0, none⟩) (by show h + 1 ≠ h + 1 + 1; omega) u0).setOther (a := ⟨h + 1 + 1, 1, none⟩) (by show h + 1 ≠ h + 1 + 1; omega) u1).setOther (a := ⟨h + 1 + 1, 2, none⟩) (by show h + 1 ≠ h + 1 + 1; omega) u2).setOther (a := ⟨h + 1 + 1, 3, none⟩) (by show h + 1 ≠ h + 1 + 1; omega) u3)
  refine ⟨a1, a2, a3, a4, b1, b2, ?_⟩
  rw [World.cell?_setCell_far _ _ _ _ (by show h + 1 + 1 ≠ gb; omega), World.cell?_setCell_far _ _ _ _ (by show h + 1 + 1 ≠ gb; omega), World.cell?_setCell_far _ _ _ _ (by show h + 1 + 1 ≠ gb; omega), World.cell?_setCell_far _ _ _ _ (by show h + 1 + 1 ≠ gb; omega)]
  exact cy
set_option maxHeartbeats 800000 in
theorem l02Over_any (a : Option Addr) (n ca : Nat) (xs : List Int) (b : Option Addr) (m cb : Nat) (ys : List Int) (B : Nat) (w : World) (h1 : Ints w B .i64 a n xs) (h2 : Ints w B .i64 b m ys) (hB : B ≤ w.heap.size) (hn0 : 0 < n) (hm0 : 0 < m) (hn25 : n ≤ 25) (hm25 : m ≤ 25) (hX : ∀ i, i < n → 0 ≤ xs.getD i 0 ∧ xs.getD i 0 ≤ 15) (hY : ∀ i, i < m → 0 ≤ ys.getD i 0 ∧ ys.getD i 0 ≤ 15) :
    Calls Try.prog 73 #[bdV a n ca b m cb] w fun e w' => e = .returned (.bool (psum xs n == 0 || psum ys m == 0)) ∧ Below w.heap.size w w' := by
  have HB0 := (Below.refl w.heap.size w).alloc (Nat.le_refl _) (.cells #[.slice a n ca, .slice b m cb] 32)
  have k1 := Lib.hid (v_ints (o1 := (.cells #[.slice a n ca, .slice b m cb] 32)) h1 hB)
  have k2 := Lib.hid (v_ints (o1 := (.cells #[.slice a n ca, .slice b m cb] 32)) h2 hB)
  have XB := Lib.hid hX
  have YB := Lib.hid hY
  clear hX hY h1 h2
  obtain ⟨X, hX⟩ : ∃ X, psum xs n = X := ⟨_, rfl⟩
  obtain ⟨Y, hY⟩ : ∃ Y, psum ys m = Y := ⟨_, rfl⟩
  rw [hX, hY]
  have HX := Lib.hid hX
  have HY := Lib.hid hY
  clear hX hY
  cases hx0 : X == 0
  · go_enter Try.func73, Try.ntmps73
    go_wp2_with fail
    refine (l02Sum_any _ _ _ _ _ _ 15 (k1.out) XB.out (by omega) (by omega) (by omega)).mono ?_
    rintro e v ⟨rfl, rfl⟩
    rw [HX.out]
    go_wp2_with fail
    refine (l02Sum_any _ _ _ _ _ _ 15 (k2.out) YB.out (by omega) (by omega) (by omega)).mono ?_
    rintro e v ⟨rfl, rfl⟩
    rw [HY.out]
    go_wp2_with fail
    go_ret
    exact ⟨rfl, HB0⟩
  · go_enter Try.func73, Try.ntmps73
    go_wp2_with fail
    refine (l02Sum_any _ _ _ _ _ _ 15 (k1.out) XB.out (by omega) (by omega) (by omega)).mono ?_
    rintro e v ⟨rfl, rfl⟩
    rw [HX.out]
    go_wp2_with fail
    go_ret
    exact ⟨rfl, HB0⟩

set_option maxRecDepth 16000 in
set_option maxHeartbeats 1600000 in
theorem l04Step_over (P : Nat) (c H s : Int) (a : Option Addr) (n ca : Nat) (xs : List Int) (b : Option Addr) (m cb : Nat) (ys : List Int) (F : Nat) (die : Int) (B : Nat) (w : World) (h1 : Ints w B .i64 a n xs) (h2 : Ints w B .i64 b m ys) (hB : B ≤ w.heap.size) (hP0 : 1 ≤ P) (hP : P ≤ 24) (hn : n = P + 1) (hm : m = P + 1) (hF : F ≤ P) (d0 : 1 ≤ die) (d1 : die ≤ 6) (hX : ∀ i, i < n → 0 ≤ xs.getD i 0 ∧ xs.getD i 0 ≤ 15) (hY : ∀ i, i < m → 0 ≤ ys.getD i 0 ∧ ys.getD i 0 ≤ 15) (ho : ovB xs ys = true) :
    Calls Try.prog 70 #[vrV P c H s, bdV a n ca b m cb, .int .i64 F, .int .i64 die] w fun e w' => StPost (stG P H xs ys die F) w e w' := by
  obtain ⟨ga, oa, rfl, hga, hca⟩ := h1.2 (by omega)
  obtain ⟨gb, ob, rfl, hgb, hcb⟩ := h2.2 (by omega)
  have hW3 := ((((Below.refl w.heap.size w).alloc (Nat.le_refl _) (.cells #[.int .i64 P, .int .i64 c, .int .i64 H, .int .i64 s] 30)).alloc (by simp) (.cells #[.slice (some ⟨ga, oa, none⟩) n ca, .slice (some ⟨gb, ob, none⟩) m cb] 32)).alloc (by simp; omega) (.cells #[.int .i64 0, .int .i64 0, .int .i64 0, .bool false] 72))
  have R0 := (((vr4_new w (.int .i64 P) (.int .i64 c) (.int .i64 H) (.int .i64 s) 30).alloc (.cells #[.slice (some ⟨ga, oa, none⟩) n ca, .slice (some ⟨gb, ob, none⟩) m cb] 32)).alloc (.cells #[.int .i64 0, .int .i64 0, .int .i64 0, .bool false] 72))
  have R1 := (pr_new (w.alloc (.cells #[.int .i64 P, .int .i64 c, .int .i64 H, .int .i64 s] 30)) (.slice (some ⟨ga, oa, none⟩) n ca) (.slice (some ⟨gb, ob, none⟩) m cb) 32).alloc (.cells #[.int .i64 0, .int .i64 0, .int .i64 0, .bool false] 72)
  have Z0 := vr4_new ((w.alloc (.cells #[.int .i64 P, .int .i64 c, .int .i64 H, .int .i64 s] 30)).alloc (.cells #[.slice (some ⟨ga, oa, none⟩) n ca, .slice (some ⟨gb, ob, none⟩) m cb] 32)) (.int .i64 0) (.int .i64 0) (.int .i64 0) (.bool false) 72
  simp only [World.size_alloc] at R1 Z0
  obtain ⟨W0, hW0⟩ : ∃ W, ((w.alloc (.cells #[.int .i64 P, .int .i64 c, .int .i64 H, .int .i64 s] 30)).alloc (.cells #[.slice (some ⟨ga, oa, none⟩) n ca, .slice (some ⟨gb, ob, none⟩) m cb] 32)).alloc (.cells #[.int .i64 0, .int .i64 0, .int .i64 0, .bool false] 72) = W := ⟨_, rfl⟩
  have zW : w.heap.size + 2 < W0.heap.size := by rw [← hW0]; simp
  rw [hW0] at hW3 R0 R1 Z0
  have HW0 := Lib.hid hW0
  clear hW0
  have k1 := h1.below (hW3.mono hB)
  have k2 := h2.below (hW3.mono hB)
  have BW : B ≤ W0.heap.size := by omega
  have HOV := Lib.hid (l02Over_any (some ⟨ga, oa, none⟩) n ca xs (some ⟨gb, ob, none⟩) m cb ys B W0 k1 k2 BW (by omega) (by omega) (by omega) (by omega) hX hY)
  have ho : (psum xs n == 0 || psum ys m == 0) = ovB xs ys := by unfold ovB; rw [h1.len, h2.len]
  rw [ho] at HOV
  clear ho
  obtain ⟨v0, v1, v2, v3⟩ := vr4_cells R0
  obtain ⟨v4, v5⟩ := pr_cells R1
  have HN := Lib.hid hn
  have HM := Lib.hid hm
  have hnP : P < n := by omega
  have hnP2 : n ≤ P + 1 := by omega
  have hmP : P < m := by omega
  have hmP2 : m ≤ P + 1 := by omega
  clear hn hm
  have HO := Lib.hid ho
  have E := Lib.hid (show stG P H xs ys die F = none by unfold stG; rw [ho]; rfl)
  clear ho
  go_enter Try.func70, Try.ntmps70
  go_wp2_with fail
  rw [HW0.out]
  go_wp2_with fail
  refine HOV.out.mono ?_
  rw [HO.out]
  rintro e w1 ⟨rfl, hb1⟩
  have HB1 := Lib.hid (hW3.trans (hb1.mono hW3.size))
  have z1 := hb1.size
  have R0n := Lib.hid (rowIs_below R0 hb1 R0.lt)
  have R1n := Lib.hid (rowIs_below R1 hb1 R1.lt)
  have Z0n := Lib.hid (rowIs_below Z0 hb1 Z0.lt)
  have K1 := Lib.hid (k1.below (hb1.mono BW))
  have K2 := Lib.hid (k2.below (hb1.mono BW))
  have BW1 : B ≤ w1.heap.size := by omega
  have cf := (hb1.cell (p := ⟨ga, oa + F, none⟩) (by show ga < _; omega)).trans ((hW3.cell (p := ⟨ga, oa + F, none⟩) (by show ga < _; omega)).trans (hca F (by omega)))
  have cp := (hb1.cell (p := ⟨ga, oa + P, none⟩) (by show ga < _; omega)).trans ((hW3.cell (p := ⟨ga, oa + P, none⟩) (by show ga < _; omega)).trans (hca P (by omega)))
  have CY := Lib.hid (fun k (hk : k < m) => (hb1.cell (p := ⟨gb, ob + k, none⟩) (by show gb < _; omega)).trans ((hW3.cell (p := ⟨gb, ob + k, none⟩) (by show gb < _; omega)).trans (hcb k hk)))
  clear v0 v1 v2 v3 v4 v5 hb1 k1 k2 hca hcb h1 h2 hW3 R0 R1 Z0
  obtain ⟨v0, v1, v2, v3⟩ := vr4_cells R0n.out
  obtain ⟨v4, v5⟩ := pr_cells R1n.out
  obtain ⟨z0, z1', z2, z3⟩ := vr4_cells Z0n.out
  have f0 := Z0n.out.frozen 0
  have f1 := Z0n.out.frozen 1
  have f2 := Z0n.out.frozen 2
  have f3 := Z0n.out.frozen 3
  have Fn : (F : Int) < (n : Int) := by omega
  have Pn : (P : Int) < (n : Int) := by omega
  clear cf cp hF
  go_wp2_with fail
  obtain ⟨q0, q1, q2, q3⟩ := vr4_cells (v4_put Z0n.out (.int .i64 0) (.int .i64 0) (.int .i64 0) (.bool false))
  first
    | exact bodyPost_ret (v := .tuple #[.agg #[.int .i64 0, .int .i64 0, .int .i64 0, .bool false], .bool false]) (by simp [results, Try.results70, go_sem, q0, q1, q2, q3]) rfl (.none E.out rfl ((((HB1.out.setCell (by show w.heap.size ≤ w.heap.size + 1 + 1; omega) _).setCell (by show w.heap.size ≤ w.heap.size + 1 + 1; omega) _).setCell (by show w.heap.size ≤ w.heap.size + 1 + 1; omega) _).setCell (by show w.heap.size ≤ w.heap.size + 1 + 1; omega) _))
    | exact bodyPost_ret (v := .tuple #[.agg #[.int .i64 0, .int .i64 0, .int .i64 0, .bool false], .bool false]) (by simp [results, Try.results70, go_sem, z0, z1', z2, z3]) rfl (.none E.out rfl HB1.out)

set_option maxRecDepth 16000 in
set_option maxHeartbeats 1600000 in
theorem l04Step_no (P : Nat) (c H s : Int) (a : Option Addr) (n ca : Nat) (xs : List Int) (b : Option Addr) (m cb : Nat) (ys : List Int) (F : Nat) (die : Int) (B : Nat) (w : World) (h1 : Ints w B .i64 a n xs) (h2 : Ints w B .i64 b m ys) (hB : B ≤ w.heap.size) (hP0 : 1 ≤ P) (hP : P ≤ 24) (hn : n = P + 1) (hm : m = P + 1) (hF : F ≤ P) (d0 : 1 ≤ die) (d1 : die ≤ 6) (hX : ∀ i, i < n → 0 ≤ xs.getD i 0 ∧ xs.getD i 0 ≤ 15) (hY : ∀ i, i < m → 0 ≤ ys.getD i 0 ∧ ys.getD i 0 ≤ 15) (ho : ovB xs ys = false) (hq : xs.getD F 0 = 0 ∨ (0 < xs.getD P 0 ∧ F ≠ P)) :
    Calls Try.prog 70 #[vrV P c H s, bdV a n ca b m cb, .int .i64 F, .int .i64 die] w fun e w' => StPost (stG P H xs ys die F) w e w' := by
  obtain ⟨ga, oa, rfl, hga, hca⟩ := h1.2 (by omega)
  obtain ⟨gb, ob, rfl, hgb, hcb⟩ := h2.2 (by omega)
  have hW3 := ((((Below.refl w.heap.size w).alloc (Nat.le_refl _) (.cells #[.int .i64 P, .int .i64 c, .int .i64 H, .int .i64 s] 30)).alloc (by simp) (.cells #[.slice (some ⟨ga, oa, none⟩) n ca, .slice (some ⟨gb, ob, none⟩) m cb] 32)).alloc (by simp; omega) (.cells #[.int .i64 0, .int .i64 0, .int .i64 0, .bool false] 72))
  have R0 := (((vr4_new w (.int .i64 P) (.int .i64 c) (.int .i64 H) (.int .i64 s) 30).alloc (.cells #[.slice (some ⟨ga, oa, none⟩) n ca, .slice (some ⟨gb, ob, none⟩) m cb] 32)).alloc (.cells #[.int .i64 0, .int .i64 0, .int .i64 0, .bool false] 72))
  have R1 := (pr_new (w.alloc (.cells #[.int .i64 P, .int .i64 c, .int .i64 H, .int .i64 s] 30)) (.slice (some ⟨ga, oa, none⟩) n ca) (.slice (some ⟨gb, ob, none⟩) m cb) 32).alloc (.cells #[.int .i64 0, .int .i64 0, .int .i64 0, .bool false] 72)
  have Z0 := vr4_new ((w.alloc (.cells #[.int .i64 P, .int .i64 c, .int .i64 H, .int .i64 s] 30)).alloc (.cells #[.slice (some ⟨ga, oa, none⟩) n ca, .slice (some ⟨gb, ob, none⟩) m cb] 32)) (.int .i64 0) (.int .i64 0) (.int .i64 0) (.bool false) 72
  simp only [World.size_alloc] at R1 Z0
  obtain ⟨W0, hW0⟩ : ∃ W, ((w.alloc (.cells #[.int .i64 P, .int .i64 c, .int .i64 H, .int .i64 s] 30)).alloc (.cells #[.slice (some ⟨ga, oa, none⟩) n ca, .slice (some ⟨gb, ob, none⟩) m cb] 32)).alloc (.cells #[.int .i64 0, .int .i64 0, .int .i64 0, .bool false] 72) = W := ⟨_, rfl⟩
  have zW : w.heap.size + 2 < W0.heap.size := by rw [← hW0]; simp
  rw [hW0] at hW3 R0 R1 Z0
  have HW0 := Lib.hid hW0
  clear hW0
  have k1 := h1.below (hW3.mono hB)
  have k2 := h2.below (hW3.mono hB)
  have BW : B ≤ W0.heap.size := by omega
  have HOV := Lib.hid (l02Over_any (some ⟨ga, oa, none⟩) n ca xs (some ⟨gb, ob, none⟩) m cb ys B W0 k1 k2 BW (by omega) (by omega) (by omega) (by omega) hX hY)
  have ho : (psum xs n == 0 || psum ys m == 0) = ovB xs ys := by unfold ovB; rw [h1.len, h2.len]
  rw [ho] at HOV
  clear ho
  obtain ⟨v0, v1, v2, v3⟩ := vr4_cells R0
  obtain ⟨v4, v5⟩ := pr_cells R1
  have HN := Lib.hid hn
  have HM := Lib.hid hm
  have hnP : P < n := by omega
  have hnP2 : n ≤ P + 1 := by omega
  have hmP : P < m := by omega
  have hmP2 : m ≤ P + 1 := by omega
  clear hn hm
  have HO := Lib.hid ho
  have E := Lib.hid (show stG P H xs ys die F = none by unfold stG; rw [ho]; exact stF_0 (by rw [Int.toNat_natCast, Int.toNat_natCast]; exact hq.imp id (fun h => ⟨h.1, by omega⟩)))
  clear ho
  go_enter Try.func70, Try.ntmps70
  go_wp2_with fail
  rw [HW0.out]
  go_wp2_with fail
  refine HOV.out.mono ?_
  rw [HO.out]
  rintro e w1 ⟨rfl, hb1⟩
  have HB1 := Lib.hid (hW3.trans (hb1.mono hW3.size))
  have z1 := hb1.size
  have R0n := Lib.hid (rowIs_below R0 hb1 R0.lt)
  have R1n := Lib.hid (rowIs_below R1 hb1 R1.lt)
  have Z0n := Lib.hid (rowIs_below Z0 hb1 Z0.lt)
  have K1 := Lib.hid (k1.below (hb1.mono BW))
  have K2 := Lib.hid (k2.below (hb1.mono BW))
  have BW1 : B ≤ w1.heap.size := by omega
  have cf := (hb1.cell (p := ⟨ga, oa + F, none⟩) (by show ga < _; omega)).trans ((hW3.cell (p := ⟨ga, oa + F, none⟩) (by show ga < _; omega)).trans (hca F (by omega)))
  have cp := (hb1.cell (p := ⟨ga, oa + P, none⟩) (by show ga < _; omega)).trans ((hW3.cell (p := ⟨ga, oa + P, none⟩) (by show ga < _; omega)).trans (hca P (by omega)))
  have CY := Lib.hid (fun k (hk : k < m) => (hb1.cell (p := ⟨gb, ob + k, none⟩) (by show gb < _; omega)).trans ((hW3.cell (p := ⟨gb, ob + k, none⟩) (by show gb < _; omega)).trans (hcb k hk)))
  clear v0 v1 v2 v3 v4 v5 hb1 k1 k2 hca hcb h1 h2 hW3 R0 R1 Z0
  obtain ⟨v0, v1, v2, v3⟩ := vr4_cells R0n.out
  obtain ⟨v4, v5⟩ := pr_cells R1n.out
  obtain ⟨z0, z1', z2, z3⟩ := vr4_cells Z0n.out
  have f0 := Z0n.out.frozen 0
  have f1 := Z0n.out.frozen 1
  have f2 := Z0n.out.frozen 2
  have f3 := Z0n.out.frozen 3
  have Fn : (F : Int) < (n : Int) := by omega
  have Pn : (P : Int) < (n : Int) := by omega
  obtain ⟨x, hx⟩ : ∃ x, xs.getD F 0 = x := ⟨_, rfl⟩
  obtain ⟨z, hz⟩ : ∃ z, xs.getD P 0 = z := ⟨_, rfl⟩
  rw [hx] at cf hq
  rw [hz] at cp hq
  clear hx hz
  have hq2 : (x == 0) = true ∨ ((x == 0) = false ∧ decide (0 < z) = true ∧ ((F : Int) != (P : Int)) = true) := by
    by_cases h0 : x = 0
    · exact .inl (by simpa using h0)
    · rcases hq with h | ⟨h, h'⟩
      · exact absurd h h0
      · refine .inr ⟨by simpa using h0, decide_eq_true h, ?_⟩
        rw [bne, Bool.not_eq_true', beq_eq_false_iff_ne]
        omega
  clear hq hF
  rcases hq2 with g0 | ⟨g0, g1, g2⟩
  all_goals
    go_wp2_with fail
    obtain ⟨q0, q1, q2, q3⟩ := vr4_cells (v4_put Z0n.out (.int .i64 0) (.int .i64 0) (.int .i64 0) (.bool false))
    first
      | exact bodyPost_ret (v := .tuple #[.agg #[.int .i64 0, .int .i64 0, .int .i64 0, .bool false], .bool false]) (by simp [results, Try.results70, go_sem, q0, q1, q2, q3]) rfl (.none E.out rfl ((((HB1.out.setCell (by show w.heap.size ≤ w.heap.size + 1 + 1; omega) _).setCell (by show w.heap.size ≤ w.heap.size + 1 + 1; omega) _).setCell (by show w.heap.size ≤ w.heap.size + 1 + 1; omega) _).setCell (by show w.heap.size ≤ w.heap.size + 1 + 1; omega) _))
      | exact bodyPost_ret (v := .tuple #[.agg #[.int .i64 0, .int .i64 0, .int .i64 0, .bool false], .bool false]) (by simp [results, Try.results70, go_sem, z0, z1', z2, z3]) rfl (.none E.out rfl HB1.out)

set_option maxRecDepth 16000 in
set_option maxHeartbeats 3200000 in
theorem l04Step_in (P : Nat) (c H s : Int) (a : Option Addr) (n ca : Nat) (xs : List Int) (b : Option Addr) (m cb : Nat) (ys : List Int) (F : Nat) (die : Int) (B : Nat) (w : World) (h1 : Ints w B .i64 a n xs) (h2 : Ints w B .i64 b m ys) (hB : B ≤ w.heap.size) (hP0 : 1 ≤ P) (hP : P ≤ 24) (hn : n = P + 1) (hm : m = P + 1) (hF : F ≤ P) (d0 : 1 ≤ die) (d1 : die ≤ 6) (hX : ∀ i, i < n → 0 ≤ xs.getD i 0 ∧ xs.getD i 0 ≤ 15) (hY : ∀ i, i < m → 0 ≤ ys.getD i 0 ∧ ys.getD i 0 ≤ 15) (ho : ovB xs ys = false) (hq : ¬ (xs.getD F 0 = 0 ∨ (0 < xs.getD P 0 ∧ F ≠ P))) (ht : 0 ≤ (F : Int) - die) :
    Calls Try.prog 70 #[vrV P c H s, bdV a n ca b m cb, .int .i64 F, .int .i64 die] w fun e w' => StPost (stG P H xs ys die F) w e w' := by
  obtain ⟨ga, oa, rfl, hga, hca⟩ := h1.2 (by omega)
  obtain ⟨gb, ob, rfl, hgb, hcb⟩ := h2.2 (by omega)
  have hW3 := ((((Below.refl w.heap.size w).alloc (Nat.le_refl _) (.cells #[.int .i64 P, .int .i64 c, .int .i64 H, .int .i64 s] 30)).alloc (by simp) (.cells #[.slice (some ⟨ga, oa, none⟩) n ca, .slice (some ⟨gb, ob, none⟩) m cb] 32)).alloc (by simp; omega) (.cells #[.int .i64 0, .int .i64 0, .int .i64 0, .bool false] 72))
  have R0 := (((vr4_new w (.int .i64 P) (.int .i64 c) (.int .i64 H) (.int .i64 s) 30).alloc (.cells #[.slice (some ⟨ga, oa, none⟩) n ca, .slice (some ⟨gb, ob, none⟩) m cb] 32)).alloc (.cells #[.int .i64 0, .int .i64 0, .int .i64 0, .bool false] 72))
  have R1 := (pr_new (w.alloc (.cells #[.int .i64 P, .int .i64 c, .int .i64 H, .int .i64 s] 30)) (.slice (some ⟨ga, oa, none⟩) n ca) (.slice (some ⟨gb, ob, none⟩) m cb) 32).alloc (.cells #[.int .i64 0, .int .i64 0, .int .i64 0, .bool false] 72)
  have Z0 := vr4_new ((w.alloc (.cells #[.int .i64 P, .int .i64 c, .int .i64 H, .int .i64 s] 30)).alloc (.cells #[.slice (some ⟨ga, oa, none⟩) n ca, .slice (some ⟨gb, ob, none⟩) m cb] 32)) (.int .i64 0) (.int .i64 0) (.int .i64 0) (.bool false) 72
  simp only [World.size_alloc] at R1 Z0
  obtain ⟨W0, hW0⟩ : ∃ W, ((w.alloc (.cells #[.int .i64 P, .int .i64 c, .int .i64 H, .int .i64 s] 30)).alloc (.cells #[.slice (some ⟨ga, oa, none⟩) n ca, .slice (some ⟨gb, ob, none⟩) m cb] 32)).alloc (.cells #[.int .i64 0, .int .i64 0, .int .i64 0, .bool false] 72) = W := ⟨_, rfl⟩
  have zW : w.heap.size + 2 < W0.heap.size := by rw [← hW0]; simp
  rw [hW0] at hW3 R0 R1 Z0
  have HW0 := Lib.hid hW0
  clear hW0
  have k1 := h1.below (hW3.mono hB)
  have k2 := h2.below (hW3.mono hB)
  have BW : B ≤ W0.heap.size := by omega
  have HOV := Lib.hid (l02Over_any (some ⟨ga, oa, none⟩) n ca xs (some ⟨gb, ob, none⟩) m cb ys B W0 k1 k2 BW (by omega) (by omega) (by omega) (by omega) hX hY)
  have ho : (psum xs n == 0 || psum ys m == 0) = ovB xs ys := by unfold ovB; rw [h1.len, h2.len]
  rw [ho] at HOV
  clear ho
  obtain ⟨v0, v1, v2, v3⟩ := vr4_cells R0
  obtain ⟨v4, v5⟩ := pr_cells R1
  have HN := Lib.hid hn
  have HM := Lib.hid hm
  have hnP : P < n := by omega
  have hnP2 : n ≤ P + 1 := by omega
  have hmP : P < m := by omega
  have hmP2 : m ≤ P + 1 := by omega
  clear hn hm
  have hS : ¬ (xs.getD ((F : Int)).toNat 0 = 0 ∨ (0 < xs.getD ((P : Int)).toNat 0 ∧ (F : Int) ≠ P)) := by
    rw [Int.toNat_natCast, Int.toNat_natCast]
    rintro (h | ⟨h, h'⟩)
    · exact hq (.inl h)
    · exact hq (.inr ⟨h, by omega⟩)
  have HO := Lib.hid ho
  have hE : (ys.getD ((P : Int) - 1 - ((F : Int) - die)).toNat 0 ≤ 1 ∧ stG P H xs ys die F = some ⟨F, (F : Int) - die, die, decide (ys.getD ((P : Int) - 1 - ((F : Int) - die)).toNat 0 = 1)⟩) ∨ (¬ ys.getD ((P : Int) - 1 - ((F : Int) - die)).toNat 0 ≤ 1 ∧ stG P H xs ys die F = none) := by
    unfold stG
    rw [ho, if_neg (by simp)]
    by_cases hy : ys.getD ((P : Int) - 1 - ((F : Int) - die)).toNat 0 ≤ 1
    · exact .inl ⟨hy, stF_2 hS ht hy⟩
    · exact .inr ⟨hy, stF_1 hS ht hy⟩
  have htd : decide (0 ≤ (F : Int) - die) = true := decide_eq_true ht
  clear ho hS
  go_enter Try.func70, Try.ntmps70
  go_wp2_with fail
  rw [HW0.out]
  go_wp2_with fail
  refine HOV.out.mono ?_
  rw [HO.out]
  rintro e w1 ⟨rfl, hb1⟩
  have HB1 := Lib.hid (hW3.trans (hb1.mono hW3.size))
  have z1 := hb1.size
  have R0n := Lib.hid (rowIs_below R0 hb1 R0.lt)
  have R1n := Lib.hid (rowIs_below R1 hb1 R1.lt)
  have Z0n := Lib.hid (rowIs_below Z0 hb1 Z0.lt)
  have K1 := Lib.hid (k1.below (hb1.mono BW))
  have K2 := Lib.hid (k2.below (hb1.mono BW))
  have BW1 : B ≤ w1.heap.size := by omega
  have cf := (hb1.cell (p := ⟨ga, oa + F, none⟩) (by show ga < _; omega)).trans ((hW3.cell (p := ⟨ga, oa + F, none⟩) (by show ga < _; omega)).trans (hca F (by omega)))
  have cp := (hb1.cell (p := ⟨ga, oa + P, none⟩) (by show ga < _; omega)).trans ((hW3.cell (p := ⟨ga, oa + P, none⟩) (by show ga < _; omega)).trans (hca P (by omega)))
  have CY := Lib.hid (fun k (hk : k < m) => (hb1.cell (p := ⟨gb, ob + k, none⟩) (by show gb < _; omega)).trans ((hW3.cell (p := ⟨gb, ob + k, none⟩) (by show gb < _; omega)).trans (hcb k hk)))
  clear v0 v1 v2 v3 v4 v5 hb1 k1 k2 hca hcb h1 h2 hW3 R0 R1 Z0
  obtain ⟨v0, v1, v2, v3⟩ := vr4_cells R0n.out
  obtain ⟨v4, v5⟩ := pr_cells R1n.out
  obtain ⟨z0, z1', z2, z3⟩ := vr4_cells Z0n.out
  have f0 := Z0n.out.frozen 0
  have f1 := Z0n.out.frozen 1
  have f2 := Z0n.out.frozen 2
  have f3 := Z0n.out.frozen 3
  have Fn : (F : Int) < (n : Int) := by omega
  have Pn : (P : Int) < (n : Int) := by omega
  obtain ⟨x, hx⟩ : ∃ x, xs.getD F 0 = x := ⟨_, rfl⟩
  obtain ⟨z, hz⟩ : ∃ z, xs.getD P 0 = z := ⟨_, rfl⟩
  rw [hx] at cf hq
  rw [hz] at cp hq
  clear hx hz
  have g0 : (x == 0) = false := by
    have : x ≠ 0 := fun h => hq (.inl h)
    simpa using this
  have g1 : (decide (0 < z) = false) ∨ (decide (0 < z) = true ∧ ((F : Int) != (P : Int)) = false) := by
    by_cases h : 0 < z
    · refine .inr ⟨decide_eq_true h, ?_⟩
      have : F = P := Classical.byContradiction fun h' => hq (.inr ⟨h, h'⟩)
      rw [this, bne, beq_self_eq_true]; rfl
    · exact .inl (decide_eq_false h)
  clear hq
  have wt : IntKind.i64.wrap ((F : Int) - die) = (F : Int) - die := IntWalk.i64_in _ (by omega)
  have HOP := Lib.hid (fun W (q : Ints W B .i64 (some ⟨gb, ob, none⟩) m ys) (qz : B ≤ W.heap.size) => l04Open_any P c H s (some ⟨ga, oa, none⟩) n ca (some ⟨gb, ob, none⟩) m cb ys ((F : Int) - die) B W q qz hP HM.out ht (by omega))
  obtain ⟨k, hk⟩ : ∃ k : Nat, ((P : Int) - 1 - ((F : Int) - die)).toNat = k := ⟨_, rfl⟩
  have w1' : IntKind.i64.wrap ((P : Int) - 1) = (P : Int) - 1 := IntWalk.i64_in _ (by omega)
  have w2' : IntKind.i64.wrap ((P : Int) - 1 - ((F : Int) - die)) = (k : Int) := by rw [IntWalk.i64_in _ (by omega)]; omega
  have km : (k : Int) < (m : Int) := by omega
  have ck := CY.out k (by omega)
  rw [hk] at HOP hE
  clear hk
  obtain ⟨y, hyy⟩ : ∃ y, ys.getD k 0 = y := ⟨_, rfl⟩
  rw [hyy] at HOP ck hE
  clear hyy
  have HE := Lib.hid hE
  obtain ⟨o, hoD⟩ : ∃ o, decide (y ≤ 1) = o := ⟨_, rfl⟩
  rw [hoD] at HOP
  have HOD := Lib.hid hoD
  have K2d := Lib.hid (show Ints w1.drew B .i64 (some ⟨gb, ob, none⟩) m ys from K2.out)
  have BW2 : B ≤ w1.drew.heap.size := BW1
  have R0d := Lib.hid (show w1.drew.rowIs w.heap.size 30 4 (vr4 (.int .i64 P) (.int .i64 c) (.int .i64 H) (.int .i64 s)) from R0n.out)
  have R1d := Lib.hid (show w1.drew.rowIs (w.heap.size + 1) 32 2 (pr (.slice (some ⟨ga, oa, none⟩) n ca) (.slice (some ⟨gb, ob, none⟩) m cb)) from R1n.out)
  have Z0d := Lib.hid (show w1.drew.rowIs (w.heap.size + 1 + 1) 72 4 (vr4 (.int .i64 0) (.int .i64 0) (.int .i64 0) (.bool false)) from Z0n.out)
  have B1d := Lib.hid (show Below w.heap.size w w1.drew from below_drewN HB1.out 1)
  have cyd := Lib.hid (show w1.drew.cell? ⟨gb, ob + k, none⟩ = some (.int .i64 y) from ck)
  clear hE hoD hF
  rcases g1 with g1 | ⟨g1, g2⟩
  all_goals
    go_wp2_with fail
    go_region_held3 (fun w' => w'.cell? ⟨w.heap.size, 0, none⟩ = some (.int .i64 (P : Int)) ∧ w'.cell? ⟨w.heap.size, 1, none⟩ = some (.int .i64 c) ∧ w'.cell? ⟨w.heap.size, 2, none⟩ = some (.int .i64 H) ∧ w'.cell? ⟨w.heap.size, 3, none⟩ = some (.int .i64 s) ∧ w'.cell? ⟨w.heap.size + 1, 0, none⟩ = some (.slice (some ⟨ga, oa, none⟩) n ca) ∧ w'.cell? ⟨w.heap.size + 1, 1, none⟩ = some (.slice (some ⟨gb, ob, none⟩) m cb) ∧ w'.cell? ⟨gb, ob + k, none⟩ = some (.int .i64 y))
      (first | (with_reducible exact KS.out _ _ _ _) | go_keep)
      (first
        | (go_at_call 74; (with_reducible refine (HOP.out _ K2d.out BW2).mono ?_); rintro e w2 ⟨rfl, hb2⟩; have R02 := Lib.hid (rowIs_below R0d.out hb2 R0d.out.lt); have R12 := Lib.hid (rowIs_below R1d.out hb2 R1d.out.lt); have Z02 := Lib.hid (rowIs_below Z0d.out hb2 Z0d.out.lt); have HB2 := Lib.hid (B1d.out.trans (hb2.mono B1d.out.size)); have cy2 := (hb2.cell (p := ⟨gb, ob + k, none⟩) (by show gb < w1.drew.heap.size; omega)).trans cyd.out; obtain ⟨x0, x1, x2, x3⟩ := vr4_cells R02.out; obtain ⟨x4, x5⟩ := pr_cells R12.out; obtain ⟨y0, y1, y2, y3⟩ := vr4_cells Z02.out; have e0 := Z02.out.frozen 0; have e1 := Z02.out.frozen 1; have e2 := Z02.out.frozen 2; have e3 := Z02.out.frozen 3; have KS := Lib.hid (fun u0 u1 u2 u3 => ks_keep R02.out R12.out (by show gb ≠ w.heap.size + 1 + 1; omega) cy2 u0 u1 u2 u3); clear hb2))
  all_goals
    go_wp2_with fail
    obtain ⟨q0, q1, q2, q3⟩ := vr4_cells (v4_put Z02.out (.int .i64 F) (.int .i64 ((F : Int) - die)) (.int .i64 die) (.bool (y == 1)))
    refine bodyPost_ret (v := .tuple #[.agg #[.int .i64 F, .int .i64 ((F : Int) - die), .int .i64 die, .bool (y == 1)], .bool o]) (by simp [results, Try.results70, go_sem, q0, q1, q2, q3]) rfl ?_
    have hB5 := (((HB2.out.setCell (p := ⟨w.heap.size + 1 + 1, 0, none⟩) (by show w.heap.size ≤ w.heap.size + 1 + 1; omega) (.int .i64 F)).setCell (p := ⟨w.heap.size + 1 + 1, 1, none⟩) (by show w.heap.size ≤ w.heap.size + 1 + 1; omega) (.int .i64 ((F : Int) - die))).setCell (p := ⟨w.heap.size + 1 + 1, 2, none⟩) (by show w.heap.size ≤ w.heap.size + 1 + 1; omega) (.int .i64 die)).setCell (p := ⟨w.heap.size + 1 + 1, 3, none⟩) (by show w.heap.size ≤ w.heap.size + 1 + 1; omega) (.bool (y == 1))
    rcases HE.out with ⟨i1, i2⟩ | ⟨i1, i2⟩
    · exact .some i2 (by rw [← HOD.out, decide_eq_true i1]; rfl) hB5
    · exact .shut (t := ⟨F, (F : Int) - die, die, y == 1⟩) i2 (by rw [← HOD.out, decide_eq_false (show ¬ y ≤ 1 by omega)]; rfl) hB5

set_option maxRecDepth 16000 in
set_option maxHeartbeats 3200000 in
theorem l04Step_off (P : Nat) (c H s : Int) (a : Option Addr) (n ca : Nat) (xs : List Int) (b : Option Addr) (m cb : Nat) (ys : List Int) (F : Nat) (die : Int) (B : Nat) (w : World) (h1 : Ints w B .i64 a n xs) (h2 : Ints w B .i64 b m ys) (hB : B ≤ w.heap.size) (hP0 : 1 ≤ P) (hP : P ≤ 24) (hn : n = P + 1) (hm : m = P + 1) (hF : F ≤ P) (d0 : 1 ≤ die) (d1 : die ≤ 6) (hX : ∀ i, i < n → 0 ≤ xs.getD i 0 ∧ xs.getD i 0 ≤ 15) (hY : ∀ i, i < m → 0 ≤ ys.getD i 0 ∧ ys.getD i 0 ≤ 15) (ho : ovB xs ys = false) (hq : ¬ (xs.getD F 0 = 0 ∨ (0 < xs.getD P 0 ∧ F ≠ P))) (ht : ¬ 0 ≤ (F : Int) - die) :
    Calls Try.prog 70 #[vrV P c H s, bdV a n ca b m cb, .int .i64 F, .int .i64 die] w fun e w' => StPost (stG P H xs ys die F) w e w' := by
  obtain ⟨ga, oa, rfl, hga, hca⟩ := h1.2 (by omega)
  obtain ⟨gb, ob, rfl, hgb, hcb⟩ := h2.2 (by omega)
  have hW3 := ((((Below.refl w.heap.size w).alloc (Nat.le_refl _) (.cells #[.int .i64 P, .int .i64 c, .int .i64 H, .int .i64 s] 30)).alloc (by simp) (.cells #[.slice (some ⟨ga, oa, none⟩) n ca, .slice (some ⟨gb, ob, none⟩) m cb] 32)).alloc (by simp; omega) (.cells #[.int .i64 0, .int .i64 0, .int .i64 0, .bool false] 72))
  have R0 := (((vr4_new w (.int .i64 P) (.int .i64 c) (.int .i64 H) (.int .i64 s) 30).alloc (.cells #[.slice (some ⟨ga, oa, none⟩) n ca, .slice (some ⟨gb, ob, none⟩) m cb] 32)).alloc (.cells #[.int .i64 0, .int .i64 0, .int .i64 0, .bool false] 72))
  have R1 := (pr_new (w.alloc (.cells #[.int .i64 P, .int .i64 c, .int .i64 H, .int .i64 s] 30)) (.slice (some ⟨ga, oa, none⟩) n ca) (.slice (some ⟨gb, ob, none⟩) m cb) 32).alloc (.cells #[.int .i64 0, .int .i64 0, .int .i64 0, .bool false] 72)
  have Z0 := vr4_new ((w.alloc (.cells #[.int .i64 P, .int .i64 c, .int .i64 H, .int .i64 s] 30)).alloc (.cells #[.slice (some ⟨ga, oa, none⟩) n ca, .slice (some ⟨gb, ob, none⟩) m cb] 32)) (.int .i64 0) (.int .i64 0) (.int .i64 0) (.bool false) 72
  simp only [World.size_alloc] at R1 Z0
  obtain ⟨W0, hW0⟩ : ∃ W, ((w.alloc (.cells #[.int .i64 P, .int .i64 c, .int .i64 H, .int .i64 s] 30)).alloc (.cells #[.slice (some ⟨ga, oa, none⟩) n ca, .slice (some ⟨gb, ob, none⟩) m cb] 32)).alloc (.cells #[.int .i64 0, .int .i64 0, .int .i64 0, .bool false] 72) = W := ⟨_, rfl⟩
  have zW : w.heap.size + 2 < W0.heap.size := by rw [← hW0]; simp
  rw [hW0] at hW3 R0 R1 Z0
  have HW0 := Lib.hid hW0
  clear hW0
  have k1 := h1.below (hW3.mono hB)
  have k2 := h2.below (hW3.mono hB)
  have BW : B ≤ W0.heap.size := by omega
  have HOV := Lib.hid (l02Over_any (some ⟨ga, oa, none⟩) n ca xs (some ⟨gb, ob, none⟩) m cb ys B W0 k1 k2 BW (by omega) (by omega) (by omega) (by omega) hX hY)
  have ho : (psum xs n == 0 || psum ys m == 0) = ovB xs ys := by unfold ovB; rw [h1.len, h2.len]
  rw [ho] at HOV
  clear ho
  obtain ⟨v0, v1, v2, v3⟩ := vr4_cells R0
  obtain ⟨v4, v5⟩ := pr_cells R1
  have HN := Lib.hid hn
  have HM := Lib.hid hm
  have hnP : P < n := by omega
  have hnP2 : n ≤ P + 1 := by omega
  have hmP : P < m := by omega
  have hmP2 : m ≤ P + 1 := by omega
  clear hn hm
  have hS : ¬ (xs.getD ((F : Int)).toNat 0 = 0 ∨ (0 < xs.getD ((P : Int)).toNat 0 ∧ (F : Int) ≠ P)) := by
    rw [Int.toNat_natCast, Int.toNat_natCast]
    rintro (h | ⟨h, h'⟩)
    · exact hq (.inl h)
    · exact hq (.inr ⟨h, by omega⟩)
  have HO := Lib.hid ho
  have hLn : lastP xs ((P : Int).toNat + 1) = lastP xs n := by rw [Int.toNat_natCast, HN.out]
  obtain ⟨l1, l2⟩ := lastP_bd xs n
  obtain ⟨L, hL⟩ : ∃ L, lastP xs n = L := ⟨_, rfl⟩
  rw [hL] at hLn l1 l2
  have hE : ((decide (H ≤ L) = true ∨ (decide (H ≤ L) = false ∧ decide ((F : Int) - die < -1) = true ∧ decide ((F : Int) < L) = true)) ∧ stG P H xs ys die F = none) ∨ (((decide (H ≤ L) = false ∧ decide ((F : Int) - die < -1) = false) ∨ (decide (H ≤ L) = false ∧ decide ((F : Int) - die < -1) = true ∧ decide ((F : Int) < L) = false)) ∧ stG P H xs ys die F = some ⟨F, -1, die, false⟩) := by
    unfold stG
    rw [ho, if_neg (by simp)]
    by_cases i1 : H ≤ L
    · exact .inl ⟨.inl (decide_eq_true i1), stF_3 hS ht (by rw [hLn]; exact .inl i1)⟩
    · by_cases i2 : (F : Int) - die < -1
      · by_cases i3 : (F : Int) < L
        · exact .inl ⟨.inr ⟨decide_eq_false i1, decide_eq_true i2, decide_eq_true i3⟩, stF_3 hS ht (by rw [hLn]; exact .inr ⟨by omega, i3⟩)⟩
        · exact .inr ⟨.inr ⟨decide_eq_false i1, decide_eq_true i2, decide_eq_false i3⟩, stF_4 hS ht (by rw [hLn]; exact fun h => h.elim i1 (fun h => i3 h.2))⟩
      · exact .inr ⟨.inl ⟨decide_eq_false i1, decide_eq_false i2⟩, stF_4 hS ht (by rw [hLn]; exact fun h => h.elim i1 (fun h => h.1 (by omega)))⟩
  have htd : decide (0 ≤ (F : Int) - die) = false := decide_eq_false ht
  clear ho hS hLn
  go_enter Try.func70, Try.ntmps70
  go_wp2_with fail
  rw [HW0.out]
  go_wp2_with fail
  refine HOV.out.mono ?_
  rw [HO.out]
  rintro e w1 ⟨rfl, hb1⟩
  have HB1 := Lib.hid (hW3.trans (hb1.mono hW3.size))
  have z1 := hb1.size
  have R0n := Lib.hid (rowIs_below R0 hb1 R0.lt)
  have R1n := Lib.hid (rowIs_below R1 hb1 R1.lt)
  have Z0n := Lib.hid (rowIs_below Z0 hb1 Z0.lt)
  have K1 := Lib.hid (k1.below (hb1.mono BW))
  have K2 := Lib.hid (k2.below (hb1.mono BW))
  have BW1 : B ≤ w1.heap.size := by omega
  have cf := (hb1.cell (p := ⟨ga, oa + F, none⟩) (by show ga < _; omega)).trans ((hW3.cell (p := ⟨ga, oa + F, none⟩) (by show ga < _; omega)).trans (hca F (by omega)))
  have cp := (hb1.cell (p := ⟨ga, oa + P, none⟩) (by show ga < _; omega)).trans ((hW3.cell (p := ⟨ga, oa + P, none⟩) (by show ga < _; omega)).trans (hca P (by omega)))
  have CY := Lib.hid (fun k (hk : k < m) => (hb1.cell (p := ⟨gb, ob + k, none⟩) (by show gb < _; omega)).trans ((hW3.cell (p := ⟨gb, ob + k, none⟩) (by show gb < _; omega)).trans (hcb k hk)))
  clear v0 v1 v2 v3 v4 v5 hb1 k1 k2 hca hcb h1 h2 hW3 R0 R1 Z0
  obtain ⟨v0, v1, v2, v3⟩ := vr4_cells R0n.out
  obtain ⟨v4, v5⟩ := pr_cells R1n.out
  obtain ⟨z0, z1', z2, z3⟩ := vr4_cells Z0n.out
  have f0 := Z0n.out.frozen 0
  have f1 := Z0n.out.frozen 1
  have f2 := Z0n.out.frozen 2
  have f3 := Z0n.out.frozen 3
  have Fn : (F : Int) < (n : Int) := by omega
  have Pn : (P : Int) < (n : Int) := by omega
  obtain ⟨x, hx⟩ : ∃ x, xs.getD F 0 = x := ⟨_, rfl⟩
  obtain ⟨z, hz⟩ : ∃ z, xs.getD P 0 = z := ⟨_, rfl⟩
  rw [hx] at cf hq
  rw [hz] at cp hq
  clear hx hz
  have g0 : (x == 0) = false := by
    have : x ≠ 0 := fun h => hq (.inl h)
    simpa using this
  have g1 : (decide (0 < z) = false) ∨ (decide (0 < z) = true ∧ ((F : Int) != (P : Int)) = false) := by
    by_cases h : 0 < z
    · refine .inr ⟨decide_eq_true h, ?_⟩
      have : F = P := Classical.byContradiction fun h' => hq (.inr ⟨h, h'⟩)
      rw [this, bne, beq_self_eq_true]; rfl
    · exact .inl (decide_eq_false h)
  clear hq
  have wt : IntKind.i64.wrap ((F : Int) - die) = (F : Int) - die := IntWalk.i64_in _ (by omega)
  have HL := Lib.hid (l02Last_any (some ⟨ga, oa, none⟩) n ca xs B w1 K1.out (by omega) (by omega))
  rw [hL] at HL
  clear hL hF
  rcases g1 with g1 | ⟨g1, g2⟩
  all_goals
    rcases hE with ⟨i, hE⟩ | ⟨i, hE⟩
    · have E := Lib.hid hE
      clear hE
      rcases i with i | ⟨i, i2, i3⟩
      all_goals
        go_wp2_with fail
        refine HL.out.mono ?_
        rintro e w2 ⟨rfl, rfl⟩
        go_wp2_with fail
        obtain ⟨q0, q1, q2, q3⟩ := vr4_cells (v4_put Z0n.out (.int .i64 0) (.int .i64 0) (.int .i64 0) (.bool false))
        first
          | exact bodyPost_ret (v := .tuple #[.agg #[.int .i64 0, .int .i64 0, .int .i64 0, .bool false], .bool false]) (by simp [results, Try.results70, go_sem, q0, q1, q2, q3]) rfl (.none E.out rfl ((((HB1.out.setCell (by show w.heap.size ≤ w.heap.size + 1 + 1; omega) _).setCell (by show w.heap.size ≤ w.heap.size + 1 + 1; omega) _).setCell (by show w.heap.size ≤ w.heap.size + 1 + 1; omega) _).setCell (by show w.heap.size ≤ w.heap.size + 1 + 1; omega) _))
          | exact bodyPost_ret (v := .tuple #[.agg #[.int .i64 0, .int .i64 0, .int .i64 0, .bool false], .bool false]) (by simp [results, Try.results70, go_sem, z0, z1', z2, z3]) rfl (.none E.out rfl HB1.out)
    · have E := Lib.hid hE
      clear hE
      rcases i with ⟨i, i2⟩ | ⟨i, i2, i3⟩
      all_goals
        go_wp2_with fail
        refine HL.out.mono ?_
        rintro e w2 ⟨rfl, rfl⟩
        go_wp2_with fail
        obtain ⟨q0, q1, q2, q3⟩ := vr4_cells (v4_put Z0n.out (.int .i64 F) (.int .i64 (-1)) (.int .i64 die) (.bool false))
        exact bodyPost_ret (v := .tuple #[.agg #[.int .i64 F, .int .i64 (-1), .int .i64 die, .bool false], .bool true]) (by simp [results, Try.results70, go_sem, q0, q1, q2, q3]) rfl (.some E.out rfl ((((HB1.out.setCell (by show w.heap.size ≤ w.heap.size + 1 + 1; omega) _).setCell (by show w.heap.size ≤ w.heap.size + 1 + 1; omega) _).setCell (by show w.heap.size ≤ w.heap.size + 1 + 1; omega) _).setCell (by show w.heap.size ≤ w.heap.size + 1 + 1; omega) _))
theorem l04Step_any (P : Nat) (c H s : Int) (a : Option Addr) (n ca : Nat) (xs : List Int) (b : Option Addr) (m cb : Nat) (ys : List Int) (F : Nat) (die : Int) (B : Nat) (w : World) (h1 : Ints w B .i64 a n xs) (h2 : Ints w B .i64 b m ys) (hB : B ≤ w.heap.size) (hP0 : 1 ≤ P) (hP : P ≤ 24) (hn : n = P + 1) (hm : m = P + 1) (hF : F ≤ P) (d0 : 1 ≤ die) (d1 : die ≤ 6) (hX : ∀ i, i < n → 0 ≤ xs.getD i 0 ∧ xs.getD i 0 ≤ 15) (hY : ∀ i, i < m → 0 ≤ ys.getD i 0 ∧ ys.getD i 0 ≤ 15) :
    Calls Try.prog 70 #[vrV P c H s, bdV a n ca b m cb, .int .i64 F, .int .i64 die] w fun e w' => StPost (stG P H xs ys die F) w e w' := by
  cases ho : ovB xs ys
  · by_cases hq : xs.getD F 0 = 0 ∨ (0 < xs.getD P 0 ∧ F ≠ P)
    · exact l04Step_no P c H s a n ca xs b m cb ys F die B w h1 h2 hB hP0 hP hn hm hF d0 d1 hX hY ho hq
    · by_cases ht : 0 ≤ (F : Int) - die
      · exact l04Step_in P c H s a n ca xs b m cb ys F die B w h1 h2 hB hP0 hP hn hm hF d0 d1 hX hY ho hq ht
      · exact l04Step_off P c H s a n ca xs b m cb ys F die B w h1 h2 hB hP0 hP hn hm hF d0 d1 hX hY ho hq ht
  · exact l04Step_over P c H s a n ca xs b m cb ys F die B w h1 h2 hB hP0 hP hn hm hF d0 d1 hX hY ho
end Go.Proofs.Ytjfmpnkbocilpaa
