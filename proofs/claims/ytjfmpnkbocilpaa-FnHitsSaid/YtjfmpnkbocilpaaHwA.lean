/-
  afterStep of the program: the board behind a legal step, in memory of its own.
-/
import Derived.Test.YtjfmpnkbocilpaaHwC
import Derived.Test.YtjfmpnkbocilpaaHwS
namespace Go.Proofs.Ytjfmpnkbocilpaa
open Go.ChangeShapes Go.WideShapes Go.ChangeAt Go.RowKit
set_option linter.unusedVariables false

/-- the blocks of a call that makes a board: variant, step, result, the copy -/
structure AfB (w : World) (h q : Nat) (lo gA gB n m : Nat) (p1 p2 p3 p4 s1 s2 s3 s4 : Value) (xs ys : List Int) : Prop where
  rv : w.rowIs h 30 4 (vr4 p1 p2 p3 p4)
  rs : w.rowIs (h + 1 + 1) 72 4 (vr4 s1 s2 s3 s4)
  rr : w.rowIs (h + 1 + 1 + 1) 32 2 (pr (.slice none 0 0) (.slice none 0 0))
  bd : Bd2 w lo gA gB n m xs ys
  lo : h + 1 + 1 + 1 < lo
  sz : w.heap.size = q
/-- the same with the copy's box -/
structure AfW (w : World) (h q : Nat) (lo gA c' gB d' n m : Nat) (p1 p2 p3 p4 s1 s2 s3 s4 : Value) (xs ys : List Int) : Prop where
  rv : w.rowIs h 30 4 (vr4 p1 p2 p3 p4)
  rs : w.rowIs (h + 1 + 1) 72 4 (vr4 s1 s2 s3 s4)
  rr : w.rowIs (h + 1 + 1 + 1) 32 2 (pr (.slice none 0 0) (.slice none 0 0))
  rq : w.rowIs q 32 2 (pr (.slice (some ⟨gA, 0, none⟩) n c') (.slice (some ⟨gB, 0, none⟩) m d'))
  bd : Bd2 w lo gA gB n m xs ys
theorem rowIs_ne {w : World} {b t n g : Nat} {f : Nat → Value} (h : w.rowIs b t n f) (hne : b ≠ g) (i : Nat) (u : Value) : (w.setCell ⟨g, i, none⟩ u).rowIs b t n f := h.setOther (a := ⟨g, i, none⟩) hne u
theorem rown_al {w : World} {lo hi m : Nat} {t : TypeId} {a : Option Addr} {f : Nat → Value} (h : RowN w lo hi t a m f) (o : Obj) : RowN (w.alloc o) lo hi t a m f := h.below ((Below.refl _ _).alloc (Nat.le_refl _) o)
theorem Bd2.al {w : World} {lo gA gB n m : Nat} {xs ys : List Int} (h : Bd2 w lo gA gB n m xs ys) (o : Obj) : Bd2 (w.alloc o) lo gA gB n m xs ys := ⟨rown_al h.a o, rown_al h.b o, h.ga, h.gb, h.ne⟩
theorem Bd2.ne' {w : World} {lo gA gB n m g : Nat} {xs ys : List Int} (h : Bd2 w lo gA gB n m xs ys) (hg : g < lo) (i : Nat) (u : Value) : Bd2 (w.setCell ⟨g, i, none⟩ u) lo gA gB n m xs ys := by
  have a := h.ga; have b := h.gb
  exact ⟨rown_ne h.a (by omega) u, rown_ne h.b (by omega) u, a, b, h.ne⟩
theorem Bd2.lower {w : World} {lo lo' gA gB n m : Nat} {xs ys : List Int} (h : Bd2 w lo gA gB n m xs ys) (hl : lo' ≤ lo) : Bd2 w lo' gA gB n m xs ys := ⟨h.a, h.b, Nat.le_trans hl h.ga, Nat.le_trans hl h.gb, h.ne⟩
section
variable {w : World} {h q lo gA gB n m : Nat} {p1 p2 p3 p4 s1 s2 s3 s4 : Value} {xs ys : List Int}
theorem AfB.setA (X : AfB w h q lo gA gB n m p1 p2 p3 p4 s1 s2 s3 s4 xs ys) {i : Nat} (hi : i < n) (hl : xs.length = n) (u : Int) : AfB (w.setCell ⟨gA, i, none⟩ (.int .i64 u)) h q lo gA gB n m p1 p2 p3 p4 s1 s2 s3 s4 (xs.set i u) ys := by
  have a := X.bd.ga; have b := X.bd.gb; have c := X.bd.ne; have d := X.lo
  exact ⟨rowIs_ne X.rv (by omega) _ _, rowIs_ne X.rs (by omega) _ _, rowIs_ne X.rr (by omega) _ _, ⟨(X.bd.a.set hi _).congr fun j hj => icell_set u hl hi j, rown_ne X.bd.b (by omega) _, a, b, c⟩, d, by rw [World.size_setCell]; exact X.sz⟩
theorem AfB.setB (X : AfB w h q lo gA gB n m p1 p2 p3 p4 s1 s2 s3 s4 xs ys) {i : Nat} (hi : i < m) (hl : ys.length = m) (u : Int) : AfB (w.setCell ⟨gB, i, none⟩ (.int .i64 u)) h q lo gA gB n m p1 p2 p3 p4 s1 s2 s3 s4 xs (ys.set i u) := by
  have a := X.bd.ga; have b := X.bd.gb; have c := X.bd.ne; have d := X.lo
  exact ⟨rowIs_ne X.rv (by omega) _ _, rowIs_ne X.rs (by omega) _ _, rowIs_ne X.rr (by omega) _ _, ⟨rown_ne X.bd.a (by omega) _, (X.bd.b.set hi _).congr fun j hj => icell_set u hl hi j, a, b, c⟩, d, by rw [World.size_setCell]; exact X.sz⟩
theorem AfB.full (X : AfB w h q lo gA gB n m p1 p2 p3 p4 s1 s2 s3 s4 xs ys) (c' d' : Nat) : AfW (w.alloc (.cells #[.slice (some ⟨gA, 0, none⟩) n c', .slice (some ⟨gB, 0, none⟩) m d'] 32)) h q lo gA c' gB d' n m p1 p2 p3 p4 s1 s2 s3 s4 xs ys := by
  have e := X.sz
  exact ⟨X.rv.alloc _, X.rs.alloc _, X.rr.alloc _, by rw [← e]; exact pr_new w _ _ _, X.bd.al _⟩
end

set_option maxRecDepth 16000 in
set_option maxHeartbeats 1600000 in
theorem afterStep_1 (P : Nat) (c H s : Int) (a : Option Addr) (n ca : Nat) (xs : List Int) (b : Option Addr) (m cb : Nat) (ys : List Int) (F : Nat) (die : Int) (w : World) (h1 : Ints w w.heap.size .i64 a n xs) (h2 : Ints w w.heap.size .i64 b m ys) (hP0 : 1 ≤ P) (hP : P ≤ 24) (hn : n = P + 1) (hm : m = P + 1) (hF : F < n) (bx : 1 ≤ xs.getD F 0 ∧ xs.getD F 0 ≤ 15) :
    Calls Try.prog 71 #[vrV P c H s, bdV a n ca b m cb, .agg #[.int .i64 F, .int .i64 (-1), .int .i64 die, .bool false]] w fun e w' => BdPost n (xs.set F (xs.getD F 0 - 1)) m ys w e w' := by
  have hb0 := ((((Below.refl w.heap.size w).alloc (Nat.le_refl _) (.cells #[.int .i64 P, .int .i64 c, .int .i64 H, .int .i64 s] 30)).alloc (by simp) (.cells #[.slice a n ca, .slice b m cb] 32)).alloc (by simp; omega) (.cells #[.int .i64 F, .int .i64 (-1), .int .i64 die, .bool false] 72)).alloc (by simp; omega) (.cells #[.slice none 0 0, .slice none 0 0] 32)
  have V0 := (((vr4_new w (.int .i64 P) (.int .i64 c) (.int .i64 H) (.int .i64 s) 30).alloc (.cells #[.slice a n ca, .slice b m cb] 32)).alloc (.cells #[.int .i64 F, .int .i64 (-1), .int .i64 die, .bool false] 72)).alloc (.cells #[.slice none 0 0, .slice none 0 0] 32)
  have D0 := ((pr_new (w.alloc (.cells #[.int .i64 P, .int .i64 c, .int .i64 H, .int .i64 s] 30)) (.slice a n ca) (.slice b m cb) 32).alloc (.cells #[.int .i64 F, .int .i64 (-1), .int .i64 die, .bool false] 72)).alloc (.cells #[.slice none 0 0, .slice none 0 0] 32)
  have S0 := (vr4_new ((w.alloc (.cells #[.int .i64 P, .int .i64 c, .int .i64 H, .int .i64 s] 30)).alloc (.cells #[.slice a n ca, .slice b m cb] 32)) (.int .i64 F) (.int .i64 (-1)) (.int .i64 die) (.bool false) 72).alloc (.cells #[.slice none 0 0, .slice none 0 0] 32)
  have R0 := pr_new (((w.alloc (.cells #[.int .i64 P, .int .i64 c, .int .i64 H, .int .i64 s] 30)).alloc (.cells #[.slice a n ca, .slice b m cb] 32)).alloc (.cells #[.int .i64 F, .int .i64 (-1), .int .i64 die, .bool false] 72)) (.slice none 0 0) (.slice none 0 0) 32
  simp only [World.size_alloc] at D0 S0 R0
  obtain ⟨W0, hW0⟩ : ∃ W, ((((w.alloc (.cells #[.int .i64 P, .int .i64 c, .int .i64 H, .int .i64 s] 30)).alloc (.cells #[.slice a n ca, .slice b m cb] 32)).alloc (.cells #[.int .i64 F, .int .i64 (-1), .int .i64 die, .bool false] 72)).alloc (.cells #[.slice none 0 0, .slice none 0 0] 32)) = W := ⟨_, rfl⟩
  have zW : w.heap.size + 3 < W0.heap.size := by rw [← hW0]; simp
  rw [hW0] at hb0 V0 D0 S0 R0
  have HW0 := Lib.hid hW0
  clear hW0
  have I1 := (h1.below hb0).more hb0.size
  have I2 := (h2.below hb0).more hb0.size
  have HCL := Lib.hid (cloneBoard_any a n ca xs b m cb ys W0 I1 I2 (by omega) (by omega) (by omega) (by omega))
  have HL1 := Lib.hid h1.len
  have HL2 := Lib.hid h2.len
  obtain ⟨v4, v5⟩ := pr_cells D0
  have HN := Lib.hid hn
  have HM := Lib.hid hm
  have hnP : P < n := by omega
  have hnP2 : n ≤ P + 1 := by omega
  have hmP : P < m := by omega
  have hmP2 : m ≤ P + 1 := by omega
  clear h1 h2 I1 I2 hn hm
  go_enter Try.func71, Try.ntmps71
  go_wp2_with fail
  rw [HW0.out]
  go_wp2_with fail
  refine HCL.out.mono ?_
  rintro e w1 ⟨gA, c', gB, d', rfl, hbd, hb1⟩
  have Y0 := Lib.hid (show AfB w1 w.heap.size w1.heap.size W0.heap.size gA gB n m (.int .i64 P) (.int .i64 c) (.int .i64 H) (.int .i64 s) (.int .i64 F) (.int .i64 (-1)) (.int .i64 die) (.bool false) xs ys from
    ⟨rowIs_below V0 hb1 V0.lt, rowIs_below S0 hb1 S0.lt, rowIs_below R0 hb1 R0.lt, hbd, by omega, rfl⟩)
  have X0 := Lib.hid (Y0.out.full c' d')
  have HB := Lib.hid (hb0.trans (hb1.mono hb0.size))
  have nA := X0.out.bd.ga
  have nB := X0.out.bd.gb
  have nAB := X0.out.bd.ne
  have qA : gA < w1.heap.size := rown_lt hbd.a (by omega)
  have qB : gB < w1.heap.size := rown_lt hbd.b (by omega)
  have a1 : gA ≠ w.heap.size := by omega
  have a2 : gA ≠ w.heap.size + 1 + 1 := by omega
  have a3 : gA ≠ w.heap.size + 1 + 1 + 1 := by omega
  have a4 : gA ≠ w1.heap.size := by omega
  have b1 : gB ≠ w.heap.size := by omega
  have b2 : gB ≠ w.heap.size + 1 + 1 := by omega
  have b3 : gB ≠ w.heap.size + 1 + 1 + 1 := by omega
  have b4 : gB ≠ w1.heap.size := by omega
  have Fn : (F : Int) < (n : Int) := by omega
  clear hbd hb1 hb0 V0 S0 R0 D0 v4 v5
  obtain ⟨x, hx⟩ : ∃ x, xs.getD F 0 = x := ⟨_, rfl⟩
  rw [hx] at bx
  have Y1 := Lib.hid (Y0.out.setA (i := F) hF HL1.out (x - 1))
  have X1 := Lib.hid (Y1.out.full c' d')
  obtain ⟨cx, fx⟩ := row_cells X0.out.bd.a hF
  rw [icell_eq, hx] at cx
  have wx : IntKind.i64.wrap (x - 1) = x - 1 := IntWalk.i64_in _ (by omega)
  have EX := Lib.hid hx
  clear hx
  obtain ⟨v00, v01, v02, v03⟩ := vr4_cells X0.out.rv
  obtain ⟨s00, s01, s02, s03⟩ := vr4_cells X0.out.rs
  obtain ⟨q00, q01⟩ := pr_cells X0.out.rq
  obtain ⟨t00, t01⟩ := pr_cells X0.out.rr
  have r00 := X0.out.rr.frozen 0
  have r01 := X0.out.rr.frozen 1
  obtain ⟨v10, v11, v12, v13⟩ := vr4_cells X1.out.rv
  obtain ⟨s10, s11, s12, s13⟩ := vr4_cells X1.out.rs
  obtain ⟨q10, q11⟩ := pr_cells X1.out.rq
  obtain ⟨t10, t11⟩ := pr_cells X1.out.rr
  have r10 := X1.out.rr.frozen 0
  have r11 := X1.out.rr.frozen 1
  have HB4 := (HB.out.setCell (p := ⟨gA, F, none⟩) (by show w.heap.size ≤ gA; omega) (.int .i64 (x - 1)))
  have HB5 := Lib.hid (((HB4.alloc HB4.size (.cells #[.slice (some ⟨gA, 0, none⟩) n c', .slice (some ⟨gB, 0, none⟩) m d'] 32)).setCell (p := ⟨w.heap.size + 1 + 1 + 1, 0, none⟩) (by show w.heap.size ≤ w.heap.size + 1 + 1 + 1; omega) (.slice (some ⟨gA, 0, none⟩) n c')).setCell (p := ⟨w.heap.size + 1 + 1 + 1, 1, none⟩) (by show w.heap.size ≤ w.heap.size + 1 + 1 + 1; omega) (.slice (some ⟨gB, 0, none⟩) m d'))
  clear HB4
  go_wp2_with fail
  obtain ⟨p0, p1⟩ := pr_cells (pr_set X1.out.rr (.slice (some ⟨gA, 0, none⟩) n c') (.slice (some ⟨gB, 0, none⟩) m d'))
  refine bodyPost_ret (v := bdV (some ⟨gA, 0, none⟩) n c' (some ⟨gB, 0, none⟩) m d') (by simp [results, Try.results71, go_sem, p0, p1]) rfl ⟨gA, c', gB, d', rfl, ?_, ?_⟩
  · rw [EX.out]; exact ((X1.out.bd.ne' (by omega) _ _).ne' (by omega) _ _).lower (by omega)
  · exact HB5.out

set_option maxRecDepth 16000 in
set_option maxHeartbeats 1600000 in
theorem afterStep_2 (P : Nat) (c H s : Int) (a : Option Addr) (n ca : Nat) (xs : List Int) (b : Option Addr) (m cb : Nat) (ys : List Int) (F T : Nat) (die : Int) (w : World) (h1 : Ints w w.heap.size .i64 a n xs) (h2 : Ints w w.heap.size .i64 b m ys) (hP0 : 1 ≤ P) (hP : P ≤ 24) (hn : n = P + 1) (hm : m = P + 1) (hF : F < n) (bx : 1 ≤ xs.getD F 0 ∧ xs.getD F 0 ≤ 15) (hT : T < n) (by' : 0 ≤ (xs.set F (xs.getD F 0 - 1)).getD T 0 ∧ (xs.set F (xs.getD F 0 - 1)).getD T 0 ≤ 15) :
    Calls Try.prog 71 #[vrV P c H s, bdV a n ca b m cb, .agg #[.int .i64 F, .int .i64 T, .int .i64 die, .bool false]] w fun e w' => BdPost n ((xs.set F (xs.getD F 0 - 1)).set T ((xs.set F (xs.getD F 0 - 1)).getD T 0 + 1)) m ys w e w' := by
  have hb0 := ((((Below.refl w.heap.size w).alloc (Nat.le_refl _) (.cells #[.int .i64 P, .int .i64 c, .int .i64 H, .int .i64 s] 30)).alloc (by simp) (.cells #[.slice a n ca, .slice b m cb] 32)).alloc (by simp; omega) (.cells #[.int .i64 F, .int .i64 T, .int .i64 die, .bool false] 72)).alloc (by simp; omega) (.cells #[.slice none 0 0, .slice none 0 0] 32)
  have V0 := (((vr4_new w (.int .i64 P) (.int .i64 c) (.int .i64 H) (.int .i64 s) 30).alloc (.cells #[.slice a n ca, .slice b m cb] 32)).alloc (.cells #[.int .i64 F, .int .i64 T, .int .i64 die, .bool false] 72)).alloc (.cells #[.slice none 0 0, .slice none 0 0] 32)
  have D0 := ((pr_new (w.alloc (.cells #[.int .i64 P, .int .i64 c, .int .i64 H, .int .i64 s] 30)) (.slice a n ca) (.slice b m cb) 32).alloc (.cells #[.int .i64 F, .int .i64 T, .int .i64 die, .bool false] 72)).alloc (.cells #[.slice none 0 0, .slice none 0 0] 32)
  have S0 := (vr4_new ((w.alloc (.cells #[.int .i64 P, .int .i64 c, .int .i64 H, .int .i64 s] 30)).alloc (.cells #[.slice a n ca, .slice b m cb] 32)) (.int .i64 F) (.int .i64 T) (.int .i64 die) (.bool false) 72).alloc (.cells #[.slice none 0 0, .slice none 0 0] 32)
  have R0 := pr_new (((w.alloc (.cells #[.int .i64 P, .int .i64 c, .int .i64 H, .int .i64 s] 30)).alloc (.cells #[.slice a n ca, .slice b m cb] 32)).alloc (.cells #[.int .i64 F, .int .i64 T, .int .i64 die, .bool false] 72)) (.slice none 0 0) (.slice none 0 0) 32
  simp only [World.size_alloc] at D0 S0 R0
  obtain ⟨W0, hW0⟩ : ∃ W, ((((w.alloc (.cells #[.int .i64 P, .int .i64 c, .int .i64 H, .int .i64 s] 30)).alloc (.cells #[.slice a n ca, .slice b m cb] 32)).alloc (.cells #[.int .i64 F, .int .i64 T, .int .i64 die, .bool false] 72)).alloc (.cells #[.slice none 0 0, .slice none 0 0] 32)) = W := ⟨_, rfl⟩
  have zW : w.heap.size + 3 < W0.heap.size := by rw [← hW0]; simp
  rw [hW0] at hb0 V0 D0 S0 R0
  have HW0 := Lib.hid hW0
  clear hW0
  have I1 := (h1.below hb0).more hb0.size
  have I2 := (h2.below hb0).more hb0.size
  have HCL := Lib.hid (cloneBoard_any a n ca xs b m cb ys W0 I1 I2 (by omega) (by omega) (by omega) (by omega))
  have HL1 := Lib.hid h1.len
  have HL2 := Lib.hid h2.len
  obtain ⟨v4, v5⟩ := pr_cells D0
  have HN := Lib.hid hn
  have HM := Lib.hid hm
  have hnP : P < n := by omega
  have hnP2 : n ≤ P + 1 := by omega
  have hmP : P < m := by omega
  have hmP2 : m ≤ P + 1 := by omega
  clear h1 h2 I1 I2 hn hm
  go_enter Try.func71, Try.ntmps71
  go_wp2_with fail
  rw [HW0.out]
  go_wp2_with fail
  refine HCL.out.mono ?_
  rintro e w1 ⟨gA, c', gB, d', rfl, hbd, hb1⟩
  have Y0 := Lib.hid (show AfB w1 w.heap.size w1.heap.size W0.heap.size gA gB n m (.int .i64 P) (.int .i64 c) (.int .i64 H) (.int .i64 s) (.int .i64 F) (.int .i64 T) (.int .i64 die) (.bool false) xs ys from
    ⟨rowIs_below V0 hb1 V0.lt, rowIs_below S0 hb1 S0.lt, rowIs_below R0 hb1 R0.lt, hbd, by omega, rfl⟩)
  have X0 := Lib.hid (Y0.out.full c' d')
  have HB := Lib.hid (hb0.trans (hb1.mono hb0.size))
  have nA := X0.out.bd.ga
  have nB := X0.out.bd.gb
  have nAB := X0.out.bd.ne
  have qA : gA < w1.heap.size := rown_lt hbd.a (by omega)
  have qB : gB < w1.heap.size := rown_lt hbd.b (by omega)
  have a1 : gA ≠ w.heap.size := by omega
  have a2 : gA ≠ w.heap.size + 1 + 1 := by omega
  have a3 : gA ≠ w.heap.size + 1 + 1 + 1 := by omega
  have a4 : gA ≠ w1.heap.size := by omega
  have b1 : gB ≠ w.heap.size := by omega
  have b2 : gB ≠ w.heap.size + 1 + 1 := by omega
  have b3 : gB ≠ w.heap.size + 1 + 1 + 1 := by omega
  have b4 : gB ≠ w1.heap.size := by omega
  have Fn : (F : Int) < (n : Int) := by omega
  clear hbd hb1 hb0 V0 S0 R0 D0 v4 v5
  obtain ⟨x, hx⟩ : ∃ x, xs.getD F 0 = x := ⟨_, rfl⟩
  rw [hx] at bx by'
  have Y1 := Lib.hid (Y0.out.setA (i := F) hF HL1.out (x - 1))
  have X1 := Lib.hid (Y1.out.full c' d')
  obtain ⟨cx, fx⟩ := row_cells X0.out.bd.a hF
  rw [icell_eq, hx] at cx
  have wx : IntKind.i64.wrap (x - 1) = x - 1 := IntWalk.i64_in _ (by omega)
  have EX := Lib.hid hx
  clear hx
  obtain ⟨xs1, hxs1⟩ : ∃ l, xs.set F (x - 1) = l := ⟨_, rfl⟩
  have L1 : xs1.length = n := by rw [← hxs1, List.length_set]; exact HL1.out
  rw [hxs1] at X1 Y1 by'
  have EXS := Lib.hid hxs1
  clear hxs1
  obtain ⟨y, hy⟩ : ∃ y, xs1.getD T 0 = y := ⟨_, rfl⟩
  rw [hy] at by'
  have Y2 := Lib.hid (Y1.out.setA (i := T) hT L1 (y + 1))
  have X2 := Lib.hid (Y2.out.full c' d')
  obtain ⟨cy, fy⟩ := row_cells X1.out.bd.a hT
  rw [icell_eq, hy] at cy
  have wy : IntKind.i64.wrap (y + 1) = y + 1 := IntWalk.i64_in _ (by omega)
  have Tn : (T : Int) < (n : Int) := by omega
  have L1h := Lib.hid L1
  have EY := Lib.hid hy
  clear hy L1
  obtain ⟨v00, v01, v02, v03⟩ := vr4_cells X0.out.rv
  obtain ⟨s00, s01, s02, s03⟩ := vr4_cells X0.out.rs
  obtain ⟨q00, q01⟩ := pr_cells X0.out.rq
  obtain ⟨t00, t01⟩ := pr_cells X0.out.rr
  have r00 := X0.out.rr.frozen 0
  have r01 := X0.out.rr.frozen 1
  obtain ⟨v10, v11, v12, v13⟩ := vr4_cells X1.out.rv
  obtain ⟨s10, s11, s12, s13⟩ := vr4_cells X1.out.rs
  obtain ⟨q10, q11⟩ := pr_cells X1.out.rq
  obtain ⟨t10, t11⟩ := pr_cells X1.out.rr
  have r10 := X1.out.rr.frozen 0
  have r11 := X1.out.rr.frozen 1
  obtain ⟨v20, v21, v22, v23⟩ := vr4_cells X2.out.rv
  obtain ⟨s20, s21, s22, s23⟩ := vr4_cells X2.out.rs
  obtain ⟨q20, q21⟩ := pr_cells X2.out.rq
  obtain ⟨t20, t21⟩ := pr_cells X2.out.rr
  have r20 := X2.out.rr.frozen 0
  have r21 := X2.out.rr.frozen 1
  have HB4 := ((HB.out.setCell (p := ⟨gA, F, none⟩) (by show w.heap.size ≤ gA; omega) (.int .i64 (x - 1))).setCell (p := ⟨gA, T, none⟩) (by show w.heap.size ≤ gA; omega) (.int .i64 (y + 1)))
  have HB5 := Lib.hid (((HB4.alloc HB4.size (.cells #[.slice (some ⟨gA, 0, none⟩) n c', .slice (some ⟨gB, 0, none⟩) m d'] 32)).setCell (p := ⟨w.heap.size + 1 + 1 + 1, 0, none⟩) (by show w.heap.size ≤ w.heap.size + 1 + 1 + 1; omega) (.slice (some ⟨gA, 0, none⟩) n c')).setCell (p := ⟨w.heap.size + 1 + 1 + 1, 1, none⟩) (by show w.heap.size ≤ w.heap.size + 1 + 1 + 1; omega) (.slice (some ⟨gB, 0, none⟩) m d'))
  clear HB4
  go_wp2_with fail
  obtain ⟨p0, p1⟩ := pr_cells (pr_set X2.out.rr (.slice (some ⟨gA, 0, none⟩) n c') (.slice (some ⟨gB, 0, none⟩) m d'))
  refine bodyPost_ret (v := bdV (some ⟨gA, 0, none⟩) n c' (some ⟨gB, 0, none⟩) m d') (by simp [results, Try.results71, go_sem, p0, p1]) rfl ⟨gA, c', gB, d', rfl, ?_, ?_⟩
  · rw [EX.out, EXS.out, EY.out]; exact ((X2.out.bd.ne' (by omega) _ _).ne' (by omega) _ _).lower (by omega)
  · exact HB5.out

set_option maxRecDepth 16000 in
set_option maxHeartbeats 3200000 in
theorem afterStep_3 (P : Nat) (c H s : Int) (a : Option Addr) (n ca : Nat) (xs : List Int) (b : Option Addr) (m cb : Nat) (ys : List Int) (F T : Nat) (die : Int) (w : World) (h1 : Ints w w.heap.size .i64 a n xs) (h2 : Ints w w.heap.size .i64 b m ys) (hP0 : 1 ≤ P) (hP : P ≤ 24) (hn : n = P + 1) (hm : m = P + 1) (hF : F < n) (bx : 1 ≤ xs.getD F 0 ∧ xs.getD F 0 ≤ 15) (hT : T < n) (by' : 0 ≤ (xs.set F (xs.getD F 0 - 1)).getD T 0 ∧ (xs.set F (xs.getD F 0 - 1)).getD T 0 ≤ 15) (k : Nat) (hk : k < m) (hkT : (P : Int) - 1 - T = k) (bz : 0 ≤ ys.getD k 0 ∧ ys.getD k 0 ≤ 15) (bu : 0 ≤ (ys.set k (ys.getD k 0 - 1)).getD P 0 ∧ (ys.set k (ys.getD k 0 - 1)).getD P 0 ≤ 15) :
    Calls Try.prog 71 #[vrV P c H s, bdV a n ca b m cb, .agg #[.int .i64 F, .int .i64 T, .int .i64 die, .bool true]] w fun e w' => BdPost n ((xs.set F (xs.getD F 0 - 1)).set T ((xs.set F (xs.getD F 0 - 1)).getD T 0 + 1)) m ((ys.set k (ys.getD k 0 - 1)).set P ((ys.set k (ys.getD k 0 - 1)).getD P 0 + 1)) w e w' := by
  have hb0 := ((((Below.refl w.heap.size w).alloc (Nat.le_refl _) (.cells #[.int .i64 P, .int .i64 c, .int .i64 H, .int .i64 s] 30)).alloc (by simp) (.cells #[.slice a n ca, .slice b m cb] 32)).alloc (by simp; omega) (.cells #[.int .i64 F, .int .i64 T, .int .i64 die, .bool true] 72)).alloc (by simp; omega) (.cells #[.slice none 0 0, .slice none 0 0] 32)
  have V0 := (((vr4_new w (.int .i64 P) (.int .i64 c) (.int .i64 H) (.int .i64 s) 30).alloc (.cells #[.slice a n ca, .slice b m cb] 32)).alloc (.cells #[.int .i64 F, .int .i64 T, .int .i64 die, .bool true] 72)).alloc (.cells #[.slice none 0 0, .slice none 0 0] 32)
  have D0 := ((pr_new (w.alloc (.cells #[.int .i64 P, .int .i64 c, .int .i64 H, .int .i64 s] 30)) (.slice a n ca) (.slice b m cb) 32).alloc (.cells #[.int .i64 F, .int .i64 T, .int .i64 die, .bool true] 72)).alloc (.cells #[.slice none 0 0, .slice none 0 0] 32)
  have S0 := (vr4_new ((w.alloc (.cells #[.int .i64 P, .int .i64 c, .int .i64 H, .int .i64 s] 30)).alloc (.cells #[.slice a n ca, .slice b m cb] 32)) (.int .i64 F) (.int .i64 T) (.int .i64 die) (.bool true) 72).alloc (.cells #[.slice none 0 0, .slice none 0 0] 32)
  have R0 := pr_new (((w.alloc (.cells #[.int .i64 P, .int .i64 c, .int .i64 H, .int .i64 s] 30)).alloc (.cells #[.slice a n ca, .slice b m cb] 32)).alloc (.cells #[.int .i64 F, .int .i64 T, .int .i64 die, .bool true] 72)) (.slice none 0 0) (.slice none 0 0) 32
  simp only [World.size_alloc] at D0 S0 R0
  obtain ⟨W0, hW0⟩ : ∃ W, ((((w.alloc (.cells #[.int .i64 P, .int .i64 c, .int .i64 H, .int .i64 s] 30)).alloc (.cells #[.slice a n ca, .slice b m cb] 32)).alloc (.cells #[.int .i64 F, .int .i64 T, .int .i64 die, .bool true] 72)).alloc (.cells #[.slice none 0 0, .slice none 0 0] 32)) = W := ⟨_, rfl⟩
  have zW : w.heap.size + 3 < W0.heap.size := by rw [← hW0]; simp
  rw [hW0] at hb0 V0 D0 S0 R0
  have HW0 := Lib.hid hW0
  clear hW0
  have I1 := (h1.below hb0).more hb0.size
  have I2 := (h2.below hb0).more hb0.size
  have HCL := Lib.hid (cloneBoard_any a n ca xs b m cb ys W0 I1 I2 (by omega) (by omega) (by omega) (by omega))
  have HL1 := Lib.hid h1.len
  have HL2 := Lib.hid h2.len
  obtain ⟨v4, v5⟩ := pr_cells D0
  have HN := Lib.hid hn
  have HM := Lib.hid hm
  have hnP : P < n := by omega
  have hnP2 : n ≤ P + 1 := by omega
  have hmP : P < m := by omega
  have hmP2 : m ≤ P + 1 := by omega
  clear h1 h2 I1 I2 hn hm
  go_enter Try.func71, Try.ntmps71
  go_wp2_with fail
  rw [HW0.out]
  go_wp2_with fail
  refine HCL.out.mono ?_
  rintro e w1 ⟨gA, c', gB, d', rfl, hbd, hb1⟩
  have Y0 := Lib.hid (show AfB w1 w.heap.size w1.heap.size W0.heap.size gA gB n m (.int .i64 P) (.int .i64 c) (.int .i64 H) (.int .i64 s) (.int .i64 F) (.int .i64 T) (.int .i64 die) (.bool true) xs ys from
    ⟨rowIs_below V0 hb1 V0.lt, rowIs_below S0 hb1 S0.lt, rowIs_below R0 hb1 R0.lt, hbd, by omega, rfl⟩)
  have X0 := Lib.hid (Y0.out.full c' d')
  have HB := Lib.hid (hb0.trans (hb1.mono hb0.size))
  have nA := X0.out.bd.ga
  have nB := X0.out.bd.gb
  have nAB := X0.out.bd.ne
  have qA : gA < w1.heap.size := rown_lt hbd.a (by omega)
  have qB : gB < w1.heap.size := rown_lt hbd.b (by omega)
  have a1 : gA ≠ w.heap.size := by omega
  have a2 : gA ≠ w.heap.size + 1 + 1 := by omega
  have a3 : gA ≠ w.heap.size + 1 + 1 + 1 := by omega
  have a4 : gA ≠ w1.heap.size := by omega
  have b1 : gB ≠ w.heap.size := by omega
  have b2 : gB ≠ w.heap.size + 1 + 1 := by omega
  have b3 : gB ≠ w.heap.size + 1 + 1 + 1 := by omega
  have b4 : gB ≠ w1.heap.size := by omega
  have Fn : (F : Int) < (n : Int) := by omega
  clear hbd hb1 hb0 V0 S0 R0 D0 v4 v5
  obtain ⟨x, hx⟩ : ∃ x, xs.getD F 0 = x := ⟨_, rfl⟩
  rw [hx] at bx by'
  have Y1 := Lib.hid (Y0.out.setA (i := F) hF HL1.out (x - 1))
  have X1 := Lib.hid (Y1.out.full c' d')
  obtain ⟨cx, fx⟩ := row_cells X0.out.bd.a hF
  rw [icell_eq, hx] at cx
  have wx : IntKind.i64.wrap (x - 1) = x - 1 := IntWalk.i64_in _ (by omega)
  have EX := Lib.hid hx
  clear hx
  obtain ⟨xs1, hxs1⟩ : ∃ l, xs.set F (x - 1) = l := ⟨_, rfl⟩
  have L1 : xs1.length = n := by rw [← hxs1, List.length_set]; exact HL1.out
  rw [hxs1] at X1 Y1 by'
  have EXS := Lib.hid hxs1
  clear hxs1
  obtain ⟨y, hy⟩ : ∃ y, xs1.getD T 0 = y := ⟨_, rfl⟩
  rw [hy] at by'
  have Y2 := Lib.hid (Y1.out.setA (i := T) hT L1 (y + 1))
  have X2 := Lib.hid (Y2.out.full c' d')
  obtain ⟨cy, fy⟩ := row_cells X1.out.bd.a hT
  rw [icell_eq, hy] at cy
  have wy : IntKind.i64.wrap (y + 1) = y + 1 := IntWalk.i64_in _ (by omega)
  have Tn : (T : Int) < (n : Int) := by omega
  have L1h := Lib.hid L1
  have EY := Lib.hid hy
  clear hy L1
  obtain ⟨z, hz⟩ : ∃ z, ys.getD k 0 = z := ⟨_, rfl⟩
  rw [hz] at bz bu
  have Y3 := Lib.hid (Y2.out.setB (i := k) hk HL2.out (z - 1))
  have X3 := Lib.hid (Y3.out.full c' d')
  obtain ⟨cz, fz⟩ := row_cells X2.out.bd.b hk
  rw [icell_eq, hz] at cz
  have wz : IntKind.i64.wrap (z - 1) = z - 1 := IntWalk.i64_in _ (by omega)
  have kn : (k : Int) < (m : Int) := by omega
  have wP : IntKind.i64.wrap ((P : Int) - 1) = (P : Int) - 1 := IntWalk.i64_in _ (by omega)
  have wk : IntKind.i64.wrap ((P : Int) - 1 - T) = (k : Int) := by rw [IntWalk.i64_in _ (by omega)]; omega
  clear hkT
  have EZ := Lib.hid hz
  clear hz
  obtain ⟨ys1, hys1⟩ : ∃ l, ys.set k (z - 1) = l := ⟨_, rfl⟩
  have M1 : ys1.length = m := by rw [← hys1, List.length_set]; exact HL2.out
  rw [hys1] at X3 Y3 bu
  have EYS := Lib.hid hys1
  clear hys1
  obtain ⟨u, hu⟩ : ∃ u, ys1.getD P 0 = u := ⟨_, rfl⟩
  rw [hu] at bu
  have Y4 := Lib.hid (Y3.out.setB (i := P) (by omega) M1 (u + 1))
  have X4 := Lib.hid (Y4.out.full c' d')
  obtain ⟨cu, fu⟩ := row_cells X3.out.bd.b (i := P) (by omega)
  rw [icell_eq, hu] at cu
  have wu : IntKind.i64.wrap (u + 1) = u + 1 := IntWalk.i64_in _ (by omega)
  have Pm : (P : Int) < (m : Int) := by omega
  have EU := Lib.hid hu
  clear hu M1
  obtain ⟨v00, v01, v02, v03⟩ := vr4_cells X0.out.rv
  obtain ⟨s00, s01, s02, s03⟩ := vr4_cells X0.out.rs
  obtain ⟨q00, q01⟩ := pr_cells X0.out.rq
  obtain ⟨t00, t01⟩ := pr_cells X0.out.rr
  have r00 := X0.out.rr.frozen 0
  have r01 := X0.out.rr.frozen 1
  obtain ⟨v10, v11, v12, v13⟩ := vr4_cells X1.out.rv
  obtain ⟨s10, s11, s12, s13⟩ := vr4_cells X1.out.rs
  obtain ⟨q10, q11⟩ := pr_cells X1.out.rq
  obtain ⟨t10, t11⟩ := pr_cells X1.out.rr
  have r10 := X1.out.rr.frozen 0
  have r11 := X1.out.rr.frozen 1
  obtain ⟨v20, v21, v22, v23⟩ := vr4_cells X2.out.rv
  obtain ⟨s20, s21, s22, s23⟩ := vr4_cells X2.out.rs
  obtain ⟨q20, q21⟩ := pr_cells X2.out.rq
  obtain ⟨t20, t21⟩ := pr_cells X2.out.rr
  have r20 := X2.out.rr.frozen 0
  have r21 := X2.out.rr.frozen 1
  obtain ⟨v30, v31, v32, v33⟩ := vr4_cells X3.out.rv
  obtain ⟨s30, s31, s32, s33⟩ := vr4_cells X3.out.rs
  obtain ⟨q30, q31⟩ := pr_cells X3.out.rq
  obtain ⟨t30, t31⟩ := pr_cells X3.out.rr
  have r30 := X3.out.rr.frozen 0
  have r31 := X3.out.rr.frozen 1
  obtain ⟨v40, v41, v42, v43⟩ := vr4_cells X4.out.rv
  obtain ⟨s40, s41, s42, s43⟩ := vr4_cells X4.out.rs
  obtain ⟨q40, q41⟩ := pr_cells X4.out.rq
  obtain ⟨t40, t41⟩ := pr_cells X4.out.rr
  have r40 := X4.out.rr.frozen 0
  have r41 := X4.out.rr.frozen 1
  have HB4 := ((((HB.out.setCell (p := ⟨gA, F, none⟩) (by show w.heap.size ≤ gA; omega) (.int .i64 (x - 1))).setCell (p := ⟨gA, T, none⟩) (by show w.heap.size ≤ gA; omega) (.int .i64 (y + 1))).setCell (p := ⟨gB, k, none⟩) (by show w.heap.size ≤ gB; omega) (.int .i64 (z - 1))).setCell (p := ⟨gB, P, none⟩) (by show w.heap.size ≤ gB; omega) (.int .i64 (u + 1)))
  have HB5 := Lib.hid (((HB4.alloc HB4.size (.cells #[.slice (some ⟨gA, 0, none⟩) n c', .slice (some ⟨gB, 0, none⟩) m d'] 32)).setCell (p := ⟨w.heap.size + 1 + 1 + 1, 0, none⟩) (by show w.heap.size ≤ w.heap.size + 1 + 1 + 1; omega) (.slice (some ⟨gA, 0, none⟩) n c')).setCell (p := ⟨w.heap.size + 1 + 1 + 1, 1, none⟩) (by show w.heap.size ≤ w.heap.size + 1 + 1 + 1; omega) (.slice (some ⟨gB, 0, none⟩) m d'))
  clear HB4
  go_wp2_with fail
  obtain ⟨p0, p1⟩ := pr_cells (pr_set X4.out.rr (.slice (some ⟨gA, 0, none⟩) n c') (.slice (some ⟨gB, 0, none⟩) m d'))
  refine bodyPost_ret (v := bdV (some ⟨gA, 0, none⟩) n c' (some ⟨gB, 0, none⟩) m d') (by simp [results, Try.results71, go_sem, p0, p1]) rfl ⟨gA, c', gB, d', rfl, ?_, ?_⟩
  · rw [EX.out, EXS.out, EY.out]; rw [EZ.out, EYS.out, EU.out]; exact ((X4.out.bd.ne' (by omega) _ _).ne' (by omega) _ _).lower (by omega)
  · exact HB5.out

theorem afterStep_any (P : Nat) (c H s : Int) (a : Option Addr) (n ca : Nat) (xs : List Int) (b : Option Addr) (m cb : Nat) (ys : List Int) (S : St) (w : World) (h1 : Ints w w.heap.size .i64 a n xs) (h2 : Ints w w.heap.size .i64 b m ys) (hP0 : 1 ≤ P) (hP : P ≤ 24) (hn : n = P + 1) (hm : m = P + 1) (hc : c ≤ 15) (hx : SV P c xs) (hy : SV P c ys) (hS : StOk P xs ys S) (hS2 : S.to = -1 → S.hit = false) :
    Calls Try.prog 71 #[vrV P c H s, bdV a n ca b m cb, stV S] w fun e w' => BdPost n (ownA xs S) m (othA P ys S) w e w' := by
  obtain ⟨fr, to, die, hit⟩ := S
  obtain ⟨f0, f1, one, t0, t1, hh⟩ := hS
  simp only at f0 f1 one t0 t1 hh hS2
  have lx := hx.len
  have ly := hy.len
  obtain ⟨F, rfl⟩ := Int.eq_ofNat_of_zero_le f0
  simp only [Int.toNat_natCast] at one lx ly
  have hF : F < n := by omega
  have d1 := hx.dec (i := F) (by omega) one
  have le1 := hx.le (i := F) (by omega)
  unfold ownA othA stV
  simp only [Int.toNat_natCast]
  by_cases ht : 0 ≤ to
  · obtain ⟨T, rfl⟩ := Int.eq_ofNat_of_zero_le ht
    simp only [Int.toNat_natCast, if_pos ht]
    have hT : T < n := by omega
    have p1 := d1.pos T (by rw [List.length_set]; omega)
    have p2 := d1.le (i := T) (by rw [List.length_set]; omega)
    cases hit
    · simp only [Bool.false_eq_true, if_false]
      exact afterStep_2 P c H s a n ca xs b m cb ys F T die w h1 h2 hP0 hP hn hm hF ⟨one, by omega⟩ hT ⟨p1, by omega⟩
    · obtain ⟨_, e1⟩ := hh rfl
      obtain ⟨k, hk⟩ : ∃ k : Nat, ((P : Int) - 1 - T).toNat = k := ⟨_, rfl⟩
      rw [hk] at e1
      simp only [if_true, hk]
      have d2 := hy.dec (i := k) (by omega) (by omega)
      have p3 := d2.pos P (by rw [List.length_set]; omega)
      have p4 := d2.le (i := P) (by rw [List.length_set]; omega)
      exact afterStep_3 P c H s a n ca xs b m cb ys F T die w h1 h2 hP0 hP hn hm hF ⟨one, by omega⟩ hT ⟨p1, by omega⟩ k (by omega) (by omega) ⟨by omega, by omega⟩ ⟨p3, by omega⟩
  · obtain rfl : to = -1 := by omega
    obtain rfl := hS2 rfl
    simp only [Bool.false_eq_true, if_false, if_neg ht]
    exact afterStep_1 P c H s a n ca xs b m cb ys F die w h1 h2 hP0 hP hn hm hF ⟨one, by omega⟩
end Go.Proofs.Ytjfmpnkbocilpaa
