/-
  The walks of a match of the program: a chance that is not told yet, given the sum of a game, and what comes after a game.
-/
import Derived.Test.YtkioliioakmepaaMchI
import Derived.Test.YtkioliioakmepaaMchQ
import Derived.Test.YtkioliioakmepaaRec
namespace Go.Proofs.Ytkioliioakmepaa
open Go.ChangeShapes Go.WideShapes Go.ChangeAt Go.RowKit
set_option linter.unusedVariables false

theorem Mp.grown {w w' : World} {b n c : Nat} {f : Nat → Nat → Int → Option Value} (h : Mp w b n f) (hg : w.grownBy w' (some c)) (hne : ¬ b = c) : Mp w' b n f := h.blk (hg.block b h.lt (by simpa using hne))
theorem row_grown {w w' : World} {b t n c : Nat} {f : Nat → Value} (h : w.rowIs b t n f) (hg : w.grownBy w' (some c)) (hne : ¬ b = c) : w'.rowIs b t n f := h.of_block (hg.block b h.lt (by simpa using hne))
/-- the cells of a state -/
def msC (a b : Nat) (q : Int) : Nat → Value
  | 0 => .int .i64 a
  | 1 => .int .i64 b
  | _ => .int .i64 q
theorem ms_new (w : World) (a b : Nat) (q : Int) : (w.alloc (.cells #[.int .i64 a, .int .i64 b, .int .i64 q] 110)).rowIs w.heap.size 110 3 (msC a b q) :=
  World.rowIs_alloc w _ _ _ (fun j hj => by
    match j, hj with
    | 0, _ => rfl
    | 1, _ => rfl
    | 2, _ => rfl)
/-- what mix does for states with a + b ≤ n + 1 -/
def ImX (M : Mm) (lo hi g t f n : Nat) : Prop := ∀ (a b : Nat) (ph q : Int) (N : Nat) (w : World), a + b ≤ n + 1 → 0 < a → 0 < b → a ≤ 9 → b ≤ 9 → 0 ≤ q → q ≤ 2 → gp a b ph = q → M.at w lo → Tm M g t f N w → hi ≤ w.heap.size → N + 8 * gB n < 1000000000000000000 →
    Calls Try.prog 97 #[.pointer (some ⟨g, 0, none⟩), .int .i64 a, .int .i64 b, .int .i64 q] w fun e w' => TmPost M lo hi g t f (N + 8 * gB n) a b ph w e w'

set_option maxHeartbeats 3200000 in
/-- a state that is not told yet -/
theorem chance_new (M : Mm) (lo hi g t f N n : Nat) (hL : Lie lo hi g t f) (hX : ImX M lo hi g t f n) (a b : Nat) (ph q : Int) (w : World) (hn : a + b ≤ n + 1) (ha : 0 < a) (hb : 0 < b) (ha9 : a ≤ 9) (hb9 : b ≤ 9) (hq : gp a b ph = q) (q0 : 0 ≤ q) (q2 : q ≤ 2) (hMw : M.at w lo) (hz : hi ≤ w.heap.size) (hN : N + 8 * gB n + 1 < 1000000000000000000)
    (T F : Nat → Nat → Int → Option Value) (r1 : w.rowIs g 108 5 (mtC M t f)) (r2 : Mp w t N T) (r3 : Mp w f N F) (hK : Kn M T F) (hT : T a b q = none) :
    Calls Try.prog 71 #[.pointer (some ⟨g, 0, none⟩), .int .i64 a, .int .i64 b, .int .i64 ph] w fun e w' => TmPost M lo hi g t f (N + 8 * gB n + 1) a b ph w e w' := by
  obtain ⟨L1, L2, L3, L4, L5, L6, L7, L8, L9⟩ := hL
  have ea : ((a : Int) == 0) = false := by simp; omega
  have eb : ((b : Int) == 0) = false := by simp; omega
  have GP := Lib.hid (fun W => gamePhase_i a b ph q hq W)
  have lg := r1.lt
  have lt := r2.lt
  have lf := r3.lt
  have c0 := (r1.alloc (.cells #[.int .i64 0, .int .i64 0] 30)).alloc (.cells #[.int .i64 a, .int .i64 b, .int .i64 q] 110)
  have d0 := c0.alloc (.cells #[.int .i64 0, .int .i64 0] 30)
  have k3 := c0.cell (i := 3) (by omega)
  have j3 := d0.cell (i := 3) (by omega)
  simp only [mtC] at k3 j3
  have P2 := (r2.alloc (.cells #[.int .i64 0, .int .i64 0] 30)).alloc (.cells #[.int .i64 a, .int .i64 b, .int .i64 q] 110)
  have m0 := P2.look (x := a) (y := b) (ph := q) Try.underlying105 (zero_sh _) ha9 hb9 q0 q2
  have m2 := P2.drew.look (x := a) (y := b) (ph := q) Try.underlying105 (zero_sh _) ha9 hb9 q0 q2
  have m4 := (P2.alloc (.cells #[.int .i64 0, .int .i64 0] 30)).look (x := a) (y := b) (ph := q) Try.underlying105 (zero_sh _) ha9 hb9 q0 q2
  have m6 := (P2.alloc (.cells #[.int .i64 0, .int .i64 0] 30)).drew.look (x := a) (y := b) (ph := q) Try.underlying105 (zero_sh _) ha9 hb9 q0 q2
  rw [hT] at m0 m2 m4 m6
  simp only [Option.getD_none, Option.isSome_none] at m0 m2 m4 m6
  have HT := Lib.hid (show Tm M g t f N (((w.alloc (.cells #[.int .i64 0, .int .i64 0] 30)).alloc (.cells #[.int .i64 a, .int .i64 b, .int .i64 q] 110)).alloc (.cells #[.int .i64 0, .int .i64 0] 30)).drew from ⟨T, F, d0.drew, (P2.alloc _).drew, ((r3.alloc _).alloc _).alloc _, hK⟩)
  have HO := Lib.hid ((((Out.refl lo hi w).alloc (.cells #[.int .i64 0, .int .i64 0] 30)).alloc (.cells #[.int .i64 a, .int .i64 b, .int .i64 q] 110)).alloc (.cells #[.int .i64 0, .int .i64 0] 30)).drew
  have HM := Lib.hid (hMw.out HO.out (by omega))
  have R8 := Lib.hid ((((two_new w 0 0 30).alloc (.cells #[.int .i64 a, .int .i64 b, .int .i64 q] 110)).alloc (.cells #[.int .i64 0, .int .i64 0] 30)).drew)
  have r10 := ms_new (w.alloc (.cells #[.int .i64 0, .int .i64 0] 30)) a b q
  rw [World.size_alloc] at r10
  have R10 := Lib.hid ((r10.alloc (.cells #[.int .i64 0, .int .i64 0] 30)).drew)
  have HX := Lib.hid hX
  have HQ := Lib.hid hq
  clear hT hK hq r1 r2 r3 c0 d0 P2 hX hMw r10
  go_enter Try.func71, Try.ntmps71
  go_wp2_with fail
  refine (GP.out _).mono ?_
  rintro e w1 ⟨rfl, rfl⟩
  go_wp2_with fail
  go_region
  all_goals
    go_wp2_with fail
    refine (HX.out a b ph q N _ hn ha hb ha9 hb9 q0 q2 HQ.out HM.out HT.out (by simp; omega) (by omega)).mono ?_
    rintro e w2 ⟨x, y, ok, rfl, t2, o2, s2, n2⟩
    have S2 := Lib.hid s2
    have N2 := Lib.hid n2
    have z2 := o2.size
    simp only [World.size_alloc, World.size_drew] at z2
    have R8B := Lib.hid ((row_out R8.out o2 (by omega)).alloc (.cells #[.int .i64 x, .int .i64 y] 30))
    have R10B := Lib.hid ((row_out R10.out o2 (by omega)).alloc (.cells #[.int .i64 x, .int .i64 y] 30))
    have R13 := Lib.hid (two_new w2 x y 30)
    have O2 := Lib.hid ((HO.out.trans o2).alloc (.cells #[.int .i64 x, .int .i64 y] 30))
    have T2 := Lib.hid (t2.alloc (.cells #[.int .i64 x, .int .i64 y] 30))
    clear t2 o2 s2 n2
    obtain ⟨T', F', g1, g2, g3, hk'⟩ := T2.out
    have HCQ : Hid (M.ch a b ph = M.ch a b q) := by rw [← HQ.out]; exact chV_gp.symm
    obtain ⟨W3, hr3, p3, hg3⟩ := g2.drew.put (x := a) (y := b) (ph := q) Try.underlying105 (by unfold maxLen; omega) (shV x y) ha9 hb9 q0 q2
    have G3 := Lib.hid (row_grown g1.drew hg3 (by omega))
    have F3 := Lib.hid (Mp.grown g3.drew hg3 (by omega))
    obtain ⟨W4, hr4, p4, hg4⟩ := F3.out.drew.put (x := a) (y := b) (ph := q) Try.underlying106 (by unfold maxLen; omega) (.bool (!ok)) ha9 hb9 q0 q2
    have z3 := hg3.size
    have z4 := hg4.size
    simp only [World.size_alloc, World.size_drew] at z3 z4
    have T4 := Lib.hid (show Tm M g t f (N + 8 * gB n + 1) W4 from ⟨_, _, row_grown G3.out.drew hg4 (by omega), Mp.grown p3.drew hg4 (by omega), p4, hk'.learn (HCQ.out ▸ S2.out) (HCQ.out ▸ N2.out)⟩)
    have O4 := Lib.hid ((O2.out.drew.grown hg3 (fun c e => .inl (by cases e; exact ⟨L3, L4⟩))).drew.grown hg4 (fun c e => .inl (by cases e; exact ⟨L5, L6⟩)))
    have R10C := Lib.hid (row_grown R10B.out.drew hg3 (by omega))
    have R13C := Lib.hid (row_grown (row_grown R13.out.drew hg3 (by omega)).drew hg4 (by omega))
    have R8C := Lib.hid (row_grown (row_grown R8B.out.drew hg3 (by omega)).drew hg4 (by omega))
    have u3 := g1.cell (i := 3) (by omega)
    have u4 := G3.out.cell (i := 4) (by omega)
    have v0 := R10B.out.cell (i := 0) (by omega)
    have v1 := R10B.out.cell (i := 1) (by omega)
    have v2 := R10B.out.cell (i := 2) (by omega)
    have y0 := R10C.out.cell (i := 0) (by omega)
    have y1 := R10C.out.cell (i := 1) (by omega)
    have y2 := R10C.out.cell (i := 2) (by omega)
    obtain ⟨b0, b1, _, _⟩ := two_cells R13.out
    obtain ⟨d0, d1, _, _⟩ := two_cells R13C.out
    obtain ⟨h0, h1, h2, h3⟩ := two_cells R8C.out
    obtain ⟨e0, e1, _, _⟩ := two_cells (two_set R8C.out x y)
    simp only [mtC] at u3 u4
    simp only [msC] at v0 v1 v2 y0 y1 y2
    clear g1 g2 g3 hk' p3 p4 hg3 hg4
    go_wp2_with fail
    go_region
    all_goals
      go_wp2_with fail
      go_region
    all_goals
      go_wp2_with fail
      refine bodyPost_ret (v := .tuple #[shV x y, .bool ok]) (by simp [results, Try.results71, go_sem, e0, e1]) rfl ⟨x, y, ok, rfl, ?_, ?_, S2.out, N2.out⟩
      · exact (T4.out.set (b := w.heap.size) (by omega) (by omega) (by omega) 0 (.int .i64 x)).set (b := w.heap.size) (by omega) (by omega) (by omega) 1 (.int .i64 y)
      · exact (O4.out.setNew (p := ⟨w.heap.size, 0, none⟩) (Nat.le_refl _) (.int .i64 x)).setNew (p := ⟨w.heap.size, 1, none⟩) (Nat.le_refl _) (.int .i64 y)
end Go.Proofs.Ytkioliioakmepaa
