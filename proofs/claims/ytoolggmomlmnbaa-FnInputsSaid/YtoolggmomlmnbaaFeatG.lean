/-
  The walks of impl's features and of FeaturesOf (both packages).
-/
import Derived.Test.YtoolggmomlmnbaaFeatF
namespace Go.Proofs.Ytoolggmomlmnbaa
open Go.ChangeShapes Go.WideShapes Go.ChangeAt Go.RowKit Go.Joins Go.Deep
set_option linter.unusedVariables false

theorem row16_set {w : World} {g t : Nat} {k : IntKind} {L : List Int} (h : w.rowIs g t 16 (icell k L)) (hl : L.length = 16) (i : Nat) (x : Int) (hi : i < 16) : (w.setCell ⟨g, i, none⟩ (.int k x)).rowIs g t 16 (icell k (L.set i x)) :=
  (h.set i (.int k x)).congr (fun j hj => by
    show (if j = i then _ else _) = _
    by_cases e : j = i
    · subst e
      rw [if_pos rfl, icell, List.getD_eq_getElem?_getD, List.getElem?_set_self (by omega)]; rfl
    · rw [if_neg e, icell, icell, List.getD_eq_getElem?_getD, List.getD_eq_getElem?_getD, List.getElem?_set_ne (fun h => e h.symm)])
/-- sixteen features, as far as they are known -/
def L16 (a0 a1 a2 a3 a4 a5 a6 a7 a8 a9 a10 a11 a12 a13 a14 a15 : Int) : List Int := [a0, a1, a2, a3, a4, a5, a6, a7, a8, a9, a10, a11, a12, a13, a14, a15]
theorem cntIf_take {q : Int → Bool} {l : List Int} {j : Nat} (h : j < l.length) : cntIf q (l.take (j + 1)) = cntIf q (l.take j) + if q (l.getD j 0) then 1 else 0 := by
  have e : l.take (j + 1) = l.take j ++ [l.getD j 0] := by
    rw [List.take_succ_eq_append_getElem h, List.getD_eq_getElem?_getD, List.getElem?_eq_getElem h]; rfl
  rw [e, cntIf_snoc]
theorem ptsL_at {f : Int → Bool} {xs : List Int} {k j : Nat} (h : j < (ptsL f xs k).length) : 0 ≤ (ptsL f xs k).getD j 0 ∧ (ptsL f xs k).getD j 0 < k := by
  have e : (ptsL f xs k).getD j 0 ∈ ptsL f xs k := by
    rw [List.getD_eq_getElem?_getD, List.getElem?_eq_getElem h]; exact List.getElem_mem h
  obtain ⟨i, h1, h2, _⟩ := ptsL_mem.1 e
  omega
theorem zero16 {w : World} {g t : Nat} (h : w.rowIs g t 16 (fun _ => Value.int .i64 0)) : w.rowIs g t 16 (icell .i64 (L16 0 0 0 0 0 0 0 0 0 0 0 0 0 0 0 0)) :=
  h.congr (fun j hj => by
    match j, hj with
    | 0, _ => rfl
    | 1, _ => rfl
    | 2, _ => rfl
    | 3, _ => rfl
    | 4, _ => rfl
    | 5, _ => rfl
    | 6, _ => rfl
    | 7, _ => rfl
    | 8, _ => rfl
    | 9, _ => rfl
    | 10, _ => rfl
    | 11, _ => rfl
    | 12, _ => rfl
    | 13, _ => rfl
    | 14, _ => rfl
    | 15, _ => rfl
    | k + 16, h => exact absurd h (by omega))

theorem sideL_at (P H : Nat) (c : Int) (n : Nat) (xs : List Int) (i : Nat) : (match i with
  | 0 => xs.getD P 0
  | 1 => c - psum xs n
  | 2 => ((ptsL isOne xs P).length : Int)
  | 3 => ((ptsL isMade xs P).length : Int)
  | 4 => ((ptsL isMade xs H).length : Int)
  | 5 => prLong xs P
  | 6 => ancP P H isMade xs P
  | _ => 0) = (sideL P H c n xs).getD i 0 := by
  match i with
  | 0 => rfl
  | 1 => rfl
  | 2 => rfl
  | 3 => rfl
  | 4 => rfl
  | 5 => rfl
  | 6 => rfl
  | k + 7 => rfl
set_option maxRecDepth 100000 in
set_option maxHeartbeats 6400000 in
theorem features_any (P H : Nat) (c s : Int) (a : Option Addr) (n ca : Nat) (xs : List Int) (b : Option Addr) (m cb : Nat) (ys : List Int) (B : Nat) (w : World) (h1 : Ints w B .i64 a n xs) (h2 : Ints w B .i64 b m ys) (hB : B ≤ w.heap.size) (hn : n ≤ 1048576) (hm : m ≤ 1048576) (hv : boardB P c H s n xs m ys = true) :
    Calls Try.prog 56 #[vrV P c H s, bdV a n ca b m cb] w fun e w' => e = .returned (.slice (some ⟨w.heap.size + 1 + 1, 0, none⟩) 16 16) ∧ w'.rowIs (w.heap.size + 1 + 1) 2 16 (icell .i64 (featV P H c n xs m ys)) ∧ Below w.heap.size w w' := by
  obtain ⟨P', hP, ⟨hPn, hPn2⟩, ⟨hPm, hPm2⟩, hn25, hm25, hX, hY⟩ := boardB_out hv
  obtain rfl : P = P' := by omega
  obtain ⟨H', hH', hH1, hHP, hc1, hc2⟩ := boardB_home hv
  obtain rfl : H = H' := by omega
  replace hHP : H ≤ P := by omega
  clear hH' hP
  obtain ⟨XL, hXL⟩ : ∃ XL, sideL P H c n xs = XL := ⟨_, rfl⟩
  obtain ⟨YL, hYL⟩ : ∃ YL, sideL P H c m ys = YL := ⟨_, rfl⟩
  have HSX := Lib.hid (sideL_at P H c n xs)
  have HSY := Lib.hid (sideL_at P H c m ys)
  rw [hXL] at HSX
  rw [hYL] at HSY
  obtain ⟨PX, hPX⟩ : ∃ q, pipS xs n = q := ⟨_, rfl⟩
  obtain ⟨PY, hPY⟩ : ∃ q, pipS ys m = q := ⟨_, rfl⟩
  have HV := Lib.hid (show featV P H c n xs m ys = featL PX PY XL YL (if contB P n xs m ys then 1 else 0) by rw [featV, hXL, hYL, hPX, hPY])
  have HPX := Lib.hid hPX
  have HPY := Lib.hid hPY
  have HI := Lib.hid (fun W (q1 : Ints W B .i64 a n xs) (q2 : Ints W B .i64 b m ys) (qz : B ≤ W.heap.size) => hasContact_any P c H s a n ca xs b m cb ys B W q1 q2 qz (by omega) (by omega) hn25 hm25 hX hY hPn2 hPm2 (by omega))
  obtain ⟨CT, hCT⟩ : ∃ q, contB P n xs m ys = q := ⟨_, rfl⟩
  rw [hCT] at HI HV
  have XB := Lib.hid hX
  have YB := Lib.hid hY
  clear hCT hXL hYL hPX hPY hX hY hv
  have hmk : ∀ W : World, (Instr.makeSlice 24 (.int .i64 16) (.int .i64 16)).run Try.prog W = .ok (.slice (some ⟨W.heap.size, 0, none⟩) 16 16) (W.alloc (.cells (madeCells #[.int .i64 0] 16) 2)) := fun W => make_i64 16 (by omega) W
  have HB0 := ((((Below.refl w.heap.size w).alloc (Nat.le_refl _) (.cells #[.int .i64 (P : Int), .int .i64 c, .int .i64 (H : Int), .int .i64 s] 30)).alloc (by simp) (.cells #[.slice a n ca, .slice b m cb] 32)).alloc (by simp; omega) (.cells (madeCells #[.int .i64 0] 16) 2)).alloc (by simp; omega) (.cells #[.slice a n ca, .slice b m cb] 24)
  have r0 := (((vr4_new w (.int .i64 (P : Int)) (.int .i64 c) (.int .i64 (H : Int)) (.int .i64 s) 30).alloc (.cells #[.slice a n ca, .slice b m cb] 32)).alloc (.cells (madeCells #[.int .i64 0] 16) 2)).alloc (.cells #[.slice a n ca, .slice b m cb] 24)
  have r1 := ((pr_new (w.alloc (.cells #[.int .i64 (P : Int), .int .i64 c, .int .i64 (H : Int), .int .i64 s] 30)) (.slice a n ca) (.slice b m cb) 32).alloc (.cells (madeCells #[.int .i64 0] 16) 2)).alloc (.cells #[.slice a n ca, .slice b m cb] 24)
  have r2 := (zero16 (World.rowIs_made ((w.alloc (.cells #[.int .i64 (P : Int), .int .i64 c, .int .i64 (H : Int), .int .i64 s] 30)).alloc (.cells #[.slice a n ca, .slice b m cb] 32)) (.int .i64 0) 16 2)).alloc (.cells #[.slice a n ca, .slice b m cb] 24)
  have r3 := pr_new (((w.alloc (.cells #[.int .i64 (P : Int), .int .i64 c, .int .i64 (H : Int), .int .i64 s] 30)).alloc (.cells #[.slice a n ca, .slice b m cb] 32)).alloc (.cells (madeCells #[.int .i64 0] 16) 2)) (.slice a n ca) (.slice b m cb) 24
  simp only [World.size_alloc] at r1 r2 r3
  have k1 : Ints ((((w.alloc (.cells #[.int .i64 (P : Int), .int .i64 c, .int .i64 (H : Int), .int .i64 s] 30)).alloc (.cells #[.slice a n ca, .slice b m cb] 32)).alloc (.cells (madeCells #[.int .i64 0] 16) 2)).alloc (.cells #[.slice a n ca, .slice b m cb] 24)) B .i64 a n xs := v_ints (v_ints (v_ints (v_ints h1 hB) (v_size hB)) (vb_size hB)) (v_size (vb_size hB))
  have k2 : Ints ((((w.alloc (.cells #[.int .i64 (P : Int), .int .i64 c, .int .i64 (H : Int), .int .i64 s] 30)).alloc (.cells #[.slice a n ca, .slice b m cb] 32)).alloc (.cells (madeCells #[.int .i64 0] 16) 2)).alloc (.cells #[.slice a n ca, .slice b m cb] 24)) B .i64 b m ys := v_ints (v_ints (v_ints (v_ints h2 hB) (v_size hB)) (vb_size hB)) (v_size (vb_size hB))
  have zz : ((((w.alloc (.cells #[.int .i64 (P : Int), .int .i64 c, .int .i64 (H : Int), .int .i64 s] 30)).alloc (.cells #[.slice a n ca, .slice b m cb] 32)).alloc (.cells (madeCells #[.int .i64 0] 16) 2)).alloc (.cells #[.slice a n ca, .slice b m cb] 24)).heap.size = w.heap.size + 1 + 1 + 1 + 1 := by simp
  clear h1 h2
  have R0 := Lib.hid r0
  have R1 := Lib.hid r1
  have R2 := Lib.hid r2
  have R3 := Lib.hid r3
  have K1 := Lib.hid k1
  have K2 := Lib.hid k2
  have HB1 := Lib.hid HB0
  have ZZ := Lib.hid zz
  clear r0 r1 r2 r3 k1 k2 HB0 zz
  obtain ⟨c0, c1, c2, c3⟩ := vr4_cells R0.out
  obtain ⟨d0, d1⟩ := pr_cells R1.out
  go_enter Try.func56, Try.ntmps56
  go_wp2_with fail
  clear c0 c1 c2 c3 d0 d1 hmk
  obtain ⟨W0, hW0⟩ : ∃ W9, W9 = ((((w.alloc (.cells #[.int .i64 (P : Int), .int .i64 c, .int .i64 (H : Int), .int .i64 s] 30)).alloc (.cells #[.slice a n ca, .slice b m cb] 32)).alloc (.cells (madeCells #[.int .i64 0] 16) 2)).alloc (.cells #[.slice a n ca, .slice b m cb] 24)) := ⟨_, rfl⟩
  rw [← hW0] at R0 R1 R2 R3 K1 K2 HB1 ZZ
  rw [← hW0]
  clear hW0
  have zW : w.heap.size + 1 + 1 + 1 + 1 ≤ W0.heap.size := Nat.le_of_eq ZZ.out.symm
  have zW2 : W0.heap.size ≤ w.heap.size + 1 + 1 + 1 + 1 := Nat.le_of_eq ZZ.out
  have HF : Hid (∀ W, Out (w.heap.size + 1 + 1) (w.heap.size + 1 + 1 + 1) W0 W → (W.rowIs w.heap.size 30 4 (vr4 (.int .i64 (P : Int)) (.int .i64 c) (.int .i64 (H : Int)) (.int .i64 s))) ∧ (W.rowIs (w.heap.size + 1 + 1 + 1) 24 2 (pr (.slice a n ca) (.slice b m cb))) ∧ Ints W B .i64 a n xs ∧ Ints W B .i64 b m ys ∧ B ≤ W.heap.size ∧ W0.heap.size ≤ W.heap.size) := by
    intro W ho
    have hz1 := ho.size
    exact ⟨R0.out.of_block (ho.block w.heap.size R0.out.lt (.inl (by omega))), R3.out.of_block (ho.block (w.heap.size + 1 + 1 + 1) R3.out.lt (.inr (by omega))), K1.out.out ho (by omega) (by omega), K2.out.out ho (by omega) (by omega), by omega, hz1⟩
  have HB2 : Hid (∀ W, Out (w.heap.size + 1 + 1) (w.heap.size + 1 + 1 + 1) W0 W → (W.rowIs (w.heap.size + 1) 32 2 (pr (.slice a n ca) (.slice b m cb))) ∧ Below w.heap.size w W) := by
    intro W ho
    exact ⟨R1.out.of_block (ho.block _ R1.out.lt (.inl (by omega))), Out.below HB1.out ho (by omega)⟩
  clear R0 R1 R3 K1 K2 HB1 ZZ
  go_loopw [20] (fun i wr => (i = .int .i64 0 ∧ wr.rowIs (w.heap.size + 1 + 1) 2 16 (icell .i64 (L16 0 0 0 0 0 0 0 0 0 0 0 0 0 0 0 0)) ∧ Out (w.heap.size + 1 + 1) (w.heap.size + 1 + 1 + 1) W0 wr) ∨ (i = .int .i64 1 ∧ wr.rowIs (w.heap.size + 1 + 1) 2 16 (icell .i64 (L16 PX 0 (XL.getD 0 0) 0 (XL.getD 1 0) 0 (XL.getD 2 0) 0 (XL.getD 3 0) 0 (XL.getD 4 0) 0 (XL.getD 5 0) 0 (XL.getD 6 0) 0)) ∧ Out (w.heap.size + 1 + 1) (w.heap.size + 1 + 1 + 1) W0 wr) ∨ (i = .int .i64 2 ∧ wr.rowIs (w.heap.size + 1 + 1) 2 16 (icell .i64 (L16 PX PY (XL.getD 0 0) (YL.getD 0 0) (XL.getD 1 0) (YL.getD 1 0) (XL.getD 2 0) (YL.getD 2 0) (XL.getD 3 0) (YL.getD 3 0) (XL.getD 4 0) (YL.getD 4 0) (XL.getD 5 0) (YL.getD 5 0) (XL.getD 6 0) 0)) ∧ Out (w.heap.size + 1 + 1) (w.heap.size + 1 + 1 + 1) W0 wr)) (fun i _ => 2 - (intOf i).toNat)
  case atStart => exact .inl ⟨rfl, R2.out, Out.refl _ _ _⟩
  case round =>
    rcases hrel with ⟨rfl, hrow, ho⟩ | ⟨rfl, hrow, ho⟩ | ⟨rfl, hrow, ho⟩
    · obtain ⟨s0, s1, q1, q2, qz, qy⟩ := HF.out _ ho
      obtain ⟨c0, c1, c2, c3⟩ := vr4_cells s0
      obtain ⟨d0, d1⟩ := pr_cells s1
      clear s0 s1
      go_wp2_with fail
      refine (madePoints_any P c H s _ _ _ xs B _ q1 qz hPn hn25 XB.out).mono ?_
      rintro e w1 ⟨v8, rfl, hg8, hb⟩
      obtain ⟨a8, c8, rfl, _, hr8⟩ := hg8.out
      clear hg8 c0 c1 c2 c3 d0 d1 q1 q2 qz
      have hr8l : w1.heap.size ≤ w1.heap.size := Nat.le_refl _
      have zA := hb.size
      replace ho := ho.after hb
      replace hrow := rowIs_below hrow hb hrow.lt
      clear hb
      obtain ⟨M, hM⟩ : ∃ M, (ptsL isMade xs P).length = M := ⟨_, rfl⟩
      have hM24 : M ≤ 24 := by have := ptsL_le isMade xs P; omega
      rw [hM] at hr8
      rw [hM]
      have HM := Lib.hid hM
      clear hM
      have hr8 := Lib.hid hr8
      obtain ⟨s0, s1, q1, q2, qz, _⟩ := HF.out _ ho
      obtain ⟨c0, c1, c2, c3⟩ := vr4_cells s0
      clear s0 s1
      go_wp2_with fail
      refine (longestPrime_any P c H s _ _ _ xs B _ q1 qz hPn hn25).mono ?_
      rintro e w2 ⟨rfl, hb⟩
      have zB := hb.size
      replace ho := ho.after hb
      replace hrow := rowIs_below hrow hb hrow.lt
      replace hr8 := Lib.hid (hr8.out.below hb)
      clear hb c0 c1 c2 c3 q1 q2 qz
      obtain ⟨PL, hPL⟩ : ∃ x, prLong xs P = x := ⟨_, rfl⟩
      obtain ⟨PA, hPA⟩ : ∃ x, prAt xs P = x := ⟨_, rfl⟩
      rw [hPL, hPA]
      have HPL := Lib.hid hPL
      clear hPL hPA
      obtain ⟨s0, s1, q1, q2, qz, _⟩ := HF.out _ ho
      obtain ⟨c0, c1, c2, c3⟩ := vr4_cells s0
      obtain ⟨sb, so, rfl, hsb, hsc⟩ := q1.2 (by omega)
      have hcP := hsc P (by omega)
      clear s0 s1 hsc
      obtain ⟨x, hx⟩ : ∃ x, xs.getD P 0 = x := ⟨_, rfl⟩
      rw [hx] at hcP
      have HXP := Lib.hid hx
      clear hx
      have o0 := hrow.cell (i := 0) (by omega)
      have f0 := hrow.frozen 0
      have o2 := hrow.cell (i := 2) (by omega)
      have f2 := hrow.frozen 2
      go_wp2_with fail
      refine (pips_any _ _ _ xs B _ q1 (by omega) hn25 XB.out).mono ?_
      rintro e w3 ⟨rfl, rfl⟩
      rw [HPX.out]
      go_wp2_with fail
      have hrow3 : ((w2.setCell ⟨w.heap.size + 1 + 1, 0, none⟩ (.int .i64 PX)).setCell ⟨w.heap.size + 1 + 1, 2, none⟩ (.int .i64 x)).rowIs (w.heap.size + 1 + 1) 2 16 (icell .i64 (L16 PX 0 x 0 0 0 0 0 0 0 0 0 0 0 0 0)) := row16_set (row16_set hrow rfl 0 PX (by omega)) rfl 2 x (by omega)
      have ho3 : Out (w.heap.size + 1 + 1) (w.heap.size + 1 + 1 + 1) W0 ((w2.setCell ⟨w.heap.size + 1 + 1, 0, none⟩ (.int .i64 PX)).setCell ⟨w.heap.size + 1 + 1, 2, none⟩ (.int .i64 x)) := (ho.set (p := ⟨w.heap.size + 1 + 1, 0, none⟩) (Nat.le_refl _) (by simp) _).set (p := ⟨w.heap.size + 1 + 1, 2, none⟩) (Nat.le_refl _) (by simp) _
      have hr83 := hr8.out.out (((Out.refl (w.heap.size + 1 + 1) (w.heap.size + 1 + 1 + 1) w2).set (p := ⟨w.heap.size + 1 + 1, 0, none⟩) (Nat.le_refl _) (by simp) (.int .i64 PX)).set (p := ⟨w.heap.size + 1 + 1, 2, none⟩) (Nat.le_refl _) (by simp) (.int .i64 x)) (.inr (by omega))
      obtain ⟨w3, hw3⟩ : ∃ W9, W9 = ((w2.setCell ⟨w.heap.size + 1 + 1, 0, none⟩ (.int .i64 PX)).setCell ⟨w.heap.size + 1 + 1, 2, none⟩ (.int .i64 x)) := ⟨_, rfl⟩
      rw [← hw3] at hrow3 ho3 hr83
      have z3 : w2.heap.size ≤ w3.heap.size := by rw [hw3]; simp
      rw [← hw3]
      clear hw3 hrow ho hr8 c0 c1 c2 c3 hcP q1 q2 qz hsb o0 f0 o2 f2
      obtain ⟨s0, s1, q1, q2, qz, _⟩ := HF.out _ ho3
      obtain ⟨c0, c1, c2, c3⟩ := vr4_cells s0
      obtain ⟨X, hX⟩ : ∃ x, psum xs n = x := ⟨_, rfl⟩
      have xb := psum_bd xs 15 n (fun i hi => ⟨by have := (XB.out i hi).1; omega, (XB.out i hi).2⟩)
      rw [hX] at xb
      obtain ⟨xb1, xb2⟩ := xb
      have x3 : -1000 ≤ X := by omega
      have x4 : X ≤ 1000 := by omega
      have HXS := Lib.hid hX
      clear hX xb1 xb2
      have hwr : IntKind.i64.wrap (c - X) = c - X := IntWalk.i64_in _ (by omega)
      have o4 := hrow3.cell (i := 4) (by omega)
      have f4 := hrow3.frozen 4
      have HKP := Lib.hid (show (w3.setCell ⟨w.heap.size + 1 + 1, 4, none⟩ (.int .i64 (c - X))).drew.cell? ⟨w.heap.size, 1, none⟩ = some (.int .i64 c) from (vr4_cells (s0.setOther (a := ⟨w.heap.size + 1 + 1, 4, none⟩) (by simp; omega) (.int .i64 (c - X)))).2.1)
      clear s0 s1
      have HTX := Lib.hid (fun W (hI : Ints W B .i64 (some ⟨sb, so, none⟩) n xs) => total_any _ _ ca _ _ W 15 hI (fun i hi => ⟨by have := (XB.out i hi).1; omega, (XB.out i hi).2⟩) (by omega) (by omega) (by omega))
      rw [HXS.out] at HTX
      have hw4 : IntKind.i64.wrap 4 = 4 := IntWalk.i64_in _ (by omega)
      have hw5 : IntKind.i64.wrap (4 + 0) = 4 := IntWalk.i64_in _ (by omega)
      go_region_held3 (fun w' => w'.cell? ⟨w.heap.size, 1, none⟩ = some (.int .i64 c))
        (first | exact HKP.out | go_keep)
        ((go_at_call 78; refine (HTX.out _ (ints_drew q1)).mono ?_; rintro e w4 ⟨rfl, rfl⟩))
      have hrow4 : (w3.setCell ⟨w.heap.size + 1 + 1, 4, none⟩ (.int .i64 (c - X))).drew.rowIs (w.heap.size + 1 + 1) 2 16 (icell .i64 (L16 PX 0 x 0 (c - X) 0 0 0 0 0 0 0 0 0 0 0)) := rowIs_drewN (row16_set hrow3 rfl 4 (c - X) (by omega)) 1
      have ho4 : Out (w.heap.size + 1 + 1) (w.heap.size + 1 + 1 + 1) W0 (w3.setCell ⟨w.heap.size + 1 + 1, 4, none⟩ (.int .i64 (c - X))).drew := (ho3.set (p := ⟨w.heap.size + 1 + 1, 4, none⟩) (Nat.le_refl _) (by simp) _).drew
      have hr84 := (hr83.out ((Out.refl (w.heap.size + 1 + 1) (w.heap.size + 1 + 1 + 1) w3).set (p := ⟨w.heap.size + 1 + 1, 4, none⟩) (Nat.le_refl _) (by simp) (.int .i64 (c - X))) (.inr (by omega))).drew
      clear c0 c1 c2 c3 q1 q2 qz o4 f4 hwr hw4 hw5 HTX HKP
      obtain ⟨s0, s1, q1, q2, qz, _⟩ := HF.out _ (ho3.set (p := ⟨w.heap.size + 1 + 1, 4, none⟩) (Nat.le_refl _) (by simp) (.int .i64 (c - X)))
      obtain ⟨c0, c1, c2, c3⟩ := vr4_cells s0
      clear s0 s1 hrow3 ho3 hr83
      go_wp2_with fail
      refine (blotsOf_any P c H s _ _ _ xs B _ (ints_drew q1) qz hPn hn25 XB.out).mono ?_
      rintro e w5 ⟨v6, rfl, hg6, hb⟩
      obtain ⟨a6, c6, rfl, _, _⟩ := hg6.out
      have z5 : w3.heap.size ≤ w5.heap.size := by have := hb.size; simpa using this
      have ho5 := ho4.after hb
      have hrow5 := rowIs_below hrow4 hb hrow4.lt
      have hr85 := hr84.below hb
      clear hb hg6 ho4 hrow4 hr84 c0 c1 c2 c3 q1 q2 qz
      obtain ⟨N, hN⟩ : ∃ M, (ptsL isOne xs P).length = M := ⟨_, rfl⟩
      have hN24 : N ≤ 24 := by have := ptsL_le isOne xs P; omega
      rw [hN]
      have HN := Lib.hid hN
      clear hN
      obtain ⟨pl1, pl2⟩ := prLong_bd xs P
      rw [HPL.out] at pl1 pl2
      have o6 := hrow5.cell (i := 6) (by omega)
      have f6 := hrow5.frozen 6
      have o8 := hrow5.cell (i := 8) (by omega)
      have f8 := hrow5.frozen 8
      have o12 := hrow5.cell (i := 12) (by omega)
      have f12 := hrow5.frozen 12
      go_wp2_with fail
      have hrow6 : (((w5.setCell ⟨w.heap.size + 1 + 1, 6, none⟩ (.int .i64 (N : Int))).setCell ⟨w.heap.size + 1 + 1, 8, none⟩ (.int .i64 (M : Int))).setCell ⟨w.heap.size + 1 + 1, 12, none⟩ (.int .i64 PL)).rowIs (w.heap.size + 1 + 1) 2 16 (icell .i64 (L16 PX 0 x 0 (c - X) 0 (N : Int) 0 (M : Int) 0 0 0 PL 0 0 0)) := (row16_set (row16_set (row16_set hrow5 rfl 6 (N : Int) (by omega)) rfl 8 (M : Int) (by omega)) rfl 12 PL (by omega))
      have ho6 : Out (w.heap.size + 1 + 1) (w.heap.size + 1 + 1 + 1) W0 (((w5.setCell ⟨w.heap.size + 1 + 1, 6, none⟩ (.int .i64 (N : Int))).setCell ⟨w.heap.size + 1 + 1, 8, none⟩ (.int .i64 (M : Int))).setCell ⟨w.heap.size + 1 + 1, 12, none⟩ (.int .i64 PL)) := (((ho5.set (p := ⟨w.heap.size + 1 + 1, 6, none⟩) (Nat.le_refl _) (by simp) _).set (p := ⟨w.heap.size + 1 + 1, 8, none⟩) (Nat.le_refl _) (by simp) _).set (p := ⟨w.heap.size + 1 + 1, 12, none⟩) (Nat.le_refl _) (by simp) _)
      have hr86 := hr85.out (((((Out.refl (w.heap.size + 1 + 1) (w.heap.size + 1 + 1 + 1) w5).set (p := ⟨w.heap.size + 1 + 1, 6, none⟩) (Nat.le_refl _) (by simp) _).set (p := ⟨w.heap.size + 1 + 1, 8, none⟩) (Nat.le_refl _) (by simp) _).set (p := ⟨w.heap.size + 1 + 1, 12, none⟩) (Nat.le_refl _) (by simp) _) : Out (w.heap.size + 1 + 1) (w.heap.size + 1 + 1 + 1) w5 (((w5.setCell ⟨w.heap.size + 1 + 1, 6, none⟩ (.int .i64 (N : Int))).setCell ⟨w.heap.size + 1 + 1, 8, none⟩ (.int .i64 (M : Int))).setCell ⟨w.heap.size + 1 + 1, 12, none⟩ (.int .i64 PL))) (.inr (by omega))
      obtain ⟨w6, hw6⟩ : ∃ W9, W9 = (((w5.setCell ⟨w.heap.size + 1 + 1, 6, none⟩ (.int .i64 (N : Int))).setCell ⟨w.heap.size + 1 + 1, 8, none⟩ (.int .i64 (M : Int))).setCell ⟨w.heap.size + 1 + 1, 12, none⟩ (.int .i64 PL)) := ⟨_, rfl⟩
      rw [← hw6] at hrow6 ho6 hr86
      have z6 : w5.heap.size ≤ w6.heap.size := by rw [hw6]; simp
      rw [← hw6]
      clear hw6 hrow5 ho5 hr85 o6 f6 o8 f8 o12 f12
      have HR8 := Lib.hid hr86
      have HMD : Hid (∀ j, j < M → 0 ≤ (ptsL isMade xs P).getD j 0 ∧ (ptsL isMade xs P).getD j 0 < (P : Int)) := fun j hj => ptsL_at (by rw [HM.out]; exact hj)
      have HT : Hid (∀ q j, j < M → cntIf q ((ptsL isMade xs P).take (j + 1)) = cntIf q ((ptsL isMade xs P).take j) + if q ((ptsL isMade xs P).getD j 0) then 1 else 0) := fun q j hj => cntIf_take (by rw [HM.out]; exact hj)
      have HB : Hid (∀ q (j : Nat), 0 ≤ cntIf q ((ptsL isMade xs P).take j) ∧ cntIf q ((ptsL isMade xs P).take j) ≤ j) := fun q j => by have h1 := cntIf_bd q ((ptsL isMade xs P).take j); have h2 := List.length_take_le j (ptsL isMade xs P); omega
      have HE : Hid (∀ q, cntIf q ((ptsL isMade xs P).take M) = cntIf q (ptsL isMade xs P)) := fun q => by rw [List.take_of_length_le (by rw [HM.out]; exact Nat.le_refl _)]
      clear hr86
      obtain ⟨md, hmd⟩ : ∃ l, ptsL isMade xs P = l := ⟨_, rfl⟩
      rw [hmd] at HR8 HMD HT HB HE HM
      have HMM := Lib.hid hmd
      clear hmd
      go_loopw [78] (fun i wq => ∃ (j : Nat) (A E : Int), j ≤ M ∧ i = .int .i64 j ∧ Hid (A = cntIf (fun i => decide (i < (H : Int))) (md.take j)) ∧ Hid (E = cntIf (fun i => decide ((P : Int) - 1 - i < (H : Int))) (md.take j)) ∧ wq.rowIs (w.heap.size + 1 + 1) 2 16 (icell .i64 (L16 PX 0 x 0 (c - X) 0 (N : Int) 0 (M : Int) 0 A 0 PL 0 E 0)) ∧ Out (w.heap.size + 1 + 1) (w.heap.size + 1 + 1 + 1) w6 wq) (fun i _ => M - (intOf i).toNat)
      case atStart => exact ⟨0, 0, 0, Nat.zero_le _, rfl, rfl, rfl, hrow6, Out.refl _ _ _⟩
      case round =>
        obtain ⟨j, A, E, hj, rfl, hA, hE, hrow7, ho7⟩ := hrel
        have hA1 := HB.out (fun i => decide (i < (H : Int))) j
        rw [← hA.out] at hA1
        obtain ⟨A1, A2⟩ := hA1
        have hE1 := HB.out (fun i => decide ((P : Int) - 1 - i < (H : Int))) j
        rw [← hE.out] at hE1
        obtain ⟨E1, E2⟩ := hE1
        have z7 := ho7.size
        have ho8 := ho6.trans ho7
        by_cases hlt : j < M
        · obtain ⟨gm, rfl, gm1, gm2, gm3, hcm⟩ := HR8.out.blk (by omega)
          have hcx := (World.cell?_of_block (w := w6) (a := ⟨gm, j, none⟩) (ho7.block gm gm3 (.inr (by omega)))).trans (hcm j hlt).1
          rw [icell_eq] at hcx
          obtain ⟨y1, y2⟩ := HMD.out j hlt
          have hT1 := Lib.hid (HT.out (fun i => decide (i < (H : Int))) j hlt)
          have hT2 := Lib.hid (HT.out (fun i => decide ((P : Int) - 1 - i < (H : Int))) j hlt)
          obtain ⟨y, hy⟩ : ∃ y, md.getD j 0 = y := ⟨_, rfl⟩
          rw [hy] at hcx y1 y2 hT1 hT2
          clear hy hcm
          obtain ⟨s0, s1, q1, q2, qz, _⟩ := HF.out _ ho8
          obtain ⟨c0, c1, c2, c3⟩ := vr4_cells s0
          have oh := hrow7.cell (i := 10) (by omega)
          have fh := hrow7.frozen 10
          have oa := hrow7.cell (i := 14) (by omega)
          have fa := hrow7.frozen 14
          replace oh : wr.cell? ⟨w.heap.size + 1 + 1, 10, none⟩ = some (.int .i64 A) := oh
          replace oa : wr.cell? ⟨w.heap.size + 1 + 1, 14, none⟩ = some (.int .i64 E) := oa
          have i0 : (0 : Int) ≤ (j : Int) := by omega
          have i1 : (j : Int) < M := by omega
          clear s0 s1 q1 q2 qz
          by_cases g1 : y < (H : Int)
          · have N1 := Lib.hid (hT1.out.trans (by rw [if_pos (by simpa using g1)]))
            by_cases g2 : (P : Int) - 1 - y < (H : Int)
            · have N2 := Lib.hid (hT2.out.trans (by rw [if_pos (by simpa using g2)]))
              go_wp2
              go_roundw
              case rel => exact ⟨j + 1, A + 1, E + 1, by omega, by go_num, by show _ = _; rw [N1.out, hA.out], by show _ = _; rw [N2.out, hE.out], (row16_set (row16_set hrow7 rfl 10 (A + 1) (by omega)) rfl 14 (E + 1) (by omega)), ((ho7.set (p := ⟨w.heap.size + 1 + 1, 10, none⟩) (Nat.le_refl _) (by simp) _).set (p := ⟨w.heap.size + 1 + 1, 14, none⟩) (Nat.le_refl _) (by simp) _)⟩
              case measure => simp [intOf]; omega
            · have N2 := Lib.hid (hT2.out.trans (by rw [if_neg (by simpa using g2), Int.add_zero]))
              go_wp2
              go_roundw
              case rel => exact ⟨j + 1, A + 1, E, by omega, by go_num, by show _ = _; rw [N1.out, hA.out], by show _ = _; rw [N2.out, hE.out], (row16_set hrow7 rfl 10 (A + 1) (by omega)), (ho7.set (p := ⟨w.heap.size + 1 + 1, 10, none⟩) (Nat.le_refl _) (by simp) _)⟩
              case measure => simp [intOf]; omega
          · have N1 := Lib.hid (hT1.out.trans (by rw [if_neg (by simpa using g1), Int.add_zero]))
            by_cases g2 : (P : Int) - 1 - y < (H : Int)
            · have N2 := Lib.hid (hT2.out.trans (by rw [if_pos (by simpa using g2)]))
              go_wp2
              go_roundw
              case rel => exact ⟨j + 1, A, E + 1, by omega, by go_num, by show _ = _; rw [N1.out, hA.out], by show _ = _; rw [N2.out, hE.out], (row16_set hrow7 rfl 14 (E + 1) (by omega)), (ho7.set (p := ⟨w.heap.size + 1 + 1, 14, none⟩) (Nat.le_refl _) (by simp) _)⟩
              case measure => simp [intOf]; omega
            · have N2 := Lib.hid (hT2.out.trans (by rw [if_neg (by simpa using g2), Int.add_zero]))
              go_wp2
              go_roundw
              case rel => exact ⟨j + 1, A, E, by omega, by go_num, by show _ = _; rw [N1.out, hA.out], by show _ = _; rw [N2.out, hE.out], hrow7, ho7⟩
              case measure => simp [intOf]; omega
        · obtain rfl : j = M := by omega
          have H4 := Lib.hid (show A = XL.getD 4 0 by rw [hA.out, HE.out, ← HMM.out, cntIf_home hHP]; exact HSX.out 4)
          have H6 := Lib.hid (show E = XL.getD 6 0 by rw [hE.out, HE.out, ← HMM.out]; exact HSX.out 6)
          have H0 := Lib.hid (show x = XL.getD 0 0 from HXP.out.symm.trans (HSX.out 0))
          have H1 := Lib.hid (show c - X = XL.getD 1 0 by rw [← HXS.out]; exact HSX.out 1)
          have H2 := Lib.hid (show (N : Int) = XL.getD 2 0 by rw [← HN.out]; exact HSX.out 2)
          have H3 := Lib.hid (show (j : Int) = XL.getD 3 0 by rw [← HM.out, ← HMM.out]; exact HSX.out 3)
          have H5 := Lib.hid (show PL = XL.getD 5 0 from HPL.out.symm.trans (HSX.out 5))
          go_wp2
          go_roundw
          case rel => exact .inr (.inl ⟨by go_num, by rw [← H0.out, ← H1.out, ← H2.out, ← H3.out, ← H4.out, ← H5.out, ← H6.out]; exact hrow7, ho8⟩)
          case measure => simp [intOf]
    · obtain ⟨s0, s1, q1, q2, qz, qy⟩ := HF.out _ ho
      obtain ⟨c0, c1, c2, c3⟩ := vr4_cells s0
      obtain ⟨d0, d1⟩ := pr_cells s1
      clear s0 s1
      go_wp2_with fail
      refine (madePoints_any P c H s _ _ _ ys B _ q2 qz hPm hm25 YB.out).mono ?_
      rintro e w1 ⟨v8, rfl, hg8, hb⟩
      obtain ⟨a8, c8, rfl, _, hr8⟩ := hg8.out
      clear hg8 c0 c1 c2 c3 d0 d1 q1 q2 qz
      have hr8l : w1.heap.size ≤ w1.heap.size := Nat.le_refl _
      have zA := hb.size
      replace ho := ho.after hb
      replace hrow := rowIs_below hrow hb hrow.lt
      clear hb
      obtain ⟨M, hM⟩ : ∃ M, (ptsL isMade ys P).length = M := ⟨_, rfl⟩
      have hM24 : M ≤ 24 := by have := ptsL_le isMade ys P; omega
      rw [hM] at hr8
      rw [hM]
      have HM := Lib.hid hM
      clear hM
      have hr8 := Lib.hid hr8
      obtain ⟨s0, s1, q1, q2, qz, _⟩ := HF.out _ ho
      obtain ⟨c0, c1, c2, c3⟩ := vr4_cells s0
      clear s0 s1
      go_wp2_with fail
      refine (longestPrime_any P c H s _ _ _ ys B _ q2 qz hPm hm25).mono ?_
      rintro e w2 ⟨rfl, hb⟩
      have zB := hb.size
      replace ho := ho.after hb
      replace hrow := rowIs_below hrow hb hrow.lt
      replace hr8 := Lib.hid (hr8.out.below hb)
      clear hb c0 c1 c2 c3 q1 q2 qz
      obtain ⟨PL, hPL⟩ : ∃ x, prLong ys P = x := ⟨_, rfl⟩
      obtain ⟨PA, hPA⟩ : ∃ x, prAt ys P = x := ⟨_, rfl⟩
      rw [hPL, hPA]
      have HPL := Lib.hid hPL
      clear hPL hPA
      obtain ⟨s0, s1, q1, q2, qz, _⟩ := HF.out _ ho
      obtain ⟨c0, c1, c2, c3⟩ := vr4_cells s0
      obtain ⟨sb, so, rfl, hsb, hsc⟩ := q2.2 (by omega)
      have hcP := hsc P (by omega)
      clear s0 s1 hsc
      obtain ⟨x, hx⟩ : ∃ x, ys.getD P 0 = x := ⟨_, rfl⟩
      rw [hx] at hcP
      have HXP := Lib.hid hx
      clear hx
      have o1 := hrow.cell (i := 1) (by omega)
      have f1 := hrow.frozen 1
      have o3 := hrow.cell (i := 3) (by omega)
      have f3 := hrow.frozen 3
      go_wp2_with fail
      refine (pips_any _ _ _ ys B _ q2 (by omega) hm25 YB.out).mono ?_
      rintro e w3 ⟨rfl, rfl⟩
      rw [HPY.out]
      go_wp2_with fail
      have hrow3 : ((w2.setCell ⟨w.heap.size + 1 + 1, 1, none⟩ (.int .i64 PY)).setCell ⟨w.heap.size + 1 + 1, 3, none⟩ (.int .i64 x)).rowIs (w.heap.size + 1 + 1) 2 16 (icell .i64 (L16 PX PY (XL.getD 0 0) x (XL.getD 1 0) 0 (XL.getD 2 0) 0 (XL.getD 3 0) 0 (XL.getD 4 0) 0 (XL.getD 5 0) 0 (XL.getD 6 0) 0)) := row16_set (row16_set hrow rfl 1 PY (by omega)) rfl 3 x (by omega)
      have ho3 : Out (w.heap.size + 1 + 1) (w.heap.size + 1 + 1 + 1) W0 ((w2.setCell ⟨w.heap.size + 1 + 1, 1, none⟩ (.int .i64 PY)).setCell ⟨w.heap.size + 1 + 1, 3, none⟩ (.int .i64 x)) := (ho.set (p := ⟨w.heap.size + 1 + 1, 1, none⟩) (Nat.le_refl _) (by simp) _).set (p := ⟨w.heap.size + 1 + 1, 3, none⟩) (Nat.le_refl _) (by simp) _
      have hr83 := hr8.out.out (((Out.refl (w.heap.size + 1 + 1) (w.heap.size + 1 + 1 + 1) w2).set (p := ⟨w.heap.size + 1 + 1, 1, none⟩) (Nat.le_refl _) (by simp) (.int .i64 PY)).set (p := ⟨w.heap.size + 1 + 1, 3, none⟩) (Nat.le_refl _) (by simp) (.int .i64 x)) (.inr (by omega))
      obtain ⟨w3, hw3⟩ : ∃ W9, W9 = ((w2.setCell ⟨w.heap.size + 1 + 1, 1, none⟩ (.int .i64 PY)).setCell ⟨w.heap.size + 1 + 1, 3, none⟩ (.int .i64 x)) := ⟨_, rfl⟩
      rw [← hw3] at hrow3 ho3 hr83
      have z3 : w2.heap.size ≤ w3.heap.size := by rw [hw3]; simp
      rw [← hw3]
      clear hw3 hrow ho hr8 c0 c1 c2 c3 hcP q1 q2 qz hsb o1 f1 o3 f3
      obtain ⟨s0, s1, q1, q2, qz, _⟩ := HF.out _ ho3
      obtain ⟨c0, c1, c2, c3⟩ := vr4_cells s0
      obtain ⟨X, hX⟩ : ∃ x, psum ys m = x := ⟨_, rfl⟩
      have xb := psum_bd ys 15 m (fun i hi => ⟨by have := (YB.out i hi).1; omega, (YB.out i hi).2⟩)
      rw [hX] at xb
      obtain ⟨xb1, xb2⟩ := xb
      have x3 : -1000 ≤ X := by omega
      have x4 : X ≤ 1000 := by omega
      have HXS := Lib.hid hX
      clear hX xb1 xb2
      have hwr : IntKind.i64.wrap (c - X) = c - X := IntWalk.i64_in _ (by omega)
      have o4 := hrow3.cell (i := 5) (by omega)
      have f4 := hrow3.frozen 5
      have HKP := Lib.hid (show (w3.setCell ⟨w.heap.size + 1 + 1, 5, none⟩ (.int .i64 (c - X))).drew.cell? ⟨w.heap.size, 1, none⟩ = some (.int .i64 c) from (vr4_cells (s0.setOther (a := ⟨w.heap.size + 1 + 1, 5, none⟩) (by simp; omega) (.int .i64 (c - X)))).2.1)
      clear s0 s1
      have HTX := Lib.hid (fun W (hI : Ints W B .i64 (some ⟨sb, so, none⟩) m ys) => total_any _ _ cb _ _ W 15 hI (fun i hi => ⟨by have := (YB.out i hi).1; omega, (YB.out i hi).2⟩) (by omega) (by omega) (by omega))
      rw [HXS.out] at HTX
      have hw4 : IntKind.i64.wrap 5 = 5 := IntWalk.i64_in _ (by omega)
      have hw5 : IntKind.i64.wrap (4 + 1) = 5 := IntWalk.i64_in _ (by omega)
      go_region_held3 (fun w' => w'.cell? ⟨w.heap.size, 1, none⟩ = some (.int .i64 c))
        (first | exact HKP.out | go_keep)
        ((go_at_call 78; refine (HTX.out _ (ints_drew q2)).mono ?_; rintro e w4 ⟨rfl, rfl⟩))
      have hrow4 : (w3.setCell ⟨w.heap.size + 1 + 1, 5, none⟩ (.int .i64 (c - X))).drew.rowIs (w.heap.size + 1 + 1) 2 16 (icell .i64 (L16 PX PY (XL.getD 0 0) x (XL.getD 1 0) (c - X) (XL.getD 2 0) 0 (XL.getD 3 0) 0 (XL.getD 4 0) 0 (XL.getD 5 0) 0 (XL.getD 6 0) 0)) := rowIs_drewN (row16_set hrow3 rfl 5 (c - X) (by omega)) 1
      have ho4 : Out (w.heap.size + 1 + 1) (w.heap.size + 1 + 1 + 1) W0 (w3.setCell ⟨w.heap.size + 1 + 1, 5, none⟩ (.int .i64 (c - X))).drew := (ho3.set (p := ⟨w.heap.size + 1 + 1, 5, none⟩) (Nat.le_refl _) (by simp) _).drew
      have hr84 := (hr83.out ((Out.refl (w.heap.size + 1 + 1) (w.heap.size + 1 + 1 + 1) w3).set (p := ⟨w.heap.size + 1 + 1, 5, none⟩) (Nat.le_refl _) (by simp) (.int .i64 (c - X))) (.inr (by omega))).drew
      clear c0 c1 c2 c3 q1 q2 qz o4 f4 hwr hw4 hw5 HTX HKP
      obtain ⟨s0, s1, q1, q2, qz, _⟩ := HF.out _ (ho3.set (p := ⟨w.heap.size + 1 + 1, 5, none⟩) (Nat.le_refl _) (by simp) (.int .i64 (c - X)))
      obtain ⟨c0, c1, c2, c3⟩ := vr4_cells s0
      clear s0 s1 hrow3 ho3 hr83
      go_wp2_with fail
      refine (blotsOf_any P c H s _ _ _ ys B _ (ints_drew q2) qz hPm hm25 YB.out).mono ?_
      rintro e w5 ⟨v6, rfl, hg6, hb⟩
      obtain ⟨a6, c6, rfl, _, _⟩ := hg6.out
      have z5 : w3.heap.size ≤ w5.heap.size := by have := hb.size; simpa using this
      have ho5 := ho4.after hb
      have hrow5 := rowIs_below hrow4 hb hrow4.lt
      have hr85 := hr84.below hb
      clear hb hg6 ho4 hrow4 hr84 c0 c1 c2 c3 q1 q2 qz
      obtain ⟨N, hN⟩ : ∃ M, (ptsL isOne ys P).length = M := ⟨_, rfl⟩
      have hN24 : N ≤ 24 := by have := ptsL_le isOne ys P; omega
      rw [hN]
      have HN := Lib.hid hN
      clear hN
      obtain ⟨pl1, pl2⟩ := prLong_bd ys P
      rw [HPL.out] at pl1 pl2
      have o7 := hrow5.cell (i := 7) (by omega)
      have f7 := hrow5.frozen 7
      have o9 := hrow5.cell (i := 9) (by omega)
      have f9 := hrow5.frozen 9
      have o13 := hrow5.cell (i := 13) (by omega)
      have f13 := hrow5.frozen 13
      go_wp2_with fail
      have hrow6 : (((w5.setCell ⟨w.heap.size + 1 + 1, 7, none⟩ (.int .i64 (N : Int))).setCell ⟨w.heap.size + 1 + 1, 9, none⟩ (.int .i64 (M : Int))).setCell ⟨w.heap.size + 1 + 1, 13, none⟩ (.int .i64 PL)).rowIs (w.heap.size + 1 + 1) 2 16 (icell .i64 (L16 PX PY (XL.getD 0 0) x (XL.getD 1 0) (c - X) (XL.getD 2 0) (N : Int) (XL.getD 3 0) (M : Int) (XL.getD 4 0) 0 (XL.getD 5 0) PL (XL.getD 6 0) 0)) := (row16_set (row16_set (row16_set hrow5 rfl 7 (N : Int) (by omega)) rfl 9 (M : Int) (by omega)) rfl 13 PL (by omega))
      have ho6 : Out (w.heap.size + 1 + 1) (w.heap.size + 1 + 1 + 1) W0 (((w5.setCell ⟨w.heap.size + 1 + 1, 7, none⟩ (.int .i64 (N : Int))).setCell ⟨w.heap.size + 1 + 1, 9, none⟩ (.int .i64 (M : Int))).setCell ⟨w.heap.size + 1 + 1, 13, none⟩ (.int .i64 PL)) := (((ho5.set (p := ⟨w.heap.size + 1 + 1, 7, none⟩) (Nat.le_refl _) (by simp) _).set (p := ⟨w.heap.size + 1 + 1, 9, none⟩) (Nat.le_refl _) (by simp) _).set (p := ⟨w.heap.size + 1 + 1, 13, none⟩) (Nat.le_refl _) (by simp) _)
      have hr86 := hr85.out (((((Out.refl (w.heap.size + 1 + 1) (w.heap.size + 1 + 1 + 1) w5).set (p := ⟨w.heap.size + 1 + 1, 7, none⟩) (Nat.le_refl _) (by simp) _).set (p := ⟨w.heap.size + 1 + 1, 9, none⟩) (Nat.le_refl _) (by simp) _).set (p := ⟨w.heap.size + 1 + 1, 13, none⟩) (Nat.le_refl _) (by simp) _) : Out (w.heap.size + 1 + 1) (w.heap.size + 1 + 1 + 1) w5 (((w5.setCell ⟨w.heap.size + 1 + 1, 7, none⟩ (.int .i64 (N : Int))).setCell ⟨w.heap.size + 1 + 1, 9, none⟩ (.int .i64 (M : Int))).setCell ⟨w.heap.size + 1 + 1, 13, none⟩ (.int .i64 PL))) (.inr (by omega))
      obtain ⟨w6, hw6⟩ : ∃ W9, W9 = (((w5.setCell ⟨w.heap.size + 1 + 1, 7, none⟩ (.int .i64 (N : Int))).setCell ⟨w.heap.size + 1 + 1, 9, none⟩ (.int .i64 (M : Int))).setCell ⟨w.heap.size + 1 + 1, 13, none⟩ (.int .i64 PL)) := ⟨_, rfl⟩
      rw [← hw6] at hrow6 ho6 hr86
      have z6 : w5.heap.size ≤ w6.heap.size := by rw [hw6]; simp
      rw [← hw6]
      clear hw6 hrow5 ho5 hr85 o7 f7 o9 f9 o13 f13
      have HR8 := Lib.hid hr86
      have HMD : Hid (∀ j, j < M → 0 ≤ (ptsL isMade ys P).getD j 0 ∧ (ptsL isMade ys P).getD j 0 < (P : Int)) := fun j hj => ptsL_at (by rw [HM.out]; exact hj)
      have HT : Hid (∀ q j, j < M → cntIf q ((ptsL isMade ys P).take (j + 1)) = cntIf q ((ptsL isMade ys P).take j) + if q ((ptsL isMade ys P).getD j 0) then 1 else 0) := fun q j hj => cntIf_take (by rw [HM.out]; exact hj)
      have HB : Hid (∀ q (j : Nat), 0 ≤ cntIf q ((ptsL isMade ys P).take j) ∧ cntIf q ((ptsL isMade ys P).take j) ≤ j) := fun q j => by have h1 := cntIf_bd q ((ptsL isMade ys P).take j); have h2 := List.length_take_le j (ptsL isMade ys P); omega
      have HE : Hid (∀ q, cntIf q ((ptsL isMade ys P).take M) = cntIf q (ptsL isMade ys P)) := fun q => by rw [List.take_of_length_le (by rw [HM.out]; exact Nat.le_refl _)]
      clear hr86
      obtain ⟨md, hmd⟩ : ∃ l, ptsL isMade ys P = l := ⟨_, rfl⟩
      rw [hmd] at HR8 HMD HT HB HE HM
      have HMM := Lib.hid hmd
      clear hmd
      go_loopw [78] (fun i wq => ∃ (j : Nat) (A E : Int), j ≤ M ∧ i = .int .i64 j ∧ Hid (A = cntIf (fun i => decide (i < (H : Int))) (md.take j)) ∧ Hid (E = cntIf (fun i => decide ((P : Int) - 1 - i < (H : Int))) (md.take j)) ∧ wq.rowIs (w.heap.size + 1 + 1) 2 16 (icell .i64 (L16 PX PY (XL.getD 0 0) x (XL.getD 1 0) (c - X) (XL.getD 2 0) (N : Int) (XL.getD 3 0) (M : Int) (XL.getD 4 0) A (XL.getD 5 0) PL (XL.getD 6 0) 0)) ∧ Out (w.heap.size + 1 + 1) (w.heap.size + 1 + 1 + 1) w6 wq) (fun i _ => M - (intOf i).toNat)
      case atStart => exact ⟨0, 0, 0, Nat.zero_le _, rfl, rfl, rfl, hrow6, Out.refl _ _ _⟩
      case round =>
        obtain ⟨j, A, E, hj, rfl, hA, hE, hrow7, ho7⟩ := hrel
        have hA1 := HB.out (fun i => decide (i < (H : Int))) j
        rw [← hA.out] at hA1
        obtain ⟨A1, A2⟩ := hA1
        have hE1 := HB.out (fun i => decide ((P : Int) - 1 - i < (H : Int))) j
        rw [← hE.out] at hE1
        obtain ⟨E1, E2⟩ := hE1
        have z7 := ho7.size
        have ho8 := ho6.trans ho7
        by_cases hlt : j < M
        · obtain ⟨gm, rfl, gm1, gm2, gm3, hcm⟩ := HR8.out.blk (by omega)
          have hcx := (World.cell?_of_block (w := w6) (a := ⟨gm, j, none⟩) (ho7.block gm gm3 (.inr (by omega)))).trans (hcm j hlt).1
          rw [icell_eq] at hcx
          obtain ⟨y1, y2⟩ := HMD.out j hlt
          have hT1 := Lib.hid (HT.out (fun i => decide (i < (H : Int))) j hlt)
          have hT2 := Lib.hid (HT.out (fun i => decide ((P : Int) - 1 - i < (H : Int))) j hlt)
          obtain ⟨y, hy⟩ : ∃ y, md.getD j 0 = y := ⟨_, rfl⟩
          rw [hy] at hcx y1 y2 hT1 hT2
          clear hy hcm
          obtain ⟨s0, s1, q1, q2, qz, _⟩ := HF.out _ ho8
          obtain ⟨c0, c1, c2, c3⟩ := vr4_cells s0
          have oh := hrow7.cell (i := 11) (by omega)
          have fh := hrow7.frozen 11
          replace oh : wr.cell? ⟨w.heap.size + 1 + 1, 11, none⟩ = some (.int .i64 A) := oh
          have i0 : (0 : Int) ≤ (j : Int) := by omega
          have i1 : (j : Int) < M := by omega
          clear s0 s1 q1 q2 qz
          by_cases g1 : y < (H : Int)
          · have N1 := Lib.hid (hT1.out.trans (by rw [if_pos (by simpa using g1)]))
            by_cases g2 : (P : Int) - 1 - y < (H : Int)
            · have N2 := Lib.hid (hT2.out.trans (by rw [if_pos (by simpa using g2)]))
              go_wp2
              go_roundw
              case rel => exact ⟨j + 1, A + 1, E + 1, by omega, by go_num, by show _ = _; rw [N1.out, hA.out], by show _ = _; rw [N2.out, hE.out], (row16_set hrow7 rfl 11 (A + 1) (by omega)), (ho7.set (p := ⟨w.heap.size + 1 + 1, 11, none⟩) (Nat.le_refl _) (by simp) _)⟩
              case measure => simp [intOf]; omega
            · have N2 := Lib.hid (hT2.out.trans (by rw [if_neg (by simpa using g2), Int.add_zero]))
              go_wp2
              go_roundw
              case rel => exact ⟨j + 1, A + 1, E, by omega, by go_num, by show _ = _; rw [N1.out, hA.out], by show _ = _; rw [N2.out, hE.out], (row16_set hrow7 rfl 11 (A + 1) (by omega)), (ho7.set (p := ⟨w.heap.size + 1 + 1, 11, none⟩) (Nat.le_refl _) (by simp) _)⟩
              case measure => simp [intOf]; omega
          · have N1 := Lib.hid (hT1.out.trans (by rw [if_neg (by simpa using g1), Int.add_zero]))
            by_cases g2 : (P : Int) - 1 - y < (H : Int)
            · have N2 := Lib.hid (hT2.out.trans (by rw [if_pos (by simpa using g2)]))
              go_wp2
              go_roundw
              case rel => exact ⟨j + 1, A, E + 1, by omega, by go_num, by show _ = _; rw [N1.out, hA.out], by show _ = _; rw [N2.out, hE.out], hrow7, ho7⟩
              case measure => simp [intOf]; omega
            · have N2 := Lib.hid (hT2.out.trans (by rw [if_neg (by simpa using g2), Int.add_zero]))
              go_wp2
              go_roundw
              case rel => exact ⟨j + 1, A, E, by omega, by go_num, by show _ = _; rw [N1.out, hA.out], by show _ = _; rw [N2.out, hE.out], hrow7, ho7⟩
              case measure => simp [intOf]; omega
        · obtain rfl : j = M := by omega
          have H4 := Lib.hid (show A = YL.getD 4 0 by rw [hA.out, HE.out, ← HMM.out, cntIf_home hHP]; exact HSY.out 4)
          have H6 := Lib.hid (show E = YL.getD 6 0 by rw [hE.out, HE.out, ← HMM.out]; exact HSY.out 6)
          have H0 := Lib.hid (show x = YL.getD 0 0 from HXP.out.symm.trans (HSY.out 0))
          have H1 := Lib.hid (show c - X = YL.getD 1 0 by rw [← HXS.out]; exact HSY.out 1)
          have H2 := Lib.hid (show (N : Int) = YL.getD 2 0 by rw [← HN.out]; exact HSY.out 2)
          have H3 := Lib.hid (show (j : Int) = YL.getD 3 0 by rw [← HM.out, ← HMM.out]; exact HSY.out 3)
          have H5 := Lib.hid (show PL = YL.getD 5 0 from HPL.out.symm.trans (HSY.out 5))
          go_wp2
          go_roundw
          case rel => exact .inr (.inr ⟨by go_num, by rw [← H0.out, ← H1.out, ← H2.out, ← H3.out, ← H4.out, ← H5.out]; exact hrow7, ho8⟩)
          case measure => simp [intOf]
    · obtain ⟨s0, s1, q1, q2, qz, qy⟩ := HF.out _ ho
      obtain ⟨t0, tb⟩ := HB2.out _ ho
      obtain ⟨c0, c1, c2, c3⟩ := vr4_cells s0
      obtain ⟨d0, d1⟩ := pr_cells t0
      have HTB := Lib.hid tb
      clear s0 s1 t0 tb
      go_wp2_with fail
      refine (HI.out _ q1 q2 qz).mono ?_
      rintro e w1 ⟨rfl, hb⟩
      have hrow1 := rowIs_below hrow hb hrow.lt
      have HB3 := Lib.hid (HTB.out.trans (hb.mono HTB.out.size))
      clear hb c0 c1 c2 c3 d0 d1 q1 q2 qz
      have o15 := hrow1.cell (i := 15) (by omega)
      have f15 := hrow1.frozen 15
      cases CT
      · go_wp2
        go_ret
        exact ⟨rfl, by rw [HV.out]; exact hrow1, HB3.out⟩
      · go_wp2
        go_ret
        exact ⟨rfl, by rw [HV.out]; exact row16_set hrow1 rfl 15 1 (by omega), HB3.out.setCell (p := ⟨w.heap.size + 1 + 1, 15, none⟩) (by simp; omega) _⟩

set_option maxHeartbeats 800000 in
theorem impl_FeaturesOf_any (p c h s : Int) (a : Option Addr) (n ca : Nat) (xs : List Int) (b : Option Addr) (m cb : Nat) (ys : List Int) (B : Nat) (w : World) (h1 : Ints w B .i64 a n xs) (h2 : Ints w B .i64 b m ys) (hB : B ≤ w.heap.size) (hn : n ≤ 1048576) (hm : m ≤ 1048576) :
    Calls Try.prog 29 #[vrV p c h s, bdV a n ca b m cb] w fun e w' => LPost (featB p c h s n xs m ys) (bdC p c h s n xs m ys) w e w' := by
  cases hv : boardB p c h s n xs m ys
  · rw [featB_no hv, bdC_no hv]
    go_enter Try.func29, Try.ntmps29
    go_wp2_with fail
    refine (impl_IsBoard_any _ _ _ _ _ _ _ _ _ _ _ _ B _ (vb_ints h1 hB) (vb_ints h2 hB) (vb_size hB) hn hm).mono ?_
    rw [hv]
    rintro e v ⟨rfl, hb⟩
    obtain ⟨R0, R1, HB0, hz⟩ := vb_after hb
    go_wp2_with fail
    go_ret2
    exact .of_nil rfl rfl HB0
  · obtain ⟨P, hP, _⟩ := boardB_out hv
    subst hP
    obtain ⟨H, hH, _⟩ := boardB_home hv
    subst hH
    rw [featB_yes hv, bdC_yes hv]
    go_enter Try.func29, Try.ntmps29
    go_wp2_with fail
    refine (impl_IsBoard_any _ _ _ _ _ _ _ _ _ _ _ _ B _ (vb_ints h1 hB) (vb_ints h2 hB) (vb_size hB) hn hm).mono ?_
    rw [hv]
    rintro e v ⟨rfl, hb⟩
    obtain ⟨R0, R1, HB0, hz⟩ := vb_after hb
    have hzB : B ≤ v.heap.size := by omega
    have k1 : Ints v B .i64 a n xs := (vb_ints h1 hB).below (hb.mono (vb_size hB))
    have k2 : Ints v B .i64 b m ys := (vb_ints h2 hB).below (hb.mono (vb_size hB))
    obtain ⟨c0, c1, c2, c3⟩ := vr4_cells R0
    obtain ⟨d0, d1⟩ := pr_cells R1
    have FF := Lib.hid (features_any P H c s _ _ ca _ _ _ cb _ B v k1 k2 hzB hn hm hv)
    clear hb R0 R1 hv
    go_wp2_with fail
    refine FF.out.mono ?_
    rintro e v2 ⟨rfl, hr, hb2⟩
    have hz2 := hb2.size
    have HR := Lib.hid hr
    clear hr
    go_wp2_with fail
    go_ret2
    exact ⟨_, 16, _, rfl, rfl, RowN.of_row HR.out (by omega) HR.out.lt, HB0.trans (hb2.mono HB0.size)⟩

set_option maxHeartbeats 800000 in
theorem spec_FeaturesOf_any (p c h s : Int) (a : Option Addr) (n ca : Nat) (xs : List Int) (b : Option Addr) (m cb : Nat) (ys : List Int) (B : Nat) (w : World) (h1 : Ints w B .i64 a n xs) (h2 : Ints w B .i64 b m ys) (hB : B ≤ w.heap.size) (hn : n ≤ 1048576) (hm : m ≤ 1048576) :
    Calls Try.prog 37 #[vrV p c h s, bdV a n ca b m cb] w fun e w' => LPost (featB p c h s n xs m ys) (bdC p c h s n xs m ys) w e w' := by
  cases hv : boardB p c h s n xs m ys
  · rw [featB_no hv, bdC_no hv]
    go_enter Try.func37, Try.ntmps37
    go_wp2_with fail
    refine (spec_IsBoard_any _ _ _ _ _ _ _ _ _ _ _ _ B _ (vb_ints h1 hB) (vb_ints h2 hB) (vb_size hB) hn hm).mono ?_
    rw [hv]
    rintro e v ⟨rfl, hb⟩
    obtain ⟨R0, R1, HB0, hz⟩ := vb_after hb
    go_wp2_with fail
    go_ret2
    exact .of_nil rfl rfl HB0
  · obtain ⟨P, hP, _⟩ := boardB_out hv
    subst hP
    obtain ⟨H, hH, _⟩ := boardB_home hv
    subst hH
    rw [featB_yes hv, bdC_yes hv]
    go_enter Try.func37, Try.ntmps37
    go_wp2_with fail
    refine (spec_IsBoard_any _ _ _ _ _ _ _ _ _ _ _ _ B _ (vb_ints h1 hB) (vb_ints h2 hB) (vb_size hB) hn hm).mono ?_
    rw [hv]
    rintro e v ⟨rfl, hb⟩
    obtain ⟨R0, R1, HB0, hz⟩ := vb_after hb
    have hzB : B ≤ v.heap.size := by omega
    have k1 : Ints v B .i64 a n xs := (vb_ints h1 hB).below (hb.mono (vb_size hB))
    have k2 : Ints v B .i64 b m ys := (vb_ints h2 hB).below (hb.mono (vb_size hB))
    obtain ⟨c0, c1, c2, c3⟩ := vr4_cells R0
    obtain ⟨d0, d1⟩ := pr_cells R1
    have FF := Lib.hid (l22Features_any P H c s _ _ ca _ _ _ cb _ B v k1 k2 hzB hn hm hv)
    clear hb R0 R1 hv
    go_wp2_with fail
    refine FF.out.mono ?_
    rintro e v2 ⟨sl, rfl, hg, hb2⟩
    have HG := Lib.hid hg
    clear hg
    go_wp2_with fail
    go_ret2
    exact .of_grows rfl HG.out (by omega) (HB0.trans (hb2.mono HB0.size))
end Go.Proofs.Ytoolggmomlmnbaa
