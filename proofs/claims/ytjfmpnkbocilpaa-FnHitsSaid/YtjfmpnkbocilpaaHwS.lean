/-
  stepFrom of the program.
-/
import Derived.Test.YtjfmpnkbocilpaaHwO
namespace Go.Proofs.Ytjfmpnkbocilpaa
open Go.ChangeShapes Go.WideShapes Go.ChangeAt Go.RowKit
set_option linter.unusedVariables false

def stV (s : St) : Value := .agg #[.int .i64 s.fr, .int .i64 s.to, .int .i64 s.die, .bool s.hit]
def stR (o : Option St) : Value := .tuple #[stV (o.getD ⟨0, 0, 0, false⟩), .bool o.isSome]
theorem stF_0 {P H die fr : Int} {own oth : List Int} (h : own.getD fr.toNat 0 = 0 ∨ (0 < own.getD P.toNat 0 ∧ fr ≠ P)) : stF P H own oth die fr = none := by unfold stF; rw [if_pos h]
theorem stF_1 {P H die fr : Int} {own oth : List Int} (h : ¬ (own.getD fr.toNat 0 = 0 ∨ (0 < own.getD P.toNat 0 ∧ fr ≠ P))) (h1 : 0 ≤ fr - die) (h2 : ¬ oth.getD (P - 1 - (fr - die)).toNat 0 ≤ 1) : stF P H own oth die fr = none := by unfold stF; rw [if_neg h, if_pos h1, if_neg h2]
theorem stF_2 {P H die fr : Int} {own oth : List Int} (h : ¬ (own.getD fr.toNat 0 = 0 ∨ (0 < own.getD P.toNat 0 ∧ fr ≠ P))) (h1 : 0 ≤ fr - die) (h2 : oth.getD (P - 1 - (fr - die)).toNat 0 ≤ 1) : stF P H own oth die fr = some ⟨fr, fr - die, die, decide (oth.getD (P - 1 - (fr - die)).toNat 0 = 1)⟩ := by unfold stF; rw [if_neg h, if_pos h1, if_pos h2]
theorem stF_3 {P H die fr : Int} {own oth : List Int} (h : ¬ (own.getD fr.toNat 0 = 0 ∨ (0 < own.getD P.toNat 0 ∧ fr ≠ P))) (h1 : ¬ 0 ≤ fr - die) (h2 : H ≤ lastP own (P.toNat + 1) ∨ (fr ≠ die - 1 ∧ fr < lastP own (P.toNat + 1))) : stF P H own oth die fr = none := by unfold stF; rw [if_neg h, if_neg h1, if_pos h2]
theorem stF_4 {P H die fr : Int} {own oth : List Int} (h : ¬ (own.getD fr.toNat 0 = 0 ∨ (0 < own.getD P.toNat 0 ∧ fr ≠ P))) (h1 : ¬ 0 ≤ fr - die) (h2 : ¬ (H ≤ lastP own (P.toNat + 1) ∨ (fr ≠ die - 1 ∧ fr < lastP own (P.toNat + 1)))) : stF P H own oth die fr = some ⟨fr, -1, die, false⟩ := by unfold stF; rw [if_neg h, if_neg h1, if_neg h2]
theorem v4_put {w : World} {g t : Nat} {f : Nat → Value} (h : w.rowIs g t 4 f) (p q r s : Value) : ((((w.setCell ⟨g, 0, none⟩ p).setCell ⟨g, 1, none⟩ q).setCell ⟨g, 2, none⟩ r).setCell ⟨g, 3, none⟩ s).rowIs g t 4 (vr4 p q r s) :=
  ((((h.set 0 _).set 1 _).set 2 _).set 3 _).congr (fun j hj => by
    match j, hj with
    | 0, _ => rfl
    | 1, _ => rfl
    | 2, _ => rfl
    | 3, _ => rfl)
set_option maxRecDepth 16000 in
set_option maxHeartbeats 3200000 in
theorem stepFrom_any (P : Nat) (c H s : Int) (a : Option Addr) (n ca : Nat) (xs : List Int) (b : Option Addr) (m cb : Nat) (ys : List Int) (F : Nat) (die : Int) (B : Nat) (w : World) (h1 : Ints w B .i64 a n xs) (h2 : Ints w B .i64 b m ys) (hB : B ≤ w.heap.size) (hP0 : 1 ≤ P) (hP : P ≤ 24) (hn : n = P + 1) (hm : m = P + 1) (hF : F ≤ P) (d0 : 1 ≤ die) (d1 : die ≤ 6) (hX : ∀ i, i < n → 0 ≤ xs.getD i 0 ∧ xs.getD i 0 ≤ 15) :
    Calls Try.prog 52 #[vrV P c H s, bdV a n ca b m cb, .int .i64 F, .int .i64 die] w fun e w' => e = .returned (stR (stF P H xs ys die F)) ∧ Below w.heap.size w w' := by
  obtain ⟨ga, oa, rfl, hga, hca⟩ := h1.2 (by omega)
  obtain ⟨gb, ob, rfl, hgb, hcb⟩ := h2.2 (by omega)
  have HB0 := ((Below.refl w.heap.size w).alloc (Nat.le_refl _) (.cells #[.int .i64 P, .int .i64 c, .int .i64 H, .int .i64 s] 30)).alloc (by simp) (.cells #[.slice (some ⟨ga, oa, none⟩) n ca, .slice (some ⟨gb, ob, none⟩) m cb] 32)
  have HBB := ((Below.refl B w).alloc hB (.cells #[.int .i64 P, .int .i64 c, .int .i64 H, .int .i64 s] 30)).alloc (by simp; omega) (.cells #[.slice (some ⟨ga, oa, none⟩) n ca, .slice (some ⟨gb, ob, none⟩) m cb] 32)
  have R0 := Lib.hid ((vr4_new w (.int .i64 P) (.int .i64 c) (.int .i64 H) (.int .i64 s) 30).alloc (.cells #[.slice (some ⟨ga, oa, none⟩) n ca, .slice (some ⟨gb, ob, none⟩) m cb] 32))
  have r1 := pr_new (w.alloc (.cells #[.int .i64 P, .int .i64 c, .int .i64 H, .int .i64 s] 30)) (.slice (some ⟨ga, oa, none⟩) n ca) (.slice (some ⟨gb, ob, none⟩) m cb) 32
  simp only [World.size_alloc] at r1
  have R1 := Lib.hid r1
  clear r1
  have k1 := Lib.hid (h1.below HBB)
  have k2 := Lib.hid (h2.below HBB)
  have cf := (HBB.cell (p := ⟨ga, oa + F, none⟩) hga).trans (hca F (by omega))
  have cp := (HBB.cell (p := ⟨ga, oa + P, none⟩) hga).trans (hca P (by omega))
  have xf := hX F (by omega)
  have xp := hX P (by omega)
  have hFx : xs.getD ((F : Int)).toNat 0 = xs.getD F 0 := by rw [Int.toNat_natCast]
  have hPx : xs.getD ((P : Int)).toNat 0 = xs.getD P 0 := by rw [Int.toNat_natCast]
  have S0 := Lib.hid (stF_0 (P := P) (H := H) (die := die) (fr := F) (own := xs) (oth := ys))
  rw [hFx, hPx] at S0
  obtain ⟨x, hx⟩ : ∃ x, xs.getD F 0 = x := ⟨_, rfl⟩
  obtain ⟨z, hz⟩ : ∃ z, xs.getD P 0 = z := ⟨_, rfl⟩
  rw [hx] at cf xf S0
  rw [hz] at cp xp S0
  have HBH := Lib.hid HB0
  have CY := Lib.hid (fun k (hk : k < m) => (HBB.cell (p := ⟨gb, ob + k, none⟩) hgb).trans (hcb k hk))
  clear HB0 HBB hca hcb h1 h2
  obtain ⟨c0, c1, c2, c3⟩ := vr4_cells R0.out
  obtain ⟨d0', d1'⟩ := pr_cells R1.out
  have Fn : (F : Int) < (n : Int) := by omega
  have gaw : ga < w.heap.size := by omega
  have gaw2 : ga < w.heap.size + 1 := by omega
  have gaw3 : ga < w.heap.size + 1 + 1 := by omega
  have Pn : (P : Int) < (n : Int) := by omega
  by_cases hx0 : x = 0
  · subst hx0
    have E := Lib.hid (S0.out (.inl rfl))
    clear S0 hx hz hFx hPx hn hm cp xp
    go_enter Try.func52, Try.ntmps52
    go_wp2_with fail
    obtain ⟨z0, z1, z2, z3⟩ := vr4_cells (vr4_new ((w.alloc (.cells #[.int .i64 P, .int .i64 c, .int .i64 H, .int .i64 s] 30)).alloc (.cells #[.slice (some ⟨ga, oa, none⟩) n ca, .slice (some ⟨gb, ob, none⟩) m cb] 32)) (.int .i64 0) (.int .i64 0) (.int .i64 0) (.bool false) 72)
    simp only [World.size_alloc] at z0 z1 z2 z3
    exact bodyPost_ret (v := .tuple #[.agg #[.int .i64 0, .int .i64 0, .int .i64 0, .bool false], .bool false]) (by simp [results, Try.results52, go_sem, z0, z1, z2, z3]) rfl ⟨by rw [E.out]; rfl, HBH.out.alloc HBH.out.size _⟩
  have hxe : (x == 0) = false := by simpa using hx0
  by_cases hzF : 0 < z ∧ F ≠ P
  · have E := Lib.hid (S0.out (.inr ⟨hzF.1, by omega⟩))
    obtain ⟨hz1, hF1⟩ := hzF
    have hzd : decide (0 < z) = true := decide_eq_true hz1
    have hFe : ((F : Int) == (P : Int)) = false := by rw [beq_eq_false_iff_ne]; omega
    have hFn : ((F : Int) != (P : Int)) = true := by rw [bne, hFe]; rfl
    have hFd : ¬ (F : Int) = (P : Int) := by omega
    clear S0 hx hz hFx hPx hn hm hF1
    go_enter Try.func52, Try.ntmps52
    go_wp2_with fail
    obtain ⟨z0, z1, z2, z3⟩ := vr4_cells (vr4_new ((w.alloc (.cells #[.int .i64 P, .int .i64 c, .int .i64 H, .int .i64 s] 30)).alloc (.cells #[.slice (some ⟨ga, oa, none⟩) n ca, .slice (some ⟨gb, ob, none⟩) m cb] 32)) (.int .i64 0) (.int .i64 0) (.int .i64 0) (.bool false) 72)
    simp only [World.size_alloc] at z0 z1 z2 z3
    exact bodyPost_ret (v := .tuple #[.agg #[.int .i64 0, .int .i64 0, .int .i64 0, .bool false], .bool false]) (by simp [results, Try.results52, go_sem, z0, z1, z2, z3]) rfl ⟨by rw [E.out]; rfl, HBH.out.alloc HBH.out.size _⟩
  have hS : ¬ (xs.getD ((F : Int)).toNat 0 = 0 ∨ (0 < xs.getD ((P : Int)).toNat 0 ∧ (F : Int) ≠ P)) := by
    rw [hFx, hPx, hx, hz]
    rintro (h | ⟨h, h'⟩)
    · exact hx0 h
    · exact hzF ⟨h, by omega⟩
  have S1 := Lib.hid (stF_1 (H := H) (die := die) (oth := ys) hS)
  have S2 := Lib.hid (stF_2 (H := H) (die := die) (oth := ys) hS)
  have S3 := Lib.hid (stF_3 (H := H) (die := die) (oth := ys) hS)
  have S4 := Lib.hid (stF_4 (H := H) (die := die) (oth := ys) hS)
  have HN := Lib.hid hn
  have HM := Lib.hid hm
  clear S0 hS hFx hPx hx hz hn hm
  have wt : IntKind.i64.wrap ((F : Int) - die) = (F : Int) - die := IntWalk.i64_in _ (by omega)
  have hgd : (decide (0 < z) = false) ∨ (decide (0 < z) = true ∧ ((F : Int) != (P : Int)) = false) := by
    by_cases h : 0 < z
    · refine .inr ⟨decide_eq_true h, ?_⟩
      have : F = P := Classical.byContradiction fun h' => hzF ⟨h, h'⟩
      rw [this, bne, beq_self_eq_true]; rfl
    · exact .inl (decide_eq_false h)
  clear hzF
  go_enter Try.func52, Try.ntmps52
  rcases hgd with hz1 | ⟨hz1, hz2⟩
  all_goals
    by_cases ht : 0 ≤ (F : Int) - die
    · have k3 := Lib.hid (((Below.refl B ((w.alloc (.cells #[.int .i64 P, .int .i64 c, .int .i64 H, .int .i64 s] 30)).alloc (.cells #[.slice (some ⟨ga, oa, none⟩) n ca, .slice (some ⟨gb, ob, none⟩) m cb] 32))).alloc (by simp; omega) (.cells #[.int .i64 0, .int .i64 0, .int .i64 0, .bool false] 72)))
      have HO := Lib.hid (openPoint_any P c H s (some ⟨ga, oa, none⟩) n ca (some ⟨gb, ob, none⟩) m cb ys ((F : Int) - die) B _ (k2.out.below k3.out) (by simp; omega) hP HM.out ht (by omega))
      have Z0 := Lib.hid (vr4_new ((w.alloc (.cells #[.int .i64 P, .int .i64 c, .int .i64 H, .int .i64 s] 30)).alloc (.cells #[.slice (some ⟨ga, oa, none⟩) n ca, .slice (some ⟨gb, ob, none⟩) m cb] 32)) (.int .i64 0) (.int .i64 0) (.int .i64 0) (.bool false) 72)
      simp only [World.size_alloc] at Z0
      have R03 := Lib.hid (R0.out.alloc (.cells #[.int .i64 0, .int .i64 0, .int .i64 0, .bool false] 72))
      have R13 := Lib.hid (R1.out.alloc (.cells #[.int .i64 0, .int .i64 0, .int .i64 0, .bool false] 72))
      have HB3 := Lib.hid (HBH.out.alloc HBH.out.size (.cells #[.int .i64 0, .int .i64 0, .int .i64 0, .bool false] 72))
      obtain ⟨k, hk⟩ : ∃ k : Nat, ((P : Int) - 1 - ((F : Int) - die)).toNat = k := ⟨_, rfl⟩
      have w1 : IntKind.i64.wrap ((P : Int) - 1) = (P : Int) - 1 := IntWalk.i64_in _ (by omega)
      have w2 : IntKind.i64.wrap ((P : Int) - 1 - ((F : Int) - die)) = (k : Int) := by rw [IntWalk.i64_in _ (by omega)]; omega
      have km : (k : Int) < (m : Int) := by have := HM.out; omega
      have CK := Lib.hid (CY.out k (by omega))
      rw [hk] at HO
      have S2' := S2
      have S1' := S1
      replace S2' := Lib.hid (S2'.out ht)
      replace S1' := Lib.hid (S1'.out ht)
      rw [hk] at S2' S1'
      clear hk
      obtain ⟨y, hyy⟩ : ∃ y, ys.getD k 0 = y := ⟨_, rfl⟩
      rw [hyy] at HO CK S1' S2'
      clear hyy
      by_cases hy : y ≤ 1
      · have E := Lib.hid (S2'.out hy)
        rw [decide_eq_true hy] at HO
        go_wp2_with fail
        refine HO.out.mono ?_
        rintro e w1 ⟨rfl, hb1⟩
        have Z1 := Lib.hid (rowIs_below Z0.out hb1 Z0.out.lt)
        have R04 := Lib.hid (rowIs_below R03.out hb1 R03.out.lt)
        have R14 := Lib.hid (rowIs_below R13.out hb1 R13.out.lt)
        have HB4 := Lib.hid (HB3.out.trans (hb1.mono HB3.out.size))
        have k5 := Lib.hid ((k2.out.below k3.out).below (hb1.mono (by simp; omega)))
        have ck := ((k3.out.trans (hb1.mono (by simp; omega))).cell (p := ⟨gb, ob + k, none⟩) hgb).trans CK.out
        clear hb1
        obtain ⟨c0, c1, c2, c3⟩ := vr4_cells R04.out
        obtain ⟨d0', d1'⟩ := pr_cells R14.out
        obtain ⟨z0, z1, z2, z3⟩ := vr4_cells Z1.out
        have f0 := Z1.out.frozen 0
        have f1 := Z1.out.frozen 1
        have f2 := Z1.out.frozen 2
        have f3 := Z1.out.frozen 3
        go_wp2_with fail
        obtain ⟨q0, q1, q2, q3⟩ := vr4_cells (v4_put Z1.out (.int .i64 F) (.int .i64 ((F : Int) - die)) (.int .i64 die) (.bool (y == 1)))
        exact bodyPost_ret (v := .tuple #[.agg #[.int .i64 F, .int .i64 ((F : Int) - die), .int .i64 die, .bool (y == 1)], .bool true]) (by simp [results, Try.results52, go_sem, q0, q1, q2, q3]) rfl ⟨by rw [E.out]; rfl, (((HB4.out.setCell (by show w.heap.size ≤ w.heap.size + 1 + 1; omega) _).setCell (by show w.heap.size ≤ w.heap.size + 1 + 1; omega) _).setCell (by show w.heap.size ≤ w.heap.size + 1 + 1; omega) _).setCell (by show w.heap.size ≤ w.heap.size + 1 + 1; omega) _⟩
      · have E := Lib.hid (S1'.out hy)
        rw [decide_eq_false hy] at HO
        go_wp2_with fail
        refine HO.out.mono ?_
        rintro e w1 ⟨rfl, hb1⟩
        have Z1 := Lib.hid (rowIs_below Z0.out hb1 Z0.out.lt)
        have R04 := Lib.hid (rowIs_below R03.out hb1 R03.out.lt)
        have R14 := Lib.hid (rowIs_below R13.out hb1 R13.out.lt)
        have HB4 := Lib.hid (HB3.out.trans (hb1.mono HB3.out.size))
        have k5 := Lib.hid ((k2.out.below k3.out).below (hb1.mono (by simp; omega)))
        have ck := ((k3.out.trans (hb1.mono (by simp; omega))).cell (p := ⟨gb, ob + k, none⟩) hgb).trans CK.out
        clear hb1
        obtain ⟨c0, c1, c2, c3⟩ := vr4_cells R04.out
        obtain ⟨d0', d1'⟩ := pr_cells R14.out
        obtain ⟨z0, z1, z2, z3⟩ := vr4_cells Z1.out
        have f0 := Z1.out.frozen 0
        have f1 := Z1.out.frozen 1
        have f2 := Z1.out.frozen 2
        have f3 := Z1.out.frozen 3
        go_wp2_with fail
        obtain ⟨q0, q1, q2, q3⟩ := vr4_cells (v4_put Z1.out (.int .i64 0) (.int .i64 0) (.int .i64 0) (.bool false))
        first
          | exact bodyPost_ret (v := .tuple #[.agg #[.int .i64 0, .int .i64 0, .int .i64 0, .bool false], .bool false]) (by simp [results, Try.results52, go_sem, q0, q1, q2, q3]) rfl ⟨by rw [E.out]; rfl, (((HB4.out.setCell (by show w.heap.size ≤ w.heap.size + 1 + 1; omega) _).setCell (by show w.heap.size ≤ w.heap.size + 1 + 1; omega) _).setCell (by show w.heap.size ≤ w.heap.size + 1 + 1; omega) _).setCell (by show w.heap.size ≤ w.heap.size + 1 + 1; omega) _⟩
          | exact bodyPost_ret (v := .tuple #[.agg #[.int .i64 0, .int .i64 0, .int .i64 0, .bool false], .bool false]) (by simp [results, Try.results52, go_sem, z0, z1, z2, z3]) rfl ⟨by rw [E.out]; rfl, HB4.out⟩
    · have htd : decide (0 ≤ (F : Int) - die) = false := decide_eq_false ht
      have k3 := Lib.hid (((Below.refl B ((w.alloc (.cells #[.int .i64 P, .int .i64 c, .int .i64 H, .int .i64 s] 30)).alloc (.cells #[.slice (some ⟨ga, oa, none⟩) n ca, .slice (some ⟨gb, ob, none⟩) m cb] 32))).alloc (by simp; omega) (.cells #[.int .i64 0, .int .i64 0, .int .i64 0, .bool false] 72)))
      have HL := Lib.hid (highest_any (some ⟨ga, oa, none⟩) n ca xs B _ (k1.out.below k3.out) (by have := HN.out; omega) (by have := HN.out; omega))
      have hLn : lastP xs ((P : Int).toNat + 1) = lastP xs n := by rw [Int.toNat_natCast, HN.out]
      have S3' := Lib.hid (S3.out ht)
      have S4' := Lib.hid (S4.out ht)
      rw [hLn] at S3' S4'
      obtain ⟨l1, l2⟩ := lastP_bd xs n
      obtain ⟨L, hL⟩ : ∃ L, lastP xs n = L := ⟨_, rfl⟩
      rw [hL] at HL S3' S4' l1 l2
      have HB3 := Lib.hid (HBH.out.alloc HBH.out.size (.cells #[.int .i64 0, .int .i64 0, .int .i64 0, .bool false] 72))
      have Z0 := Lib.hid (vr4_new ((w.alloc (.cells #[.int .i64 P, .int .i64 c, .int .i64 H, .int .i64 s] 30)).alloc (.cells #[.slice (some ⟨ga, oa, none⟩) n ca, .slice (some ⟨gb, ob, none⟩) m cb] 32)) (.int .i64 0) (.int .i64 0) (.int .i64 0) (.bool false) 72)
      simp only [World.size_alloc] at Z0
      clear hL hLn
      have wd : IntKind.i64.wrap (die - 1) = die - 1 := IntWalk.i64_in _ (by omega)
      obtain ⟨z0, z1, z2, z3⟩ := vr4_cells Z0.out
      have f0 := Z0.out.frozen 0
      have f1 := Z0.out.frozen 1
      have f2 := Z0.out.frozen 2
      have f3 := Z0.out.frozen 3
      by_cases hH : H ≤ L
      · have E := Lib.hid (S3'.out (.inl hH))
        have hHd : decide (H ≤ L) = true := decide_eq_true hH
        go_wp2_with fail
        refine HL.out.mono ?_
        rintro e w1 ⟨rfl, rfl⟩
        go_wp2_with fail
        obtain ⟨q0, q1, q2, q3⟩ := vr4_cells (v4_put Z0.out (.int .i64 0) (.int .i64 0) (.int .i64 0) (.bool false))
        first
          | exact bodyPost_ret (v := .tuple #[.agg #[.int .i64 0, .int .i64 0, .int .i64 0, .bool false], .bool false]) (by simp [results, Try.results52, go_sem, q0, q1, q2, q3]) rfl ⟨by rw [E.out]; rfl, (((HB3.out.setCell (by show w.heap.size ≤ w.heap.size + 1 + 1; omega) _).setCell (by show w.heap.size ≤ w.heap.size + 1 + 1; omega) _).setCell (by show w.heap.size ≤ w.heap.size + 1 + 1; omega) _).setCell (by show w.heap.size ≤ w.heap.size + 1 + 1; omega) _⟩
          | exact bodyPost_ret (v := .tuple #[.agg #[.int .i64 0, .int .i64 0, .int .i64 0, .bool false], .bool false]) (by simp [results, Try.results52, go_sem, z0, z1, z2, z3]) rfl ⟨by rw [E.out]; rfl, HB3.out⟩
      · have hHd : decide (H ≤ L) = false := decide_eq_false hH
        have cases3 : (((F : Int) != die - 1) = false ∧ ¬ ((F : Int) ≠ die - 1)) ∨ (((F : Int) != die - 1) = true ∧ (F : Int) ≠ die - 1 ∧ decide ((F : Int) < L) = true ∧ (F : Int) < L) ∨ (((F : Int) != die - 1) = true ∧ decide ((F : Int) < L) = false ∧ ¬ (F : Int) < L) := by
          by_cases e1 : (F : Int) = die - 1
          · exact .inl ⟨by rw [e1]; simp, fun h => h e1⟩
          · by_cases e2 : (F : Int) < L
            · exact .inr (.inl ⟨by simpa using e1, e1, decide_eq_true e2, e2⟩)
            · exact .inr (.inr ⟨by simpa using e1, decide_eq_false e2, e2⟩)
        rcases cases3 with ⟨e1, n1⟩ | ⟨e1, n1, e2, n2⟩ | ⟨e1, e2, n2⟩
        · have E := Lib.hid (S4'.out (fun h => h.elim hH (fun h => n1 h.1)))
          clear n1
          go_wp2_with fail
          refine HL.out.mono ?_
          rintro e w1 ⟨rfl, rfl⟩
          go_wp2_with fail
          obtain ⟨y0, y1, y2, y3⟩ := vr4_cells (vr4_new ((w.alloc (.cells #[.int .i64 P, .int .i64 c, .int .i64 H, .int .i64 s] 30)).alloc (.cells #[.slice (some ⟨ga, oa, none⟩) n ca, .slice (some ⟨gb, ob, none⟩) m cb] 32)) (.int .i64 F) (.int .i64 (-1)) (.int .i64 die) (.bool false) 72)
          simp only [World.size_alloc] at y0 y1 y2 y3
          exact bodyPost_ret (v := .tuple #[.agg #[.int .i64 F, .int .i64 (-1), .int .i64 die, .bool false], .bool true]) (by simp [results, Try.results52, go_sem, y0, y1, y2, y3]) rfl ⟨by rw [E.out]; rfl, HBH.out.alloc HBH.out.size _⟩
        · have E := Lib.hid (S3'.out (.inr ⟨n1, n2⟩))
          clear n1
          go_wp2_with fail
          refine HL.out.mono ?_
          rintro e w1 ⟨rfl, rfl⟩
          go_wp2_with fail
          obtain ⟨q0, q1, q2, q3⟩ := vr4_cells (v4_put Z0.out (.int .i64 0) (.int .i64 0) (.int .i64 0) (.bool false))
          first
          | exact bodyPost_ret (v := .tuple #[.agg #[.int .i64 0, .int .i64 0, .int .i64 0, .bool false], .bool false]) (by simp [results, Try.results52, go_sem, q0, q1, q2, q3]) rfl ⟨by rw [E.out]; rfl, (((HB3.out.setCell (by show w.heap.size ≤ w.heap.size + 1 + 1; omega) _).setCell (by show w.heap.size ≤ w.heap.size + 1 + 1; omega) _).setCell (by show w.heap.size ≤ w.heap.size + 1 + 1; omega) _).setCell (by show w.heap.size ≤ w.heap.size + 1 + 1; omega) _⟩
          | exact bodyPost_ret (v := .tuple #[.agg #[.int .i64 0, .int .i64 0, .int .i64 0, .bool false], .bool false]) (by simp [results, Try.results52, go_sem, z0, z1, z2, z3]) rfl ⟨by rw [E.out]; rfl, HB3.out⟩
        · have E := Lib.hid (S4'.out (fun h => h.elim hH (fun h => n2 h.2)))
          go_wp2_with fail
          refine HL.out.mono ?_
          rintro e w1 ⟨rfl, rfl⟩
          go_wp2_with fail
          obtain ⟨y0, y1, y2, y3⟩ := vr4_cells (vr4_new ((w.alloc (.cells #[.int .i64 P, .int .i64 c, .int .i64 H, .int .i64 s] 30)).alloc (.cells #[.slice (some ⟨ga, oa, none⟩) n ca, .slice (some ⟨gb, ob, none⟩) m cb] 32)) (.int .i64 F) (.int .i64 (-1)) (.int .i64 die) (.bool false) 72)
          simp only [World.size_alloc] at y0 y1 y2 y3
          exact bodyPost_ret (v := .tuple #[.agg #[.int .i64 F, .int .i64 (-1), .int .i64 die, .bool false], .bool true]) (by simp [results, Try.results52, go_sem, y0, y1, y2, y3]) rfl ⟨by rw [E.out]; rfl, HBH.out.alloc HBH.out.size _⟩
end Go.Proofs.Ytjfmpnkbocilpaa
