/-
  The order of a list of exact numbers: the plain side; the comparison that impl.WorstChoices hands to the sort; impl.checkExacts.
-/
import Derived.Test.YtmhmhbiihcdgiaaDecC
import Derived.Test.YtmhmhbiihcdgiaaCxW
import Derived.Test.YtmhmhbiihcdgiaaCxP
import Derived.Test.YtmhmhbiihcdgiaaSmU
namespace Go.Proofs.Ytmhmhbiihcdgiaa
open Go.ChangeShapes Go.WideShapes Go.ChangeAt Go.RowKit Go.Deep
set_option linter.unusedVariables false

/-- exact number i of a list, over one common denominator -/
def keyF (B : Int) (xs : List Int) (i : Int) : Int := xs.getD (i.toNat * 2) 0 * pw B (24 - (xs.getD (i.toNat * 2 + 1) 0).toNat)
/-- index a comes ahead of index b: the greater number first, equal ones in order -/
def wcL (B : Int) (xs : List Int) (a b : Int) : Bool := decide (keyF B xs b < keyF B xs a) || (decide (keyF B xs a = keyF B xs b) && decide (a < b))
theorem wcL_true {B : Int} {xs : List Int} {a b : Int} : wcL B xs a b = true ↔ (keyF B xs b < keyF B xs a ∨ (keyF B xs a = keyF B xs b ∧ a < b)) := by
  unfold wcL
  simp only [Bool.or_eq_true, Bool.and_eq_true, decide_eq_true_eq]
theorem wcL_tot (B : Int) (xs : List Int) : STot (wcL B xs) := by
  refine ⟨fun x => ?_, fun x y z h1 h2 => ?_, fun x y h1 h2 => ?_⟩
  · cases h : wcL B xs x x
    · rfl
    · rw [wcL_true] at h; omega
  · rw [wcL_true] at h1 h2 ⊢; omega
  · have : ¬ (wcL B xs x y = true) := by rw [h2]; exact Bool.false_ne_true
    rw [wcL_true] at this
    rw [wcL_true]; omega
theorem key_cmp {B n1 n2 : Int} {d1 d2 : Nat} (hB : 1 ≤ B) (h1 : d1 ≤ 24) (h2 : d2 ≤ 24) : (n1 * pw B d2 < n2 * pw B d1 ↔ n1 * pw B (24 - d1) < n2 * pw B (24 - d2)) := by
  have a1 : pw B d1 * pw B (24 - d1) = pw B 24 := by rw [← pw_add, show d1 + (24 - d1) = 24 by omega]
  have a2 : pw B d2 * pw B (24 - d2) = pw B 24 := by rw [← pw_add, show d2 + (24 - d2) = 24 by omega]
  have p1 := pw_pos hB d1
  have p2 := pw_pos hB d2
  have p3 := pw_pos hB (24 - d1)
  have p4 := pw_pos hB (24 - d2)
  have p5 := pw_pos hB 24
  have e1 : n1 * pw B (24 - d1) * (pw B d1 * pw B d2) = n1 * pw B d2 * pw B 24 := by rw [← a1]; ac_rfl
  have e2 : n2 * pw B (24 - d2) * (pw B d1 * pw B d2) = n2 * pw B d1 * pw B 24 := by rw [← a2]; ac_rfl
  have pp : 0 < pw B d1 * pw B d2 := Int.mul_pos (by omega) (by omega)
  constructor
  · intro h
    have := Int.mul_lt_mul_of_pos_right h (show 0 < pw B 24 by omega)
    rw [← e1, ← e2] at this
    exact Int.lt_of_mul_lt_mul_right this (by omega)
  · intro h
    have := Int.mul_lt_mul_of_pos_right h pp
    rw [e1, e2] at this
    exact Int.lt_of_mul_lt_mul_right this (by omega)
theorem cmpS_neg {a b c d : Int} : cmpS a b c d < 0 ↔ a * d < c * b := by
  rcases Int.lt_trichotomy (a * d) (c * b) with h | h | h
  · rw [cmpS_lt h]; omega
  · rw [cmpS_eq h]; omega
  · rw [cmpS_gt h]; omega
/-- list of exact numbers that are all valid -/
def ExL (s : Int) (n : Nat) (xs : List Int) : Prop := ∀ i, i < n → exB s (xs.getD (i * 2) 0) (xs.getD (i * 2 + 1) 0) = true
theorem exA_all {s : Int} {xs : List Int} : ∀ n, exA s xs n = true → ExL s n xs
  | 0, _ => fun i hi => absurd hi (by omega)
  | n + 1, h => fun i hi => by
    rw [exA, Bool.and_eq_true] at h
    by_cases e : i = n
    · subst e; exact h.2
    · exact exA_all n h.1 i (by omega)
/-- what the comparison of two of them says -/
theorem ExL.cmp {s : Int} {n : Nat} {xs : List Int} (h : ExL s n xs) (s1 : 1 ≤ s) (s6 : s ≤ 6) {i j : Nat} (hi : i < n) (hj : j < n) :
    ∃ q1 q2, ExK s (xs.getD (i * 2) 0) (xs.getD (i * 2 + 1) 0) q1 ∧ ExK s (xs.getD (j * 2) 0) (xs.getD (j * 2 + 1) 0) q2 ∧ q1 = pw (s * s) (xs.getD (i * 2 + 1) 0).toNat ∧ q2 = pw (s * s) (xs.getD (j * 2 + 1) 0).toNat ∧
      (cmpS (xs.getD (i * 2) 0) q1 (xs.getD (j * 2) 0) q2 < 0 ↔ keyF (s * s) xs i < keyF (s * s) xs j) := by
  obtain ⟨q1, K1, e1⟩ := exK_of s1 s6 (h i hi)
  obtain ⟨q2, K2, e2⟩ := exK_of s1 s6 (h j hj)
  refine ⟨q1, q2, K1, K2, e1, e2, ?_⟩
  have b1 := (sq_bd s1 s6).1
  rw [cmpS_neg, e1, e2, key_cmp b1 (by have := K1.d1; omega) (by have := K2.d1; omega)]
  unfold keyF
  rw [Int.toNat_natCast, Int.toNat_natCast]
def chN (p c h s : Int) (n : Nat) (xs : List Int) : Int := if vrB p c h s then (if exA s xs n then 0 else 2) else 1
set_option maxHeartbeats 1600000 in
theorem checkExactsN_any (p c h s : Int) (b off n cap : Nat) (xs : List Int) (w : World) (hn : n ≤ 1000) (hb : b < w.heap.size) (hc0 : ∀ i, i < n * 2 → w.cell? ⟨b, off + i, none⟩ = some (.int .i64 (xs.getD i 0))) (hwf : ∀ k, k < n → xs.getD (k * 2 + 1) 0 ≤ 9223372036854775807) :
    Calls Try.prog 24 #[vrV p c h s, .slice (some ⟨b, off, none⟩) n cap] w fun e w' => e = .returned (.int .i64 (chN p c h s n xs)) ∧ Below w.heap.size w w' := by
  have HC := Lib.hid hc0
  have HW := Lib.hid hwf
  clear hc0 hwf
  have HB0 := Lib.hid ((Below.refl w.heap.size w).alloc (Nat.le_refl _) (.cells #[.int .i64 p, .int .i64 c, .int .i64 h, .int .i64 s] 29))
  have R0 := Lib.hid (q4_new w (.int .i64 p) (.int .i64 c) (.int .i64 h) (.int .i64 s) 29)
  obtain ⟨K, hK⟩ : ∃ K, vrB p c h s = K := ⟨_, rfl⟩
  have IV := Lib.hid (fun W => hK ▸ impl_IsVariant_any p c h s W)
  cases K
  · have HV := Lib.hid (show chN p c h s n xs = 1 by rw [chN, hK]; rfl)
    clear hK
    go_enter Try.func24, Try.ntmps24
    obtain ⟨v0, v1, v2, v3⟩ := q4_cells R0.out
    go_wp2_with fail
    (with_reducible refine (IV.out _).mono ?_)
    rintro e w1 ⟨rfl, hb1⟩
    have HB1 := Lib.hid (HB0.out.trans (hb1.mono HB0.out.size))
    clear hb1 v0 v1 v2 v3
    go_wp2_with fail
    go_ret
    exact ⟨ret_int' HV.out, HB1.out⟩
  obtain ⟨_, _, _, s1, s6⟩ := vrB_true.1 hK
  have HV := Lib.hid (show chN p c h s n xs = if exA s xs n then 0 else 2 by rw [chN, hK]; rfl)
  clear hK
  go_enter Try.func24, Try.ntmps24
  obtain ⟨v0, v1, v2, v3⟩ := q4_cells R0.out
  go_wp2_with fail
  (with_reducible refine (IV.out _).mono ?_)
  rintro e w1 ⟨rfl, hb1⟩
  have HB1 := Lib.hid (HB0.out.trans (hb1.mono HB0.out.size))
  have R1 := Lib.hid (rowIs_below R0.out hb1 R0.out.lt)
  clear hb1 v0 v1 v2 v3
  go_wp2_with fail
  go_loopw [12] (fun i wr => ∃ k : Nat, k ≤ n ∧ i = .int .i64 k ∧ Hid (Below w.heap.size w wr) ∧ Hid (wr.rowIs w.heap.size 29 4 (q4 (.int .i64 p) (.int .i64 c) (.int .i64 h) (.int .i64 s))) ∧ Hid (exA s xs k = true)) (fun i _ => n - (intOf i).toNat)
  case atStart => exact ⟨0, by omega, rfl, HB1, R1, Lib.hid rfl⟩
  case round =>
    obtain ⟨k, hk, rfl, HB, HR, hall⟩ := hrel
    by_cases hlt : k < n
    · have hlt' : (k : Int) < (n : Int) := by omega
      obtain ⟨x, y, hx0, hx1, ex, ey⟩ := rec2_at (w := wr) (fun i hi => (HB.out.cell (p := ⟨b, off + i, none⟩) hb).trans (HC.out i hi)) hlt
      have hy : y ≤ 9223372036854775807 := ey.out ▸ HW.out k hlt
      obtain ⟨v0, v1, v2, v3⟩ := q4_cells HR.out
      have hlw : w.heap.size < wr.heap.size := HR.out.lt
      obtain ⟨E, hE⟩ : ∃ E, exB s x y = E := ⟨_, rfl⟩
      have EX := Lib.hid (fun W => hE ▸ isExact_any p c h s x y W s1 s6 hy)
      cases E
      · have HN := Lib.hid (show chN p c h s n xs = 2 by rw [HV.out, exA_no (k := k) (by rw [ex.out, ey.out]; exact hE) n hlt]; rfl)
        clear hE
        go_wp2_with fail
        (with_reducible refine (EX.out _).mono ?_)
        rintro e w2 ⟨rfl, hb2⟩
        have HB2 := Lib.hid ((HB.out.alloc HB.out.size _).trans (hb2.mono (HB.out.alloc HB.out.size _).size))
        clear hb2 v0 v1 v2 v3 hx0 hx1
        go_wp2_with fail
        go_ret
        exact ⟨ret_int' HN.out, HB2.out⟩
      · have HY := Lib.hid (show exA s xs (k + 1) = true by rw [exA, hall.out, ex.out, ey.out, hE]; rfl)
        clear hE
        go_wp2_with fail
        (with_reducible refine (EX.out _).mono ?_)
        rintro e w2 ⟨rfl, hb2⟩
        have HB2 := Lib.hid ((HB.out.alloc HB.out.size _).trans (hb2.mono (HB.out.alloc HB.out.size _).size))
        have HR2 := Lib.hid (rowIs_below (HR.out.alloc _) hb2 (HR.out.alloc _).lt)
        clear hb2 v0 v1 v2 v3 hx0 hx1
        go_wp2_with fail
        go_roundw
        case rel => exact ⟨k + 1, by omega, by go_num, HB2, HR2, HY⟩
        case measure => simp [intOf]; omega
    · obtain rfl : n = k := by omega
      have HN := Lib.hid (show chN p c h s n xs = 0 by rw [HV.out, hall.out]; rfl)
      go_wp2_with fail
      go_ret
      exact ⟨ret_int' HN.out, HB.out⟩
set_option maxHeartbeats 1600000 in
theorem closure_any (p c h s : Int) (b n cap bv bl : Nat) (xs : List Int) (W : World) (s1 : 1 ≤ s) (s6 : s ≤ 6) (hb : b < W.heap.size) (hc : ∀ i, i < n * 2 → W.cell? ⟨b, i, none⟩ = some (.int .i64 (xs.getD i 0))) (hE : ExL s n xs)
    (hv : W.rowIs bv 29 4 (q4 (.int .i64 p) (.int .i64 c) (.int .i64 h) (.int .i64 s))) (hl : W.cell? ⟨bl, 0, none⟩ = some (.slice (some ⟨b, 0, none⟩) n cap)) (hn : n ≤ 1000) (i j : Nat) (hi : i < n) (hj : j < n) (hij : i < j) :
    Calls Try.prog 26 #[.int .i64 j, .int .i64 i, .pointer (some ⟨bv, 0, none⟩), .pointer (some ⟨bl, 0, none⟩)] W fun e w' => ∃ r : Int, e = .returned (.int .i64 r) ∧ decide (r < 0) = wcL (s * s) xs j i ∧ Below W.heap.size W w' := by
  obtain ⟨q1, q2, K1, K2, e1, e2, hk⟩ := hE.cmp s1 s6 hi hj
  have HR := Lib.hid (show decide (cmpS (xs.getD (i * 2) 0) q1 (xs.getD (j * 2) 0) q2 < 0) = wcL (s * s) xs j i by
    rw [Bool.eq_iff_iff, decide_eq_true_eq, wcL_true, hk]
    omega)
  have ci0 := hc (i * 2) (by omega)
  have ci1 := hc (i * 2 + 1) (by omega)
  have cj0 := hc (j * 2) (by omega)
  have cj1 := hc (j * 2 + 1) (by omega)
  obtain ⟨n1, hn1⟩ : ∃ x, xs.getD (i * 2) 0 = x := ⟨_, rfl⟩
  obtain ⟨d1, hd1⟩ : ∃ x, xs.getD (i * 2 + 1) 0 = x := ⟨_, rfl⟩
  obtain ⟨n2, hn2⟩ : ∃ x, xs.getD (j * 2) 0 = x := ⟨_, rfl⟩
  obtain ⟨d2, hd2⟩ : ∃ x, xs.getD (j * 2 + 1) 0 = x := ⟨_, rfl⟩
  rw [hn1] at ci0 K1
  rw [hd1] at ci1 K1
  rw [hn2] at cj0 K2
  rw [hd2] at cj1 K2
  rw [hn1, hn2] at HR
  have CE := Lib.hid (fun W => compareExact_any p c h s n1 d1 n2 d2 q1 q2 W s1 s6 K1 K2)
  have HV := Lib.hid hv
  obtain ⟨v0, v1, v2, v3⟩ := q4_cells hv
  have hin : (i : Int) < n := by omega
  have hjn : (j : Int) < n := by omega
  have HBd : Hid (Below W.heap.size W W.drew) := Lib.hid (below_drewN (Below.refl _ _) 1)
  have D := Lib.hid (show (W.drew.cell? ⟨bv, 0, none⟩ = some (.int .i64 p) ∧ W.drew.cell? ⟨bv, 1, none⟩ = some (.int .i64 c) ∧ W.drew.cell? ⟨bv, 2, none⟩ = some (.int .i64 h) ∧ W.drew.cell? ⟨bv, 3, none⟩ = some (.int .i64 s)) ∧ W.drew.cell? ⟨bl, 0, none⟩ = some (.slice (some ⟨b, 0, none⟩) n cap) ∧ (W.drew.cell? ⟨b, i * 2, none⟩ = some (.int .i64 n1) ∧ W.drew.cell? ⟨b, i * 2 + 1, none⟩ = some (.int .i64 d1)) ∧ W.drew.cell? ⟨b, j * 2, none⟩ = some (.int .i64 n2) ∧ W.drew.cell? ⟨b, j * 2 + 1, none⟩ = some (.int .i64 d2) from ⟨⟨v0, v1, v2, v3⟩, hl, ⟨ci0, ci1⟩, cj0, cj1⟩)
  clear hc hE hk K1 K2 e1 e2 hn1 hd1 hn2 hd2 hv
  go_enter Try.func26, Try.ntmps26
  go_wp2_with fail
  obtain ⟨⟨v0, v1, v2, v3⟩, hl2, ⟨ci0, ci1⟩, cj0, cj1⟩ := D.out
  go_region_held3 (fun w' => w'.cell? ⟨bv, 0, none⟩ = some (.int .i64 p) ∧ w'.cell? ⟨bv, 1, none⟩ = some (.int .i64 c) ∧ w'.cell? ⟨bv, 2, none⟩ = some (.int .i64 h) ∧ w'.cell? ⟨bv, 3, none⟩ = some (.int .i64 s) ∧ w'.cell? ⟨bl, 0, none⟩ = some (.slice (some ⟨b, 0, none⟩) n cap) ∧ w'.cell? ⟨b, i * 2, none⟩ = some (.int .i64 n1) ∧ w'.cell? ⟨b, i * 2 + 1, none⟩ = some (.int .i64 d1) ∧ w'.cell? ⟨b, j * 2, none⟩ = some (.int .i64 n2) ∧ w'.cell? ⟨b, j * 2 + 1, none⟩ = some (.int .i64 d2))
    (go_keep)
    ((go_at_call 27; (with_reducible refine (CE.out _).mono ?_); rintro e w2 ⟨rfl, hb2⟩; have HB2 := Lib.hid (HBd.out.trans hb2); have keep := fun (q : Addr) (u : Value) (h : W.drew.cell? q = some u) => (hb2.cell (p := q) (cell_lt h)).trans h; have v0 := keep _ _ v0; have v1 := keep _ _ v1; have v2 := keep _ _ v2; have v3 := keep _ _ v3; have hl2 := keep _ _ hl2; have ci0 := keep _ _ ci0; have ci1 := keep _ _ ci1; have cj0 := keep _ _ cj0; have cj1 := keep _ _ cj1; clear keep hb2))
  all_goals
    go_wp2_with fail
    go_ret
    exact ⟨_, rfl, HR.out, HB2.out⟩
end Go.Proofs.Ytmhmhbiihcdgiaa
