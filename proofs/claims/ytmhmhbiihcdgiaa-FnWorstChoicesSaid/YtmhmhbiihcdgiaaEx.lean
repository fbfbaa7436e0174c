/-
  Exact numbers: the walks of both packages' scale and validity.
-/
import Derived.Test.YtmhmhbiihcdgiaaExP
import Derived.Deep.RegionHeld3
import Derived.StillTailTactics
import Derived.IntWalk
import Derived.RegionCalls
namespace Go.Proofs.Ytmhmhbiihcdgiaa
open Go.ChangeShapes Go.WideShapes Go.ChangeAt Go.RowKit
set_option linter.unusedVariables false

abbrev exV (num dep : Int) : Value := .agg #[.int .i64 num, .int .i64 dep]
/-- a block of four values -/
def q4 (p q r s : Value) : Nat → Value
  | 0 => p
  | 1 => q
  | 2 => r
  | _ => s
theorem q4_new (w : World) (p q r s : Value) (t : TypeId) : (w.alloc (.cells #[p, q, r, s] t)).rowIs w.heap.size t 4 (q4 p q r s) :=
  World.rowIs_alloc w _ _ _ (fun j hj => by
    match j, hj with
    | 0, _ => rfl
    | 1, _ => rfl
    | 2, _ => rfl
    | 3, _ => rfl)
theorem q4_cells {w : World} {g t : Nat} {p q r s : Value} (h : w.rowIs g t 4 (q4 p q r s)) : w.cell? ⟨g, 0, none⟩ = some p ∧ w.cell? ⟨g, 1, none⟩ = some q ∧ w.cell? ⟨g, 2, none⟩ = some r ∧ w.cell? ⟨g, 3, none⟩ = some s :=
  ⟨h.cell (i := 0) (by omega), h.cell (i := 1) (by omega), h.cell (i := 2) (by omega), h.cell (i := 3) (by omega)⟩
def q2 (p q : Value) : Nat → Value
  | 0 => p
  | _ => q
theorem q2_new (w : World) (p q : Value) (t : TypeId) : (w.alloc (.cells #[p, q] t)).rowIs w.heap.size t 2 (q2 p q) :=
  World.rowIs_alloc w _ _ _ (fun j hj => by
    match j, hj with
    | 0, _ => rfl
    | 1, _ => rfl)
theorem q2_cells {w : World} {g t : Nat} {p q : Value} (h : w.rowIs g t 2 (q2 p q)) : w.cell? ⟨g, 0, none⟩ = some p ∧ w.cell? ⟨g, 1, none⟩ = some q :=
  ⟨h.cell (i := 0) (by omega), h.cell (i := 1) (by omega)⟩
def scP (s dep : Int) (w : World) (e : Ending) (w' : World) : Prop := e = .returned (.tuple #[.int .i64 (scV s dep).1, .bool (scV s dep).2]) ∧ Below w.heap.size w w'
theorem scP_mk {s dep x : Int} {b : Bool} {w w' : World} {e : Ending} (he : e = .returned (.tuple #[.int .i64 x, .bool b])) (h : scV s dep = (x, b)) (hb : Below w.heap.size w w') : scP s dep w e w' := ⟨by rw [h]; exact he, hb⟩

theorem tmod_bd {a b : Int} (hb : 0 < b) : -b < a.tmod b ∧ a.tmod b < b := by
  have h := Int.tmod_lt_of_pos a hb
  have h2 := Int.tmod_lt_of_pos (-a) hb
  rw [Int.neg_tmod] at h2
  omega
theorem baseOf_any (p c h s B : Int) (w : World) (hB : s * s = B) (b1 : 1 ≤ B) (b2 : B ≤ 36) : Calls Try.prog 47 #[vrV p c h s] w fun e w' => e = .returned (.int .i64 B) ∧ Below w.heap.size w w' := by
  go_enter Try.func47, Try.ntmps47
  go_wp2
  go_ret
  exact ⟨rfl, (Below.refl _ _).alloc (Nat.le_refl _) _⟩
theorem l09Base_any (p c h s B : Int) (w : World) (hB : s * s = B) (b1 : 1 ≤ B) (b2 : B ≤ 36) : Calls Try.prog 46 #[vrV p c h s] w fun e w' => e = .returned (.int .i64 B) ∧ Below w.heap.size w w' := by
  go_enter Try.func46, Try.ntmps46
  go_wp2
  go_ret
  exact ⟨rfl, (Below.refl _ _).alloc (Nat.le_refl _) _⟩
set_option maxHeartbeats 1600000 in
theorem scaleOf_any (p c h s dep : Int) (w : World) (s1 : 1 ≤ s) (s6 : s ≤ 6) (d0 : 0 ≤ dep) (d1 : dep ≤ 1000) : Calls Try.prog 40 #[vrV p c h s, .int .i64 dep] w fun e w' => scP s dep w e w' := by
  obtain ⟨b1, b2, b3⟩ := sq_bd s1 s6
  obtain ⟨n, rfl⟩ := Int.eq_ofNat_of_zero_le d0
  have HB0 := (Below.refl w.heap.size w).alloc (Nat.le_refl _) (.cells #[.int .i64 p, .int .i64 c, .int .i64 h, .int .i64 s] 29)
  have R0 := Lib.hid (q4_new w (.int .i64 p) (.int .i64 c) (.int .i64 h) (.int .i64 s) 29)
  obtain ⟨B, hB⟩ : ∃ B, s * s = B := ⟨_, rfl⟩
  have BO := Lib.hid (fun W => baseOf_any p c h s B W hB (hB ▸ b1) (hB ▸ b2))
  by_cases hs : s = 1
  · subst hs
    have hB1 : B = 1 := by rw [← hB]; rfl
    subst hB1
    have HV := Lib.hid (scV_1 (n : Int))
    clear hB
    go_enter Try.func40, Try.ntmps40
    go_wp2_with fail
    refine (BO.out _).mono ?_
    rintro e w1 ⟨rfl, hb1⟩
    go_wp2_with fail
    go_ret2
    exact scP_mk rfl HV.out (HB0.trans (hb1.mono HB0.size))
  · have hs2 : 2 ≤ s := by omega
    rw [hB] at b1 b2 b3
    have hB4 := b3 hs2
    have hBn : (B == 1) = false := by simp; omega
    have HNO := Lib.hid (fun k (hk : k ≤ n) (h : 1000000000000000 < pw B k) => show scV s (n : Int) = (0, false) from scV_no hs2 (by rw [hB]; omega) (by simpa using hk) (by rw [hB]; exact h))
    have HYES := Lib.hid (fun (h : pw B n ≤ 1000000000000000) => show scV s (n : Int) = (pw B n, true) by have := scV_yes (dep := (n : Int)) hs2 (by rw [hB, Int.toNat_natCast]; exact h); rw [hB, Int.toNat_natCast] at this; exact this)
    clear hB b3 hs
    go_enter Try.func40, Try.ntmps40
    obtain ⟨v0, v1, v2, v3⟩ := q4_cells R0.out
    go_wp2_with fail
    refine (BO.out _).mono ?_
    rintro e w1 ⟨rfl, hb1⟩
    have HB1 := Lib.hid (HB0.trans (hb1.mono HB0.size))
    have R1 := Lib.hid (rowIs_below R0.out hb1 R0.out.lt)
    clear hb1 v0 v1 v2 v3
    go_wp2_with fail
    go_loopw [6, 11] (fun sv kv wr => ∃ (k : Nat) (x : Int), k ≤ n ∧ kv = .int .i64 (k : Int) ∧ sv = .int .i64 x ∧ 1 ≤ x ∧ x ≤ 1000000000000000 ∧ Hid (x = pw B k) ∧ Hid (wr.rowIs w.heap.size 29 4 (q4 (.int .i64 p) (.int .i64 c) (.int .i64 h) (.int .i64 s))) ∧ Hid (Below w.heap.size w wr)) (fun _ kv _ => n - (intOf kv).toNat)
    case atStart => exact ⟨0, 1, Nat.zero_le _, rfl, rfl, by omega, by omega, Lib.hid rfl, R1, HB1⟩
    case round =>
      obtain ⟨k, x, hk, rfl, rfl, x1, x2, HX, HR, HB⟩ := hrel
      by_cases hlt : k < n
      · obtain ⟨v0, v1, v2, v3⟩ := q4_cells HR.out
        obtain ⟨y, hy⟩ : ∃ y, x * B = y := ⟨_, rfl⟩
        have y1 : 1 ≤ y := by rw [← hy]; have := Int.mul_le_mul x1 b1 (by omega) (by omega); omega
        have y2 : y ≤ 36000000000000000 := by rw [← hy]; have := Int.mul_le_mul x2 b2 (by omega) (by omega); omega
        have HY := Lib.hid (show y = pw B (k + 1) by rw [pw_succ, ← HX.out, hy])
        go_wp2_with fail
        refine (BO.out _).mono ?_
        rintro e w2 ⟨rfl, hb2⟩
        have HB2 := Lib.hid (HB.out.trans (hb2.mono HB.out.size))
        have R2 := Lib.hid (rowIs_below HR.out hb2 HR.out.lt)
        clear hb2 v0 v1 v2 v3
        by_cases hbig : 1000000000000000 < y
        · have HV := Lib.hid (HNO.out (k + 1) (by omega) (by rw [← HY.out]; exact hbig))
          go_wp2_with fail
          go_ret2
          exact scP_mk rfl HV.out HB2.out
        · go_wp2_with fail
          go_roundw
          case rel => exact ⟨k + 1, y, by omega, by go_num, rfl, y1, by omega, HY, R2, HB2⟩
          case measure => simp [intOf]; omega
      · obtain rfl : k = n := by omega
        have HV := Lib.hid (HYES.out (by rw [← HX.out]; exact x2))
        go_wp2_with fail
        go_ret2
        exact scP_mk rfl (by rw [HV.out, HX.out]) HB.out
set_option maxHeartbeats 1600000 in
theorem l09Scale_any (p c h s dep : Int) (w : World) (s1 : 1 ≤ s) (s6 : s ≤ 6) (d0 : 0 ≤ dep) (d1 : dep ≤ 9223372036854775807) : Calls Try.prog 43 #[vrV p c h s, .int .i64 dep] w fun e w' => scP s dep w e w' := by
  obtain ⟨b1, b2, b3⟩ := sq_bd s1 s6
  obtain ⟨n, rfl⟩ := Int.eq_ofNat_of_zero_le d0
  have HB0 := Lib.hid ((Below.refl w.heap.size w).alloc (Nat.le_refl _) (.cells #[.int .i64 p, .int .i64 c, .int .i64 h, .int .i64 s] 29))
  have R0 := Lib.hid (q4_new w (.int .i64 p) (.int .i64 c) (.int .i64 h) (.int .i64 s) 29)
  obtain ⟨B, hB⟩ : ∃ B, s * s = B := ⟨_, rfl⟩
  have BO := Lib.hid (fun W => l09Base_any p c h s B W hB (hB ▸ b1) (hB ▸ b2))
  have HNO := Lib.hid (fun k (hk : k ≤ n) (h : 1000000000000000 < pw B k) (hs2 : 2 ≤ s) => show scV s (n : Int) = (0, false) from scV_no hs2 b1 (by simpa using hk) (by rw [hB]; exact h))
  have HYES := Lib.hid (fun (h : pw B n ≤ 1000000000000000) (hs2 : 2 ≤ s) => show scV s (n : Int) = (pw B n, true) by have := scV_yes (dep := (n : Int)) hs2 (by rw [hB, Int.toNat_natCast]; exact h); rw [hB, Int.toNat_natCast] at this; exact this)
  have HONE := Lib.hid (fun (hb : B ≤ 1) => show s = 1 by
    rcases Int.lt_or_le s 2 with h | h
    · omega
    · have := b3 h; omega)
  have HONE2 := Lib.hid (fun (e : s = 1) => show B = 1 by rw [← hB, e]; rfl)
  rw [hB] at b1 b2
  clear hB b3
  go_enter Try.func43, Try.ntmps43
  go_wp2_with fail
  go_loopw [6, 7] (fun sv kv wr => ∃ (k : Nat) (x : Int), k ≤ n ∧ kv = .int .i64 (k : Int) ∧ sv = .int .i64 x ∧ 1 ≤ x ∧ x ≤ 1000000000000000 ∧ Hid (x = pw B k) ∧ Hid (s = 1 → k = 0) ∧ Hid (wr.rowIs w.heap.size 29 4 (q4 (.int .i64 p) (.int .i64 c) (.int .i64 h) (.int .i64 s))) ∧ Hid (Below w.heap.size w wr)) (fun _ kv _ => n - (intOf kv).toNat)
  case atStart => exact ⟨0, 1, Nat.zero_le _, rfl, rfl, by omega, by omega, Lib.hid rfl, Lib.hid (fun _ => rfl), R0, HB0⟩
  case round =>
    obtain ⟨k, x, hk, rfl, rfl, x1, x2, HX, HS1, HR, HB⟩ := hrel
    by_cases hlt : k < n
    · obtain ⟨v0, v1, v2, v3⟩ := q4_cells HR.out
      have hd : decide ((k : Int) < (n : Int)) = true := decide_eq_true (by omega)
      by_cases hB1 : 1 < B
      · have hs2 : 2 ≤ s := by
          by_cases e : s = 1
          · have := HONE2.out e; omega
          · omega
        obtain ⟨y, hy⟩ : ∃ y, x * B = y := ⟨_, rfl⟩
        have y1 : 1 ≤ y := by rw [← hy]; have := Int.mul_le_mul x1 b1 (by omega) (by omega); omega
        have y2 : y ≤ 36000000000000000 := by rw [← hy]; have := Int.mul_le_mul x2 b2 (by omega) (by omega); omega
        have HY := Lib.hid (show y = pw B (k + 1) by rw [pw_succ, ← HX.out, hy])
        go_wp2_with fail
        refine (BO.out _).mono ?_
        rintro e w2 ⟨rfl, hb2⟩
        have HB2 := Lib.hid (HB.out.trans (hb2.mono HB.out.size))
        have R2 := Lib.hid (rowIs_below HR.out hb2 HR.out.lt)
        clear hb2 v0 v1 v2 v3
        obtain ⟨v0, v1, v2, v3⟩ := q4_cells R2.out
        go_wp2_with fail
        refine (BO.out _).mono ?_
        rintro e w3 ⟨rfl, hb3⟩
        have HB3 := Lib.hid (HB2.out.trans (hb3.mono HB2.out.size))
        have R3 := Lib.hid (rowIs_below R2.out hb3 R2.out.lt)
        clear hb3 v0 v1 v2 v3
        by_cases hbig : 1000000000000000 < y
        · have HV := Lib.hid (HNO.out (k + 1) (by omega) (by rw [← HY.out]; exact hbig) hs2)
          go_wp2_with fail
          go_ret2
          exact scP_mk rfl HV.out HB3.out
        · go_wp2_with fail
          go_roundw
          case rel => exact ⟨k + 1, y, by omega, by go_num, rfl, y1, by omega, HY, Lib.hid (fun e => absurd hs2 (by omega)), R3, HB3⟩
          case measure => simp [intOf]; omega
      · have hs1 := HONE.out (by omega)
        have hk0 := HS1.out hs1
        have HV : Hid (scV s (n : Int) = (x, true)) := Lib.hid (by rw [hs1, scV_1, HX.out, hk0]; rfl)
        clear hs1 hk0
        go_wp2_with fail
        refine (BO.out _).mono ?_
        rintro e w2 ⟨rfl, hb2⟩
        have HB2 := Lib.hid (HB.out.trans (hb2.mono HB.out.size))
        clear hb2 v0 v1 v2 v3
        go_wp2_with fail
        go_ret2
        exact scP_mk rfl HV.out HB2.out
    · obtain rfl : k = n := by omega
      have HV : Hid (scV s (k : Int) = (x, true)) := by
        refine Lib.hid ?_
        by_cases e : s = 1
        · have hk0 := HS1.out e
          rw [e, scV_1, HX.out, hk0]; rfl
        · rw [HYES.out (by rw [← HX.out]; exact x2) (by omega), HX.out]
      have hd : decide ((k : Int) < (k : Int)) = false := by simp
      go_wp2_with fail
      go_ret2
      exact scP_mk rfl HV.out HB.out
set_option maxRecDepth 16000 in
set_option maxHeartbeats 1600000 in
theorem isExact_any (p c h s num dep : Int) (w : World) (s1 : 1 ≤ s) (s6 : s ≤ 6) (d2 : dep ≤ 9223372036854775807) : Calls Try.prog 38 #[vrV p c h s, exV num dep] w fun e w' => e = .returned (.bool (exB s num dep)) ∧ Below w.heap.size w w' := by
  have HB0 := Lib.hid (((Below.refl w.heap.size w).alloc (Nat.le_refl _) (.cells #[.int .i64 p, .int .i64 c, .int .i64 h, .int .i64 s] 29)).alloc (by simp) (.cells #[.int .i64 num, .int .i64 dep] 45))
  have R0 := Lib.hid ((q4_new w (.int .i64 p) (.int .i64 c) (.int .i64 h) (.int .i64 s) 29).alloc (.cells #[.int .i64 num, .int .i64 dep] 45))
  have X0 := Lib.hid (show ((w.alloc (.cells #[.int .i64 p, .int .i64 c, .int .i64 h, .int .i64 s] 29)).alloc (.cells #[.int .i64 num, .int .i64 dep] 45)).rowIs (w.heap.size + 1) 45 2 (q2 (.int .i64 num) (.int .i64 dep)) by have := q2_new (w.alloc (.cells #[.int .i64 p, .int .i64 c, .int .i64 h, .int .i64 s] 29)) (.int .i64 num) (.int .i64 dep) 45; rwa [World.size_alloc] at this)
  by_cases hd : dep < 0
  · have HV := Lib.hid (exB_neg (s := s) (num := num) hd)
    go_enter Try.func38, Try.ntmps38
    go_wp2_with fail
    go_ret
    exact ⟨ret_bool HV.out, HB0.out⟩
  obtain ⟨K, hK⟩ : ∃ K, wB num (-1000000000000000000) 1000000000000000000 = K := ⟨_, rfl⟩
  have WI := Lib.hid (fun W => hK ▸ within_any num (-1000000000000000000) 1000000000000000000 W)
  cases K
  · have HV := Lib.hid (exB_num (s := s) (dep := dep) hK)
    clear hK
    go_enter Try.func38, Try.ntmps38
    go_wp2_with fail
    refine (WI.out _).mono ?_
    rintro e w1 ⟨rfl, rfl⟩
    go_wp2_with fail
    go_ret
    exact ⟨ret_bool HV.out, HB0.out⟩
  by_cases h0 : dep = 0
  · subst h0
    have HV := Lib.hid (exB_0 (s := s) hK)
    clear hK
    go_enter Try.func38, Try.ntmps38
    go_wp2_with fail
    refine (WI.out _).mono ?_
    rintro e w1 ⟨rfl, rfl⟩
    go_wp2_with fail
    go_ret
    exact ⟨ret_bool HV.out, HB0.out⟩
  have hpos : 0 < dep := by omega
  have h0' : (dep == 0) = false := by simpa using h0
  obtain ⟨n1, n2⟩ := wB_true.1 hK
  obtain ⟨b1, b2, b3⟩ := sq_bd s1 s6
  have HP := exB_pos (s := s) hpos hK
  obtain ⟨B, hB⟩ : ∃ B, s * s = B := ⟨_, rfl⟩
  have BO := Lib.hid (fun W => baseOf_any p c h s B W hB (hB ▸ b1) (hB ▸ b2))
  rw [hB] at HP b1 b2 b3
  have hBz : ¬ B = 0 := by omega
  obtain ⟨r, hr⟩ : ∃ r, num.tmod B = r := ⟨_, rfl⟩
  rw [hr] at HP
  have HP := Lib.hid HP
  by_cases hs : s = 1
  · subst hs
    have hB1 : B = 1 := by rw [← hB]; rfl
    have HV := Lib.hid (show exB 1 num dep = false by rw [HP.out, hB1]; simp)
    subst hB1
    clear hK hB b3 hr
    go_enter Try.func38, Try.ntmps38
    obtain ⟨v0, v1, v2, v3⟩ := q4_cells R0.out
    go_wp2_with fail
    refine (WI.out _).mono ?_
    rintro e w1 ⟨rfl, rfl⟩
    go_wp2_with fail
    refine (BO.out _).mono ?_
    rintro e w1 ⟨rfl, hb1⟩
    have HB1 := Lib.hid (HB0.out.trans (hb1.mono HB0.out.size))
    clear hb1
    go_wp2_with fail
    go_ret
    exact ⟨ret_bool HV.out, HB1.out⟩
  have hs2 : 2 ≤ s := by omega
  have hB4 := b3 hs2
  have hBn : (B == 1) = false := by simp; omega
  by_cases h60 : 60 < dep
  · have HV := Lib.hid (show exB s num dep = false by
      rw [HP.out, scV_no (k := 25) hs2 (by rw [hB]; omega) (by omega) (by rw [hB]; exact pw_big hB4 (Nat.le_refl _))]
      rfl)
    clear hK hB b3 hr hs
    go_enter Try.func38, Try.ntmps38
    obtain ⟨v0, v1, v2, v3⟩ := q4_cells R0.out
    go_wp2_with fail
    refine (WI.out _).mono ?_
    rintro e w1 ⟨rfl, rfl⟩
    go_wp2_with fail
    refine (BO.out _).mono ?_
    rintro e w1 ⟨rfl, hb1⟩
    have HB1 := Lib.hid (HB0.out.trans (hb1.mono HB0.out.size))
    have X1 := rowIs_below X0.out hb1 X0.out.lt
    obtain ⟨x0, x1⟩ := q2_cells X1
    clear hb1
    go_wp2_with fail
    go_ret
    exact ⟨ret_bool HV.out, HB1.out⟩
  have SC := Lib.hid (fun W => scaleOf_any p c h s dep W s1 s6 (by omega) (by omega))
  obtain ⟨sc, ok, hsc⟩ : ∃ sc ok, scV s dep = (sc, ok) := ⟨_, _, rfl⟩
  unfold scP at SC
  rw [hsc] at SC HP
  have e1 : IntKind.i64.wrap r = r := by
    have hr1 : -36 ≤ r ∧ r ≤ 36 := by
      rw [← hr]
      have := tmod_bd (a := num) (show 0 < B by omega)
      omega
    exact IntWalk.i64_in _ (by omega)
  clear hK hB b3 hsc hs
  go_enter Try.func38, Try.ntmps38
  obtain ⟨v0, v1, v2, v3⟩ := q4_cells R0.out
  go_wp2_with fail
  refine (WI.out _).mono ?_
  rintro e w1 ⟨rfl, rfl⟩
  go_wp2_with fail
  refine (BO.out _).mono ?_
  rintro e w1 ⟨rfl, hb1⟩
  have HB1 := Lib.hid (HB0.out.trans (hb1.mono HB0.out.size))
  have X1 := Lib.hid (rowIs_below X0.out hb1 X0.out.lt)
  have V1 := Lib.hid (rowIs_below R0.out hb1 R0.out.lt)
  clear hb1 v0 v1 v2 v3
  obtain ⟨x0, x1⟩ := q2_cells X1.out
  obtain ⟨v0, v1, v2, v3⟩ := q4_cells V1.out
  go_wp2_with fail
  refine (SC.out _).mono ?_
  rintro e w2 ⟨rfl, hb2⟩
  have HB2 := Lib.hid (HB1.out.trans (hb2.mono HB1.out.size))
  have X2 := Lib.hid (rowIs_below X1.out hb2 X1.out.lt)
  have V2 := Lib.hid (rowIs_below V1.out hb2 V1.out.lt)
  clear hb2 v0 v1 v2 v3 x0 x1
  obtain ⟨x0, x1⟩ := q2_cells X2.out
  obtain ⟨v0, v1, v2, v3⟩ := q4_cells V2.out
  have XD := Lib.hid (rowIs_drewN X2.out 1)
  have VD := Lib.hid (rowIs_drewN V2.out 1)
  have BD := Lib.hid (below_drewN HB2.out 1)
  have KS := Lib.hid (fun (W : World) (hx : W.rowIs (w.heap.size + 1) 45 2 (q2 (.int .i64 num) (.int .i64 dep))) (hv : W.rowIs w.heap.size 29 4 (q4 (.int .i64 p) (.int .i64 c) (.int .i64 h) (.int .i64 s))) => And.intro (q2_cells hx).1 (q4_cells hv))
  cases ok
  · have HV := Lib.hid (show exB s num dep = false by rw [HP.out]; rfl)
    go_wp2_with fail
    go_region
    all_goals
      go_wp2_with fail
      go_ret
      exact ⟨ret_bool HV.out, BD.out⟩
  · by_cases hB1 : 1 < B
    · have HV := Lib.hid (show exB s num dep = !(r == 0) by rw [HP.out]; simp [hB1])
      go_wp2_with fail
      go_region_with (first
        | (go_at_call 47; (with_reducible refine (BO.out w2.drew).mono ?_); rintro e w5 ⟨rfl, hb5⟩; have HB5 := Lib.hid (BD.out.trans (hb5.mono BD.out.size)); have X5 := Lib.hid (rowIs_below XD.out hb5 XD.out.lt); have V5 := Lib.hid (rowIs_below VD.out hb5 VD.out.lt); clear hb5; obtain ⟨y0, y1⟩ := q2_cells X5.out; obtain ⟨z0, z1, z2, z3⟩ := q4_cells V5.out)
        | (go_at_call 47; (with_reducible refine (BO.out _).mono ?_); rintro e w6 ⟨rfl, hb6⟩; have HB6 := Lib.hid (HB5.out.trans (hb6.mono HB5.out.size)); have X6 := Lib.hid (rowIs_below X5.out hb6 X5.out.lt); have V6 := Lib.hid (rowIs_below V5.out hb6 V5.out.lt); clear hb6; obtain ⟨t0, t1⟩ := q2_cells X6.out))
      all_goals
        go_wp2_with fail
        go_ret
        first
        | exact ⟨ret_bool HV.out, HB6.out⟩
        | exact ⟨ret_bool HV.out, HB5.out⟩
    · exact absurd (show 1 < B by omega) hB1
set_option maxRecDepth 16000 in
set_option maxHeartbeats 1600000 in
theorem l09Valid_any (p c h s num dep : Int) (w : World) (s1 : 1 ≤ s) (s6 : s ≤ 6) (d2 : dep ≤ 9223372036854775807) : Calls Try.prog 35 #[vrV p c h s, exV num dep] w fun e w' => e = .returned (.bool (exB s num dep)) ∧ Below w.heap.size w w' := by
  have HB0 := Lib.hid (((Below.refl w.heap.size w).alloc (Nat.le_refl _) (.cells #[.int .i64 p, .int .i64 c, .int .i64 h, .int .i64 s] 29)).alloc (by simp) (.cells #[.int .i64 num, .int .i64 dep] 45))
  have R0 := Lib.hid ((q4_new w (.int .i64 p) (.int .i64 c) (.int .i64 h) (.int .i64 s) 29).alloc (.cells #[.int .i64 num, .int .i64 dep] 45))
  have X0 := Lib.hid (show ((w.alloc (.cells #[.int .i64 p, .int .i64 c, .int .i64 h, .int .i64 s] 29)).alloc (.cells #[.int .i64 num, .int .i64 dep] 45)).rowIs (w.heap.size + 1) 45 2 (q2 (.int .i64 num) (.int .i64 dep)) by have := q2_new (w.alloc (.cells #[.int .i64 p, .int .i64 c, .int .i64 h, .int .i64 s] 29)) (.int .i64 num) (.int .i64 dep) 45; rwa [World.size_alloc] at this)
  by_cases hd : dep < 0
  · have HV := Lib.hid (exB_neg (s := s) (num := num) hd)
    go_enter Try.func35, Try.ntmps35
    go_wp2_with fail
    go_ret
    exact ⟨ret_bool HV.out, HB0.out⟩
  obtain ⟨K, hK⟩ : ∃ K, wB num (-1000000000000000000) 1000000000000000000 = K := ⟨_, rfl⟩
  have WI := Lib.hid (fun W => hK ▸ l01In_any num (-1000000000000000000) 1000000000000000000 W)
  cases K
  · have HV := Lib.hid (exB_num (s := s) (dep := dep) hK)
    clear hK
    go_enter Try.func35, Try.ntmps35
    go_wp2_with fail
    refine (WI.out _).mono ?_
    rintro e w1 ⟨rfl, rfl⟩
    go_wp2_with fail
    go_ret
    exact ⟨ret_bool HV.out, HB0.out⟩
  by_cases h0 : dep = 0
  · subst h0
    have HV := Lib.hid (exB_0 (s := s) hK)
    clear hK
    go_enter Try.func35, Try.ntmps35
    go_wp2_with fail
    refine (WI.out _).mono ?_
    rintro e w1 ⟨rfl, rfl⟩
    go_wp2_with fail
    go_ret
    exact ⟨ret_bool HV.out, HB0.out⟩
  have hpos : 0 < dep := by omega
  have h0' : (dep == 0) = false := by simpa using h0
  obtain ⟨n1, n2⟩ := wB_true.1 hK
  obtain ⟨b1, b2, b3⟩ := sq_bd s1 s6
  have HP := exB_pos (s := s) hpos hK
  obtain ⟨B, hB⟩ : ∃ B, s * s = B := ⟨_, rfl⟩
  have BO := Lib.hid (fun W => l09Base_any p c h s B W hB (hB ▸ b1) (hB ▸ b2))
  have HONE := Lib.hid (fun (hb : B ≤ 1) => show s = 1 by
    rcases Int.lt_or_le s 2 with h | h
    · omega
    · have := b3 h; omega)
  rw [hB] at HP b1 b2 b3
  have hBz : ¬ B = 0 := by omega
  obtain ⟨r, hr⟩ : ∃ r, num.tmod B = r := ⟨_, rfl⟩
  rw [hr] at HP
  have HP := Lib.hid HP
  have SC := Lib.hid (fun W => l09Scale_any p c h s dep W s1 s6 (by omega) d2)
  obtain ⟨sc, ok, hsc⟩ : ∃ sc ok, scV s dep = (sc, ok) := ⟨_, _, rfl⟩
  unfold scP at SC
  rw [hsc] at SC HP
  have e1 : IntKind.i64.wrap r = r := by
    have hr1 : -36 ≤ r ∧ r ≤ 36 := by
      rw [← hr]
      have := tmod_bd (a := num) (show 0 < B by omega)
      omega
    exact IntWalk.i64_in _ (by omega)
  clear hK hB b3 hsc
  go_enter Try.func35, Try.ntmps35
  obtain ⟨v0, v1, v2, v3⟩ := q4_cells R0.out
  go_wp2_with fail
  refine (WI.out _).mono ?_
  rintro e w1 ⟨rfl, rfl⟩
  go_wp2_with fail
  refine (SC.out _).mono ?_
  rintro e w2 ⟨rfl, hb2⟩
  have HB2 := Lib.hid (HB0.out.trans (hb2.mono HB0.out.size))
  have X2 := Lib.hid (rowIs_below X0.out hb2 X0.out.lt)
  have V2 := Lib.hid (rowIs_below R0.out hb2 R0.out.lt)
  clear hb2 v0 v1 v2 v3
  obtain ⟨x0, x1⟩ := q2_cells X2.out
  obtain ⟨v0, v1, v2, v3⟩ := q4_cells V2.out
  have XD := Lib.hid (rowIs_drewN X2.out 1)
  have VD := Lib.hid (rowIs_drewN V2.out 1)
  have BD := Lib.hid (below_drewN HB2.out 1)
  have KS := Lib.hid (fun (W : World) (hx : W.rowIs (w.heap.size + 1) 45 2 (q2 (.int .i64 num) (.int .i64 dep))) (hv : W.rowIs w.heap.size 29 4 (q4 (.int .i64 p) (.int .i64 c) (.int .i64 h) (.int .i64 s))) => And.intro (q2_cells hx).1 (q4_cells hv))
  cases ok
  · have HV := Lib.hid (show exB s num dep = false by rw [HP.out]; rfl)
    go_wp2_with fail
    go_region
    all_goals
      go_wp2_with fail
      go_ret
      exact ⟨ret_bool HV.out, BD.out⟩
  · by_cases hB1 : 1 < B
    · have HV := Lib.hid (show exB s num dep = !(r == 0) by rw [HP.out]; simp [hB1])
      go_wp2_with fail
      go_region_with (first
        | (go_at_call 46; (with_reducible refine (BO.out w2.drew).mono ?_); rintro e w5 ⟨rfl, hb5⟩; have HB5 := Lib.hid (BD.out.trans (hb5.mono BD.out.size)); have X5 := Lib.hid (rowIs_below XD.out hb5 XD.out.lt); have V5 := Lib.hid (rowIs_below VD.out hb5 VD.out.lt); clear hb5; obtain ⟨y0, y1⟩ := q2_cells X5.out; obtain ⟨z0, z1, z2, z3⟩ := q4_cells V5.out)
        | (go_at_call 46; (with_reducible refine (BO.out _).mono ?_); rintro e w6 ⟨rfl, hb6⟩; have HB6 := Lib.hid (HB5.out.trans (hb6.mono HB5.out.size)); have X6 := Lib.hid (rowIs_below X5.out hb6 X5.out.lt); have V6 := Lib.hid (rowIs_below V5.out hb6 V5.out.lt); clear hb6; obtain ⟨t0, t1⟩ := q2_cells X6.out))
      all_goals
        go_wp2_with fail
        go_ret
        first
        | exact ⟨ret_bool HV.out, HB6.out⟩
        | exact ⟨ret_bool HV.out, HB5.out⟩
    · have HV := Lib.hid (show exB s num dep = false by rw [HP.out]; simp [hB1])
      have hBone : B = 1 := by omega
      subst hBone
      go_wp2_with fail
      first
      | (go_region_with (first
           | (go_at_call 46; (with_reducible refine (BO.out w2.drew).mono ?_); rintro e w5 ⟨rfl, hb5⟩; have HB5 := Lib.hid (BD.out.trans (hb5.mono BD.out.size)); clear hb5)
           | fail)
         all_goals
           go_wp2_with fail
           go_ret
           exact ⟨ret_bool HV.out, HB5.out⟩)
      | fail "the region"
end Go.Proofs.Ytmhmhbiihcdgiaa
