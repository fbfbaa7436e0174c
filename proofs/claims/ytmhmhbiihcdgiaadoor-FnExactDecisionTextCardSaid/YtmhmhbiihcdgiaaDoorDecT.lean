/-
  IsExact and ExactText of both packages (printed by gen_dect.py).
-/
import Derived.Test.YtmhmhbiihcdgiaaDoorDec
import Derived.Test.YtmhmhbiihcdgiaaDoorVr
namespace Go.Proofs.YtmhmhbiihcdgiaaDoor
open Go.ChangeShapes Go.WideShapes Go.ChangeAt Go.RowKit
set_option linter.unusedVariables false

def ixB (p c h s num dep : Int) : Bool := vrB p c h s && exB s num dep
/-- the text of an exact number -/
def exT (p c h s num dep : Int) : ByteArray := if ixB p c h s num dep then (if dep = 0 then itS num else itS num ++ (⟨#[47]⟩ : ByteArray) ++ itS (scV s dep).1) else ⟨#[]⟩
theorem exT_no {p c h s num dep : Int} (h0 : ixB p c h s num dep = false) : exT p c h s num dep = ⟨#[]⟩ := by simp [exT, h0]
theorem exT_0 {p c h s num : Int} (h0 : ixB p c h s num 0 = true) : exT p c h s num 0 = itS num := by simp [exT, h0]
theorem exT_sc {p c h s num dep sc : Int} {b : Bool} (h0 : ixB p c h s num dep = true) (h1 : ¬ dep = 0) (h2 : scV s dep = (sc, b)) : exT p c h s num dep = itS num ++ (⟨#[47]⟩ : ByteArray) ++ itS sc := by simp [exT, h0, h1, h2]
theorem itS_size {n : Int} (h0 : -1000000000000000000 ≤ n) (h1 : n ≤ 1000000000000000000) : (itS n).size ≤ 20 := by
  have hl := decL_len 18 n.natAbs (by omega)
  by_cases hn : n < 0
  · rw [itS_neg hn, ByteArray.size_append, strOfNums_size]
    have : (⟨#[45]⟩ : ByteArray).size = 1 := rfl
    omega
  · rw [itS_nn hn, strOfNums_size]
    omega
theorem exT_size (p c h s num dep : Int) : (exT p c h s num dep).size ≤ 41 := by
  unfold exT
  split
  · rename_i hx
    simp only [ixB, Bool.and_eq_true] at hx
    obtain ⟨⟨_, _, _, s1, s6⟩, h2⟩ := (⟨vrB_true.1 hx.1, hx.2⟩ : _ ∧ _)
    obtain ⟨sc, e1, e2, e3, _, _⟩ := scV_of s1 s6 h2
    obtain ⟨_, hn, _⟩ := exB_out h2
    have := itS_size hn.1 hn.2
    split
    · omega
    · rw [e1, ByteArray.size_append, ByteArray.size_append]
      have h3 := itS_size (n := sc) (by omega) (by omega)
      have : (⟨#[47]⟩ : ByteArray).size = 1 := rfl
      simp only
      omega
  · exact Nat.zero_le _

theorem impl_IsExact_any (p c h s num dep : Int) (w : World) (d2 : dep ≤ 9223372036854775807) : Calls Tryd.prog 21 #[vrV p c h s, exV num dep] w fun e w' => e = .returned (.bool (ixB p c h s num dep)) ∧ Below w.heap.size w w' := by
  have HB0 := Lib.hid (((Below.refl w.heap.size w).alloc (Nat.le_refl _) (.cells #[.int .i64 p, .int .i64 c, .int .i64 h, .int .i64 s] 29)).alloc (by simp) (.cells #[.int .i64 num, .int .i64 dep] 31))
  have R0 := Lib.hid ((q4_new w (.int .i64 p) (.int .i64 c) (.int .i64 h) (.int .i64 s) 29).alloc (.cells #[.int .i64 num, .int .i64 dep] 31))
  have X0 := Lib.hid (show ((w.alloc (.cells #[.int .i64 p, .int .i64 c, .int .i64 h, .int .i64 s] 29)).alloc (.cells #[.int .i64 num, .int .i64 dep] 31)).rowIs (w.heap.size + 1) 31 2 (q2 (.int .i64 num) (.int .i64 dep)) by have := q2_new (w.alloc (.cells #[.int .i64 p, .int .i64 c, .int .i64 h, .int .i64 s] 29)) (.int .i64 num) (.int .i64 dep) 31; rwa [World.size_alloc] at this)
  obtain ⟨K, hK⟩ : ∃ K, vrB p c h s = K := ⟨_, rfl⟩
  have IV := Lib.hid (fun W => hK ▸ impl_IsVariant_any p c h s W)
  cases K
  · have HV := Lib.hid (show ixB p c h s num dep = false by rw [ixB, hK]; rfl)
    clear hK
    go_enter Tryd.func21, Tryd.ntmps21
    obtain ⟨v0, v1, v2, v3⟩ := q4_cells R0.out
    obtain ⟨x0, x1⟩ := q2_cells X0.out
    go_wp2_with fail
    refine (IV.out _).mono ?_
    rintro e w1 ⟨rfl, hb⟩
    have HB1 := Lib.hid (HB0.out.trans (hb.mono HB0.out.size))
    clear hb v0 v1 v2 v3 x0 x1
    go_wp2_with fail
    go_ret
    exact ⟨ret_bool HV.out, HB1.out⟩
  obtain ⟨_, _, _, s1, s6⟩ := vrB_true.1 hK
  have EX := Lib.hid (fun W => isExact_any p c h s num dep W s1 s6 d2)
  obtain ⟨X, hX⟩ : ∃ X, exB s num dep = X := ⟨_, rfl⟩
  rw [hX] at EX
  have HV := Lib.hid (show ixB p c h s num dep = X by rw [ixB, hK, hX]; rfl)
  clear hX hK
  go_enter Tryd.func21, Tryd.ntmps21
  obtain ⟨x0, x1⟩ := q2_cells X0.out
  obtain ⟨v0, v1, v2, v3⟩ := q4_cells R0.out
  go_wp2_with fail
  refine (IV.out _).mono ?_
  rintro e w1 ⟨rfl, hb⟩
  have HB1 := Lib.hid (HB0.out.trans (hb.mono HB0.out.size))
  have X1 := Lib.hid (rowIs_below X0.out hb X0.out.lt)
  have R1 := Lib.hid (rowIs_below R0.out hb R0.out.lt)
  clear hb v0 v1 v2 v3 x0 x1
  obtain ⟨x0, x1⟩ := q2_cells X1.out
  obtain ⟨v0, v1, v2, v3⟩ := q4_cells R1.out
  go_wp2_with fail
  (with_reducible refine (EX.out _).mono ?_)
  rintro e w2 ⟨rfl, hb⟩
  have HB2 := Lib.hid (HB1.out.trans (hb.mono HB1.out.size))
  clear hb
  all_goals
    go_wp2_with fail
    go_ret
    exact ⟨ret_bool HV.out, HB2.out⟩
theorem spec_IsExact_any (p c h s num dep : Int) (w : World) (d2 : dep ≤ 9223372036854775807) : Calls Tryd.prog 9 #[vrV p c h s, exV num dep] w fun e w' => e = .returned (.bool (ixB p c h s num dep)) ∧ Below w.heap.size w w' := by
  have HB0 := Lib.hid (((Below.refl w.heap.size w).alloc (Nat.le_refl _) (.cells #[.int .i64 p, .int .i64 c, .int .i64 h, .int .i64 s] 29)).alloc (by simp) (.cells #[.int .i64 num, .int .i64 dep] 31))
  have R0 := Lib.hid ((q4_new w (.int .i64 p) (.int .i64 c) (.int .i64 h) (.int .i64 s) 29).alloc (.cells #[.int .i64 num, .int .i64 dep] 31))
  have X0 := Lib.hid (show ((w.alloc (.cells #[.int .i64 p, .int .i64 c, .int .i64 h, .int .i64 s] 29)).alloc (.cells #[.int .i64 num, .int .i64 dep] 31)).rowIs (w.heap.size + 1) 31 2 (q2 (.int .i64 num) (.int .i64 dep)) by have := q2_new (w.alloc (.cells #[.int .i64 p, .int .i64 c, .int .i64 h, .int .i64 s] 29)) (.int .i64 num) (.int .i64 dep) 31; rwa [World.size_alloc] at this)
  obtain ⟨K, hK⟩ : ∃ K, vrB p c h s = K := ⟨_, rfl⟩
  have IV := Lib.hid (fun W => hK ▸ spec_IsVariant_any p c h s W)
  cases K
  · have HV := Lib.hid (show ixB p c h s num dep = false by rw [ixB, hK]; rfl)
    clear hK
    go_enter Tryd.func9, Tryd.ntmps9
    obtain ⟨v0, v1, v2, v3⟩ := q4_cells R0.out
    obtain ⟨x0, x1⟩ := q2_cells X0.out
    go_wp2_with fail
    refine (IV.out _).mono ?_
    rintro e w1 ⟨rfl, hb⟩
    have HB1 := Lib.hid (HB0.out.trans (hb.mono HB0.out.size))
    clear hb v0 v1 v2 v3 x0 x1
    go_wp2_with fail
    go_ret
    exact ⟨ret_bool HV.out, HB1.out⟩
  obtain ⟨_, _, _, s1, s6⟩ := vrB_true.1 hK
  have EX := Lib.hid (fun W => l09Valid_any p c h s num dep W s1 s6 d2)
  obtain ⟨X, hX⟩ : ∃ X, exB s num dep = X := ⟨_, rfl⟩
  rw [hX] at EX
  have HV := Lib.hid (show ixB p c h s num dep = X by rw [ixB, hK, hX]; rfl)
  clear hX hK
  go_enter Tryd.func9, Tryd.ntmps9
  obtain ⟨x0, x1⟩ := q2_cells X0.out
  obtain ⟨v0, v1, v2, v3⟩ := q4_cells R0.out
  go_wp2_with fail
  refine (IV.out _).mono ?_
  rintro e w1 ⟨rfl, hb⟩
  have HB1 := Lib.hid (HB0.out.trans (hb.mono HB0.out.size))
  have X1 := Lib.hid (rowIs_below X0.out hb X0.out.lt)
  have R1 := Lib.hid (rowIs_below R0.out hb R0.out.lt)
  clear hb v0 v1 v2 v3 x0 x1
  obtain ⟨x0, x1⟩ := q2_cells X1.out
  obtain ⟨v0, v1, v2, v3⟩ := q4_cells R1.out
  go_wp2_with fail
  (with_reducible refine (EX.out _).mono ?_)
  rintro e w2 ⟨rfl, hb⟩
  have HB2 := Lib.hid (HB1.out.trans (hb.mono HB1.out.size))
  clear hb
  all_goals
    go_wp2_with fail
    go_ret
    exact ⟨ret_bool HV.out, HB2.out⟩
theorem impl_ExactText_any (p c h s num dep : Int) (w : World) (d2 : dep ≤ 9223372036854775807) (ht : Tab w) : Calls Tryd.prog 14 #[vrV p c h s, exV num dep] w fun e w' => e = .returned (.string (exT p c h s num dep)) ∧ Below w.heap.size w w' := by
  have HB0 := Lib.hid (((Below.refl w.heap.size w).alloc (Nat.le_refl _) (.cells #[.int .i64 p, .int .i64 c, .int .i64 h, .int .i64 s] 29)).alloc (by simp) (.cells #[.int .i64 num, .int .i64 dep] 31))
  have R0 := Lib.hid ((q4_new w (.int .i64 p) (.int .i64 c) (.int .i64 h) (.int .i64 s) 29).alloc (.cells #[.int .i64 num, .int .i64 dep] 31))
  have X0 := Lib.hid (show ((w.alloc (.cells #[.int .i64 p, .int .i64 c, .int .i64 h, .int .i64 s] 29)).alloc (.cells #[.int .i64 num, .int .i64 dep] 31)).rowIs (w.heap.size + 1) 31 2 (q2 (.int .i64 num) (.int .i64 dep)) by have := q2_new (w.alloc (.cells #[.int .i64 p, .int .i64 c, .int .i64 h, .int .i64 s] 29)) (.int .i64 num) (.int .i64 dep) 31; rwa [World.size_alloc] at this)
  obtain ⟨K, hK⟩ : ∃ K, ixB p c h s num dep = K := ⟨_, rfl⟩
  have IX := Lib.hid (fun W => hK ▸ impl_IsExact_any p c h s num dep W d2)
  cases K
  · have HV := Lib.hid (exT_no hK)
    clear hK
    go_enter Tryd.func14, Tryd.ntmps14
    obtain ⟨v0, v1, v2, v3⟩ := q4_cells R0.out
    obtain ⟨x0, x1⟩ := q2_cells X0.out
    go_wp2_with fail
    refine (IX.out _).mono ?_
    rintro e w1 ⟨rfl, hb⟩
    have HB1 := Lib.hid (HB0.out.trans (hb.mono HB0.out.size))
    clear hb v0 v1 v2 v3 x0 x1
    go_wp2_with fail
    go_ret
    exact ⟨ret_str HV.out, HB1.out⟩
  have hx := hK
  simp only [ixB, Bool.and_eq_true] at hx
  obtain ⟨_, _, _, s1, s6⟩ := vrB_true.1 hx.1
  obtain ⟨d0, hn, _⟩ := exB_out hx.2
  by_cases hd : dep = 0
  · subst hd
    have HV := Lib.hid (exT_0 hK)
    clear hK hx
    go_enter Tryd.func14, Tryd.ntmps14
    obtain ⟨x0, x1⟩ := q2_cells X0.out
    obtain ⟨v0, v1, v2, v3⟩ := q4_cells R0.out
    go_wp2_with fail
    refine (IX.out _).mono ?_
    rintro e w1 ⟨rfl, hb⟩
    have HB1 := Lib.hid (HB0.out.trans (hb.mono HB0.out.size))
    have X1 := Lib.hid (rowIs_below X0.out hb X0.out.lt)
    have R1 := Lib.hid (rowIs_below R0.out hb R0.out.lt)
    clear hb v0 v1 v2 v3 x0 x1
    obtain ⟨x0, x1⟩ := q2_cells X1.out
    obtain ⟨v0, v1, v2, v3⟩ := q4_cells R1.out
    go_wp2_with fail
    refine (decimal_any num _ (by omega) (by omega) ((ht.below HB1.out))).mono ?_
    rintro e w2 ⟨rfl, hb⟩
    have HB2 := Lib.hid (HB1.out.trans (hb.mono HB1.out.size))
    clear hb v0 v1 v2 v3 x0 x1
    go_wp2_with fail
    go_ret
    exact ⟨ret_str HV.out, HB2.out⟩
  obtain ⟨sc, e1, e2, e3, e4, esc⟩ := scV_of s1 s6 hx.2
  clear esc
  have HV := Lib.hid (exT_sc hK hd e1)
  have SC := Lib.hid (fun W => scaleOf_any p c h s dep W s1 s6 d0 (by omega))
  unfold scP at SC
  rw [e1] at SC
  have hz := itS_size hn.1 hn.2
  have hz2 := itS_size (n := sc) (by omega) (by omega)
  have HA : ¬ ((itS num).size + (⟨#[47]⟩ : ByteArray).size > 9223372036854775807) := by
    have : (⟨#[47]⟩ : ByteArray).size = 1 := rfl
    omega
  have HA2 : ¬ ((itS num ++ (⟨#[47]⟩ : ByteArray)).size + (itS sc).size > 9223372036854775807) := by
    rw [ByteArray.size_append]
    have : (⟨#[47]⟩ : ByteArray).size = 1 := rfl
    omega
  clear hK hx e1
  go_enter Tryd.func14, Tryd.ntmps14
  obtain ⟨x0, x1⟩ := q2_cells X0.out
  obtain ⟨v0, v1, v2, v3⟩ := q4_cells R0.out
  go_wp2_with fail
  refine (IX.out _).mono ?_
  rintro e w1 ⟨rfl, hb⟩
  have HB1 := Lib.hid (HB0.out.trans (hb.mono HB0.out.size))
  have X1 := Lib.hid (rowIs_below X0.out hb X0.out.lt)
  have R1 := Lib.hid (rowIs_below R0.out hb R0.out.lt)
  clear hb v0 v1 v2 v3 x0 x1
  obtain ⟨x0, x1⟩ := q2_cells X1.out
  obtain ⟨v0, v1, v2, v3⟩ := q4_cells R1.out
  go_wp2_with fail
  (with_reducible refine (SC.out _).mono ?_)
  rintro e w2 ⟨rfl, hb⟩
  have HB2 := Lib.hid (HB1.out.trans (hb.mono HB1.out.size))
  have X2 := Lib.hid (rowIs_below X1.out hb X1.out.lt)
  have R2 := Lib.hid (rowIs_below R1.out hb R1.out.lt)
  clear hb v0 v1 v2 v3 x0 x1
  obtain ⟨x0, x1⟩ := q2_cells X2.out
  obtain ⟨v0, v1, v2, v3⟩ := q4_cells R2.out
  go_wp2_with fail
  refine (decimal_any num _ (by omega) (by omega) ((ht.below HB2.out))).mono ?_
  rintro e w3 ⟨rfl, hb⟩
  have HB3 := Lib.hid (HB2.out.trans (hb.mono HB2.out.size))
  clear hb v0 v1 v2 v3 x0 x1
  go_wp2_with fail
  refine (decimal_any sc _ (by omega) (by omega) ((ht.below HB3.out))).mono ?_
  rintro e w4 ⟨rfl, hb⟩
  have HB4 := Lib.hid (HB3.out.trans (hb.mono HB3.out.size))
  clear hb
  go_wp2_with fail
  go_ret
  exact ⟨ret_str HV.out, HB4.out⟩
theorem spec_ExactText_any (p c h s num dep : Int) (w : World) (d2 : dep ≤ 9223372036854775807) : Calls Tryd.prog 10 #[vrV p c h s, exV num dep] w fun e w' => e = .returned (.string (exT p c h s num dep)) ∧ Below w.heap.size w w' := by
  have HB0 := Lib.hid (((Below.refl w.heap.size w).alloc (Nat.le_refl _) (.cells #[.int .i64 p, .int .i64 c, .int .i64 h, .int .i64 s] 29)).alloc (by simp) (.cells #[.int .i64 num, .int .i64 dep] 31))
  have R0 := Lib.hid ((q4_new w (.int .i64 p) (.int .i64 c) (.int .i64 h) (.int .i64 s) 29).alloc (.cells #[.int .i64 num, .int .i64 dep] 31))
  have X0 := Lib.hid (show ((w.alloc (.cells #[.int .i64 p, .int .i64 c, .int .i64 h, .int .i64 s] 29)).alloc (.cells #[.int .i64 num, .int .i64 dep] 31)).rowIs (w.heap.size + 1) 31 2 (q2 (.int .i64 num) (.int .i64 dep)) by have := q2_new (w.alloc (.cells #[.int .i64 p, .int .i64 c, .int .i64 h, .int .i64 s] 29)) (.int .i64 num) (.int .i64 dep) 31; rwa [World.size_alloc] at this)
  obtain ⟨K, hK⟩ : ∃ K, ixB p c h s num dep = K := ⟨_, rfl⟩
  have IX := Lib.hid (fun W => hK ▸ spec_IsExact_any p c h s num dep W d2)
  cases K
  · have HV := Lib.hid (exT_no hK)
    clear hK
    go_enter Tryd.func10, Tryd.ntmps10
    obtain ⟨v0, v1, v2, v3⟩ := q4_cells R0.out
    obtain ⟨x0, x1⟩ := q2_cells X0.out
    go_wp2_with fail
    refine (IX.out _).mono ?_
    rintro e w1 ⟨rfl, hb⟩
    have HB1 := Lib.hid (HB0.out.trans (hb.mono HB0.out.size))
    clear hb v0 v1 v2 v3 x0 x1
    go_wp2_with fail
    go_ret
    exact ⟨ret_str HV.out, HB1.out⟩
  have hx := hK
  simp only [ixB, Bool.and_eq_true] at hx
  obtain ⟨_, _, _, s1, s6⟩ := vrB_true.1 hx.1
  obtain ⟨d0, hn, _⟩ := exB_out hx.2
  by_cases hd : dep = 0
  · subst hd
    have HV := Lib.hid (exT_0 hK)
    clear hK hx
    go_enter Tryd.func10, Tryd.ntmps10
    obtain ⟨x0, x1⟩ := q2_cells X0.out
    obtain ⟨v0, v1, v2, v3⟩ := q4_cells R0.out
    go_wp2_with fail
    refine (IX.out _).mono ?_
    rintro e w1 ⟨rfl, hb⟩
    have HB1 := Lib.hid (HB0.out.trans (hb.mono HB0.out.size))
    have X1 := Lib.hid (rowIs_below X0.out hb X0.out.lt)
    have R1 := Lib.hid (rowIs_below R0.out hb R0.out.lt)
    clear hb v0 v1 v2 v3 x0 x1
    obtain ⟨x0, x1⟩ := q2_cells X1.out
    obtain ⟨v0, v1, v2, v3⟩ := q4_cells R1.out
    go_wp2_with fail
    refine (l09Decimal_any num _ (by omega) (by omega)).mono ?_
    rintro e w2 ⟨rfl, hb⟩
    have HB2 := Lib.hid (HB1.out.trans (hb.mono HB1.out.size))
    clear hb v0 v1 v2 v3 x0 x1
    go_wp2_with fail
    go_ret
    exact ⟨ret_str HV.out, HB2.out⟩
  obtain ⟨sc, e1, e2, e3, e4, esc⟩ := scV_of s1 s6 hx.2
  clear esc
  have HV := Lib.hid (exT_sc hK hd e1)
  have SC := Lib.hid (fun W => l09Scale_any p c h s dep W s1 s6 d0 (by omega))
  unfold scP at SC
  rw [e1] at SC
  have hz := itS_size hn.1 hn.2
  have hz2 := itS_size (n := sc) (by omega) (by omega)
  have HA : ¬ ((itS num).size + (⟨#[47]⟩ : ByteArray).size > 9223372036854775807) := by
    have : (⟨#[47]⟩ : ByteArray).size = 1 := rfl
    omega
  have HA2 : ¬ ((itS num ++ (⟨#[47]⟩ : ByteArray)).size + (itS sc).size > 9223372036854775807) := by
    rw [ByteArray.size_append]
    have : (⟨#[47]⟩ : ByteArray).size = 1 := rfl
    omega
  clear hK hx e1
  go_enter Tryd.func10, Tryd.ntmps10
  obtain ⟨x0, x1⟩ := q2_cells X0.out
  obtain ⟨v0, v1, v2, v3⟩ := q4_cells R0.out
  go_wp2_with fail
  refine (IX.out _).mono ?_
  rintro e w1 ⟨rfl, hb⟩
  have HB1 := Lib.hid (HB0.out.trans (hb.mono HB0.out.size))
  have X1 := Lib.hid (rowIs_below X0.out hb X0.out.lt)
  have R1 := Lib.hid (rowIs_below R0.out hb R0.out.lt)
  clear hb v0 v1 v2 v3 x0 x1
  obtain ⟨x0, x1⟩ := q2_cells X1.out
  obtain ⟨v0, v1, v2, v3⟩ := q4_cells R1.out
  go_wp2_with fail
  (with_reducible refine (SC.out _).mono ?_)
  rintro e w2 ⟨rfl, hb⟩
  have HB2 := Lib.hid (HB1.out.trans (hb.mono HB1.out.size))
  have X2 := Lib.hid (rowIs_below X1.out hb X1.out.lt)
  have R2 := Lib.hid (rowIs_below R1.out hb R1.out.lt)
  clear hb v0 v1 v2 v3 x0 x1
  obtain ⟨x0, x1⟩ := q2_cells X2.out
  obtain ⟨v0, v1, v2, v3⟩ := q4_cells R2.out
  go_wp2_with fail
  refine (l09Decimal_any num _ (by omega) (by omega)).mono ?_
  rintro e w3 ⟨rfl, hb⟩
  have HB3 := Lib.hid (HB2.out.trans (hb.mono HB2.out.size))
  clear hb v0 v1 v2 v3 x0 x1
  go_wp2_with fail
  refine (l09Decimal_any sc _ (by omega) (by omega)).mono ?_
  rintro e w4 ⟨rfl, hb⟩
  have HB4 := Lib.hid (HB3.out.trans (hb.mono HB3.out.size))
  clear hb
  go_wp2_with fail
  go_ret
  exact ⟨ret_str HV.out, HB4.out⟩
end Go.Proofs.YtmhmhbiihcdgiaaDoor
