/-
  IsExact and ExactText of both packages (printed by gen_dect.py).
-/
import Derived.Test.YtmhmhbiihcdgiaaDec
import Derived.Test.YtmhmhbiihcdgiaaVr
namespace Go.Proofs.Ytmhmhbiihcdgiaa
open Go.ChangeShapes Go.WideShapes Go.ChangeAt Go.RowKit
set_option linter.unusedVariables false

def ixB (p c h s num dep : Int) : Bool := vrB p c h s && exB s num dep
/-- the text of an exact number -/
def exT (p c h s num dep : Int) : ByteArray := if ixB p c h s num dep then (if dep = 0 then itS num else itS num ++ (⟨#[47]⟩ : ByteArray) ++ itS (scV s dep).1) else ⟨#[]⟩
theorem exT_no {p c h s num dep : Int} (h0 : ixB p c h s num dep = false) : exT p c h s num dep = ⟨#[]⟩ := by simp [exT, h0]
theorem exT_0 {p c h s num : Int} (h0 : ixB p c h s num 0 = true) : exT p c h s num 0 = itS num := by simp [exT, h0]
theorem exT_sc {p c h s num dep sc : Int} {b : Bool} (h0 : ixB p c h s num dep = true) (h1 : ¬ dep = 0) (h2 : scV s dep = (sc, b)) : exT p c h s num dep = itS num ++ (⟨#[47]⟩ : ByteArray) ++ itS sc := by simp [exT, h0, h1, h2]
theorem exT_size (p c h s num dep : Int) : (exT p c h s num dep).size ≤ 41 := by
  unfold exT
  split
  · rename_i hx
    simp only [ixB, Bool.and_eq_true] at hx
    obtain ⟨⟨_, _, _, s1, s6⟩, h2⟩ := (⟨vrB_true.1 hx.1, hx.2⟩ : _ ∧ _)
    obtain ⟨sc, e1, e2, e3, _, _⟩ := scV_of s1 s6 h2
    obtain ⟨_, hn, _⟩ := exB_out h2
    have := itS_size hn.1 hn.2
    split
    · omega
    · rw [e1, ByteArray.size_append, ByteArray.size_append]
      have h3 := itS_size (n := sc) (by omega) (by omega)
      have : (⟨#[47]⟩ : ByteArray).size = 1 := rfl
      simp only
      omega
  · exact Nat.zero_le _

theorem spec_IsExact_any (p c h s num dep : Int) (w : World) (d2 : dep ≤ 9223372036854775807) : Calls Try.prog 20 #[vrV p c h s, exV num dep] w fun e w' => e = .returned (.bool (ixB p c h s num dep)) ∧ Below w.heap.size w w' := by
  have HB0 := Lib.hid (((Below.refl w.heap.size w).alloc (Nat.le_refl _) (.cells #[.int .i64 p, .int .i64 c, .int .i64 h, .int .i64 s] 29)).alloc (by simp) (.cells #[.int .i64 num, .int .i64 dep] 45))
  have R0 := Lib.hid ((q4_new w (.int .i64 p) (.int .i64 c) (.int .i64 h) (.int .i64 s) 29).alloc (.cells #[.int .i64 num, .int .i64 dep] 45))
  have X0 := Lib.hid (show ((w.alloc (.cells #[.int .i64 p, .int .i64 c, .int .i64 h, .int .i64 s] 29)).alloc (.cells #[.int .i64 num, .int .i64 dep] 45)).rowIs (w.heap.size + 1) 45 2 (q2 (.int .i64 num) (.int .i64 dep)) by have := q2_new (w.alloc (.cells #[.int .i64 p, .int .i64 c, .int .i64 h, .int .i64 s] 29)) (.int .i64 num) (.int .i64 dep) 45; rwa [World.size_alloc] at this)
  obtain ⟨K, hK⟩ : ∃ K, vrB p c h s = K := ⟨_, rfl⟩
  have IV := Lib.hid (fun W => hK ▸ spec_IsVariant_any p c h s W)
  cases K
  · have HV := Lib.hid (show ixB p c h s num dep = false by rw [ixB, hK]; rfl)
    clear hK
    go_enter Try.func20, Try.ntmps20
    obtain ⟨v0, v1, v2, v3⟩ := q4_cells R0.out
    obtain ⟨x0, x1⟩ := q2_cells X0.out
    go_wp2_with fail
    refine (IV.out _).mono ?_
    rintro e w1 ⟨rfl, hb⟩
    have HB1 := Lib.hid (HB0.out.trans (hb.mono HB0.out.size))
    clear hb v0 v1 v2 v3 x0 x1
    go_wp2_with fail
    go_ret
    exact ⟨ret_bool HV.out, HB1.out⟩
  obtain ⟨_, _, _, s1, s6⟩ := vrB_true.1 hK
  have EX := Lib.hid (fun W => l09Valid_any p c h s num dep W s1 s6 d2)
  obtain ⟨X, hX⟩ : ∃ X, exB s num dep = X := ⟨_, rfl⟩
  rw [hX] at EX
  have HV := Lib.hid (show ixB p c h s num dep = X by rw [ixB, hK, hX]; rfl)
  clear hX hK
  go_enter Try.func20, Try.ntmps20
  obtain ⟨x0, x1⟩ := q2_cells X0.out
  obtain ⟨v0, v1, v2, v3⟩ := q4_cells R0.out
  go_wp2_with fail
  refine (IV.out _).mono ?_
  rintro e w1 ⟨rfl, hb⟩
  have HB1 := Lib.hid (HB0.out.trans (hb.mono HB0.out.size))
  have X1 := Lib.hid (rowIs_below X0.out hb X0.out.lt)
  have R1 := Lib.hid (rowIs_below R0.out hb R0.out.lt)
  clear hb v0 v1 v2 v3 x0 x1
  obtain ⟨x0, x1⟩ := q2_cells X1.out
  obtain ⟨v0, v1, v2, v3⟩ := q4_cells R1.out
  go_wp2_with fail
  (with_reducible refine (EX.out _).mono ?_)
  rintro e w2 ⟨rfl, hb⟩
  have HB2 := Lib.hid (HB1.out.trans (hb.mono HB1.out.size))
  clear hb
  all_goals
    go_wp2_with fail
    go_ret
    exact ⟨ret_bool HV.out, HB2.out⟩
end Go.Proofs.Ytmhmhbiihcdgiaa
