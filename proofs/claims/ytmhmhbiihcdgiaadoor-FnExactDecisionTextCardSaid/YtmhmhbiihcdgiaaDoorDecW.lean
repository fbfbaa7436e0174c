/-
  DecisionText of both packages (printed by gen_decw.py).
-/
import Derived.Test.YtmhmhbiihcdgiaaDoorDecC
import Derived.Test.YtmhmhbiihcdgiaaDoorRegH
import Derived.RegionTactic
import Derived.BigRegion
import Derived.Deep.Cut
import Derived.Deep.CutRange
import Derived.Deep.DeepCutAuto
namespace Go.Proofs.YtmhmhbiihcdgiaaDoor
open Go.ChangeShapes Go.WideShapes Go.ChangeAt Go.RowKit Go.Joins Go.Deep
set_option linter.unusedVariables false

def q8 (x a1 a2 b1 b2 r f1 f2 : Int) : Nat → Value
  | 0 => .int .i64 x
  | 1 => .int .i64 a1
  | 2 => .int .i64 a2
  | 3 => .int .i64 b1
  | 4 => .int .i64 b2
  | 5 => .int .i64 r
  | 6 => .int .i64 f1
  | _ => .int .i64 f2
theorem q8_new (w : World) (x a1 a2 b1 b2 r f1 f2 : Int) (t : TypeId) : (w.alloc (.cells #[.int .i64 x, .int .i64 a1, .int .i64 a2, .int .i64 b1, .int .i64 b2, .int .i64 r, .int .i64 f1, .int .i64 f2] t)).rowIs w.heap.size t 8 (q8 x a1 a2 b1 b2 r f1 f2) :=
  World.rowIs_alloc w _ _ _ (fun j hj => by
    match j, hj with
    | 0, _ => rfl
    | 1, _ => rfl
    | 2, _ => rfl
    | 3, _ => rfl
    | 4, _ => rfl
    | 5, _ => rfl
    | 6, _ => rfl
    | 7, _ => rfl)
def q8All (w : World) (g : Nat) (x a1 a2 b1 b2 f1 f2 : Int) : Prop := w.cell? ⟨g, 0, none⟩ = some (.int .i64 x) ∧ w.cell? ⟨g, 1, none⟩ = some (.int .i64 a1) ∧ w.cell? ⟨g, 2, none⟩ = some (.int .i64 a2) ∧ w.cell? ⟨g, 3, none⟩ = some (.int .i64 b1) ∧ w.cell? ⟨g, 4, none⟩ = some (.int .i64 b2) ∧ w.cell? ⟨g, 6, none⟩ = some (.int .i64 f1) ∧ w.cell? ⟨g, 7, none⟩ = some (.int .i64 f2)
theorem q8_cells {w : World} {g t : Nat} {x a1 a2 b1 b2 r f1 f2 : Int} (h : w.rowIs g t 8 (q8 x a1 a2 b1 b2 r f1 f2)) : q8All w g x a1 a2 b1 b2 f1 f2 :=
  ⟨h.cell (i := 0) (by omega), h.cell (i := 1) (by omega), h.cell (i := 2) (by omega), h.cell (i := 3) (by omega), h.cell (i := 4) (by omega), h.cell (i := 6) (by omega), h.cell (i := 7) (by omega)⟩
/-- the word of an action -/
def wdT (x : Int) : ByteArray := if x = 0 then ⟨#[114, 111, 108, 108]⟩ else if x = 1 then ⟨#[116, 97, 107, 101]⟩ else if x = 2 then ⟨#[112, 97, 115, 115]⟩ else if x = 3 then ⟨#[98, 101, 97, 118, 101, 114]⟩ else ⟨#[114, 97, 99, 99, 111, 111, 110]⟩
abbrev spT : ByteArray := ⟨#[32]⟩
def dcB (p c h s x a1 a2 b1 b2 f1 f2 : Int) : Bool := wB x 0 4 && (ixB p c h s a1 a2 && (ixB p c h s b1 b2 && ixB p c h s f1 f2))
/-- the text of a decision -/
def dcT (p c h s x a1 a2 b1 b2 f1 f2 : Int) : ByteArray := if dcB p c h s x a1 a2 b1 b2 f1 f2 then wdT x ++ spT ++ exT p c h s a1 a2 ++ spT ++ exT p c h s b1 b2 ++ spT ++ exT p c h s f1 f2 else ⟨#[]⟩
theorem dcT_no {p c h s x a1 a2 b1 b2 f1 f2 : Int} (h0 : dcB p c h s x a1 a2 b1 b2 f1 f2 = false) : dcT p c h s x a1 a2 b1 b2 f1 f2 = ⟨#[]⟩ := by rw [dcT, h0]; rfl
theorem dcT_yes {p c h s x a1 a2 b1 b2 f1 f2 : Int} (h0 : dcB p c h s x a1 a2 b1 b2 f1 f2 = true) : dcT p c h s x a1 a2 b1 b2 f1 f2 = wdT x ++ spT ++ exT p c h s a1 a2 ++ spT ++ exT p c h s b1 b2 ++ spT ++ exT p c h s f1 f2 := by rw [dcT, h0]; rfl
theorem six_at (w : World) (a b c d e f : Int) (t : TypeId) : ∀ i, i < 3 * 2 → (w.alloc (.cells #[.int .i64 a, .int .i64 b, .int .i64 c, .int .i64 d, .int .i64 e, .int .i64 f] t)).cell? ⟨w.heap.size, 0 + i, none⟩ = some (.int .i64 ([a, b, c, d, e, f].getD i 0)) := by
  intro i hi
  rw [Nat.zero_add]
  have h : (w.alloc (.cells #[.int .i64 a, .int .i64 b, .int .i64 c, .int .i64 d, .int .i64 e, .int .i64 f] t)).rowIs w.heap.size t 6 (fun i => .int .i64 ([a, b, c, d, e, f].getD i 0)) :=
    World.rowIs_alloc w _ _ _ (fun j hj => by
      match j, hj with
      | 0, _ => rfl
      | 1, _ => rfl
      | 2, _ => rfl
      | 3, _ => rfl
      | 4, _ => rfl
      | 5, _ => rfl)
  exact h.cell (i := i) hi
theorem chC_dc {p c h s x a1 a2 b1 b2 f1 f2 : Int} (hx : wB x 0 4 = true) : (chC p c h s [a1, a2, b1, b2, f1, f2] == 0) = dcB p c h s x a1 a2 b1 b2 f1 f2 := by
  unfold chC dcB ixB
  rw [hx]
  cases vrB p c h s
  · rfl
  · simp only [exA, List.getD_cons_zero, List.getD_cons_succ, Bool.true_and, ite_true]
    show ((if (exB s a1 a2 && exB s b1 b2 && exB s f1 f2) = true then (0 : Int) else 2) == 0) = _
    cases exB s a1 a2 <;> cases exB s b1 b2 <;> cases exB s f1 f2 <;> rfl

set_option maxHeartbeats 3200000 in
theorem impl_DecisionText_any (p c h s x a1 a2 b1 b2 r f1 f2 : Int) (w : World) (ha : a2 ≤ 9223372036854775807) (hbb : b2 ≤ 9223372036854775807) (hf : f2 ≤ 9223372036854775807) (ht : Tab w) : Calls Tryd.prog 7 #[vrV p c h s, .agg #[.int .i64 x, .int .i64 a1, .int .i64 a2, .int .i64 b1, .int .i64 b2, .int .i64 r, .int .i64 f1, .int .i64 f2]] w fun e w' => e = .returned (.string (dcT p c h s x a1 a2 b1 b2 f1 f2)) ∧ Below w.heap.size w w' := by
  have HB0 := Lib.hid (((Below.refl w.heap.size w).alloc (Nat.le_refl _) (.cells #[.int .i64 p, .int .i64 c, .int .i64 h, .int .i64 s] 29)).alloc (by simp) (.cells #[.int .i64 x, .int .i64 a1, .int .i64 a2, .int .i64 b1, .int .i64 b2, .int .i64 r, .int .i64 f1, .int .i64 f2] 33))
  have R0 := Lib.hid ((q4_new w (.int .i64 p) (.int .i64 c) (.int .i64 h) (.int .i64 s) 29).alloc (.cells #[.int .i64 x, .int .i64 a1, .int .i64 a2, .int .i64 b1, .int .i64 b2, .int .i64 r, .int .i64 f1, .int .i64 f2] 33))
  have X0 := Lib.hid (show ((w.alloc (.cells #[.int .i64 p, .int .i64 c, .int .i64 h, .int .i64 s] 29)).alloc (.cells #[.int .i64 x, .int .i64 a1, .int .i64 a2, .int .i64 b1, .int .i64 b2, .int .i64 r, .int .i64 f1, .int .i64 f2] 33)).rowIs (w.heap.size + 1) 33 8 (q8 x a1 a2 b1 b2 r f1 f2) by have := q8_new (w.alloc (.cells #[.int .i64 p, .int .i64 c, .int .i64 h, .int .i64 s] 29)) x a1 a2 b1 b2 r f1 f2 33; rwa [World.size_alloc] at this)
  obtain ⟨K, hK⟩ : ∃ K, wB x 0 4 = K := ⟨_, rfl⟩
  have WI := Lib.hid (fun W => hK ▸ within_any x 0 4 W)
  cases K
  · have HV := Lib.hid (dcT_no (p := p) (c := c) (h := h) (s := s) (x := x) (a1 := a1) (a2 := a2) (b1 := b1) (b2 := b2) (f1 := f1) (f2 := f2) (by rw [dcB, hK]; rfl))
    clear hK
    go_enter Tryd.func7, Tryd.ntmps7
    obtain ⟨v0, v1, v2, v3⟩ := q4_cells R0.out
    obtain ⟨x0, x1, x2, x3, x4, x6, x7⟩ := q8_cells X0.out
    go_wp2_with fail
    (with_reducible refine (WI.out _).mono ?_)
    rintro e w1 ⟨rfl, rfl⟩
    go_wp2_with fail
    go_ret
    exact ⟨ret_str HV.out, HB0.out⟩
  have HCD := Lib.hid (chC_dc (p := p) (c := c) (h := h) (s := s) (a1 := a1) (a2 := a2) (b1 := b1) (b2 := b2) (f1 := f1) (f2 := f2) hK)
  have CE := Lib.hid (fun W g hg hc => checkExacts_any p c h s g 0 3 [a1, a2, b1, b2, f1, f2] W hg hc (fun k hk => by match k, hk with | 0, _ => exact ha | 1, _ => exact hbb | 2, _ => exact hf))
  obtain ⟨C, hC⟩ : ∃ C, chC p c h s [a1, a2, b1, b2, f1, f2] = C := ⟨_, rfl⟩
  rw [hC] at CE HCD
  clear hC
  by_cases hC0 : C = 0
  · subst hC0
    have HV := Lib.hid (dcT_yes (HCD.out.symm.trans rfl))
    obtain ⟨k0, k4⟩ := wB_true.1 hK
    clear hK
    go_enter Tryd.func7, Tryd.ntmps7
    obtain ⟨v0, v1, v2, v3⟩ := q4_cells R0.out
    obtain ⟨x0, x1, x2, x3, x4, x6, x7⟩ := q8_cells X0.out
    go_wp2_with fail
    (with_reducible refine (WI.out _).mono ?_)
    rintro e w1 ⟨rfl, rfl⟩
    go_wp2_with fail
    (with_reducible refine (CE.out _ _ (by simp) (by have := six_at ((w.alloc (.cells #[.int .i64 p, .int .i64 c, .int .i64 h, .int .i64 s] 29)).alloc (.cells #[.int .i64 x, .int .i64 a1, .int .i64 a2, .int .i64 b1, .int .i64 b2, .int .i64 r, .int .i64 f1, .int .i64 f2] 33)) a1 a2 b1 b2 f1 f2 31; simp only [World.size_alloc] at this; exact this)).mono ?_)
    rintro e w2 ⟨rfl, hb2⟩
    have HB2 := Lib.hid ((HB0.out.alloc HB0.out.size _).trans (hb2.mono (HB0.out.alloc HB0.out.size _).size))
    have R2 := Lib.hid (rowIs_below (R0.out.alloc _) hb2 (R0.out.alloc _).lt)
    have X2 := Lib.hid (rowIs_below (X0.out.alloc _) hb2 (X0.out.alloc _).lt)
    clear hb2 v0 v1 v2 v3 x0 x1 x2 x3 x4 x6 x7
    obtain ⟨v0, v1, v2, v3⟩ := q4_cells R2.out
    obtain ⟨x0, x1, x2, x3, x4, x6, x7⟩ := q8_cells X2.out
    have hl2 : w.heap.size + 1 < w2.heap.size := X2.out.lt
    go_upto_region 3 with fail
    go_cut [5] (fun t wx => ∃ WD : ByteArray, t = .string WD ∧ WD.size ≤ 7 ∧ Hid (wdT x = WD) ∧ Hid (Below w.heap.size w wx) ∧ Hid (wx.rowIs w.heap.size 29 4 (q4 (.int .i64 p) (.int .i64 c) (.int .i64 h) (.int .i64 s))) ∧ Hid (wx.rowIs (w.heap.size + 1) 33 8 (q8 x a1 a2 b1 b2 r f1 f2)))
    case first =>
      have hx5 : x = 0 ∨ x = 1 ∨ x = 2 ∨ x = 3 ∨ x = 4 := by omega
      rcases hx5 with rfl | rfl | rfl | rfl | rfl
      all_goals
        go_wp2_with fail
        go_meet
        exact ⟨_, rfl, by decide, Lib.hid rfl, Lib.hid (HB2.out.alloc HB2.out.size _), Lib.hid (R2.out.alloc _), Lib.hid (X2.out.alloc _)⟩
    case rest =>
      obtain ⟨WD, rfl, hwz, HWD, HB3, R3, X3⟩ := hcut
      clear v0 v1 v2 v3 x0 x1 x2 x3 x4 x6 x7
      obtain ⟨T1, hT1⟩ : ∃ T, exT p c h s a1 a2 = T := ⟨_, rfl⟩
      have z1 : T1.size ≤ 41 := hT1 ▸ exT_size p c h s a1 a2
      have E1 := Lib.hid (fun W (hW : Below w.heap.size w W) => hT1 ▸ impl_ExactText_any p c h s a1 a2 W ha (ht.below hW))
      obtain ⟨T2, hT2⟩ : ∃ T, exT p c h s b1 b2 = T := ⟨_, rfl⟩
      have z2 : T2.size ≤ 41 := hT2 ▸ exT_size p c h s b1 b2
      have E2 := Lib.hid (fun W (hW : Below w.heap.size w W) => hT2 ▸ impl_ExactText_any p c h s b1 b2 W hbb (ht.below hW))
      obtain ⟨T3, hT3⟩ : ∃ T, exT p c h s f1 f2 = T := ⟨_, rfl⟩
      have z3 : T3.size ≤ 41 := hT3 ▸ exT_size p c h s f1 f2
      have E3 := Lib.hid (fun W (hW : Below w.heap.size w W) => hT3 ▸ impl_ExactText_any p c h s f1 f2 W hf (ht.below hW))
      have HV2 := Lib.hid (show dcT p c h s x a1 a2 b1 b2 f1 f2 = WD ++ (⟨#[32]⟩ : ByteArray) ++ T1 ++ (⟨#[32]⟩ : ByteArray) ++ T2 ++ (⟨#[32]⟩ : ByteArray) ++ T3 by rw [HV.out, HWD.out, hT1, hT2, hT3])
      clear hT1 hT2 hT3 HV HWD
      have zs : (⟨#[32]⟩ : ByteArray).size = 1 := rfl
      have y0 : (WD).size + (⟨#[32]⟩ : ByteArray).size ≤ 200 := by (try simp only [ByteArray.size_append]); omega
      have A0 : ∀ W : World, (Op.stringOp .add (WD) (⟨#[32]⟩ : ByteArray)).run Tryd.prog W = .ok (.string (WD ++ (⟨#[32]⟩ : ByteArray))) W := fun W => run_string_add_sum W _ _ (by omega)
      have B0 : ∀ W : World, (binOp .add 9 (.string (WD)) (.string (⟨#[32]⟩ : ByteArray))).run Tryd.prog W = .ok (.string (WD ++ (⟨#[32]⟩ : ByteArray))) W := fun W => A0 W
      have y1 : (WD ++ (⟨#[32]⟩ : ByteArray)).size + T1.size ≤ 200 := by (try simp only [ByteArray.size_append]); omega
      have A1 : ∀ W : World, (Op.stringOp .add (WD ++ (⟨#[32]⟩ : ByteArray)) T1).run Tryd.prog W = .ok (.string (WD ++ (⟨#[32]⟩ : ByteArray) ++ T1)) W := fun W => run_string_add_sum W _ _ (by omega)
      have B1 : ∀ W : World, (binOp .add 9 (.string (WD ++ (⟨#[32]⟩ : ByteArray))) (.string T1)).run Tryd.prog W = .ok (.string (WD ++ (⟨#[32]⟩ : ByteArray) ++ T1)) W := fun W => A1 W
      have y2 : (WD ++ (⟨#[32]⟩ : ByteArray) ++ T1).size + (⟨#[32]⟩ : ByteArray).size ≤ 200 := by (try simp only [ByteArray.size_append]); omega
      have A2 : ∀ W : World, (Op.stringOp .add (WD ++ (⟨#[32]⟩ : ByteArray) ++ T1) (⟨#[32]⟩ : ByteArray)).run Tryd.prog W = .ok (.string (WD ++ (⟨#[32]⟩ : ByteArray) ++ T1 ++ (⟨#[32]⟩ : ByteArray))) W := fun W => run_string_add_sum W _ _ (by omega)
      have B2 : ∀ W : World, (binOp .add 9 (.string (WD ++ (⟨#[32]⟩ : ByteArray) ++ T1)) (.string (⟨#[32]⟩ : ByteArray))).run Tryd.prog W = .ok (.string (WD ++ (⟨#[32]⟩ : ByteArray) ++ T1 ++ (⟨#[32]⟩ : ByteArray))) W := fun W => A2 W
      have y3 : (WD ++ (⟨#[32]⟩ : ByteArray) ++ T1 ++ (⟨#[32]⟩ : ByteArray)).size + T2.size ≤ 200 := by (try simp only [ByteArray.size_append]); omega
      have A3 : ∀ W : World, (Op.stringOp .add (WD ++ (⟨#[32]⟩ : ByteArray) ++ T1 ++ (⟨#[32]⟩ : ByteArray)) T2).run Tryd.prog W = .ok (.string (WD ++ (⟨#[32]⟩ : ByteArray) ++ T1 ++ (⟨#[32]⟩ : ByteArray) ++ T2)) W := fun W => run_string_add_sum W _ _ (by omega)
      have B3 : ∀ W : World, (binOp .add 9 (.string (WD ++ (⟨#[32]⟩ : ByteArray) ++ T1 ++ (⟨#[32]⟩ : ByteArray))) (.string T2)).run Tryd.prog W = .ok (.string (WD ++ (⟨#[32]⟩ : ByteArray) ++ T1 ++ (⟨#[32]⟩ : ByteArray) ++ T2)) W := fun W => A3 W
      have y4 : (WD ++ (⟨#[32]⟩ : ByteArray) ++ T1 ++ (⟨#[32]⟩ : ByteArray) ++ T2).size + (⟨#[32]⟩ : ByteArray).size ≤ 200 := by (try simp only [ByteArray.size_append]); omega
      have A4 : ∀ W : World, (Op.stringOp .add (WD ++ (⟨#[32]⟩ : ByteArray) ++ T1 ++ (⟨#[32]⟩ : ByteArray) ++ T2) (⟨#[32]⟩ : ByteArray)).run Tryd.prog W = .ok (.string (WD ++ (⟨#[32]⟩ : ByteArray) ++ T1 ++ (⟨#[32]⟩ : ByteArray) ++ T2 ++ (⟨#[32]⟩ : ByteArray))) W := fun W => run_string_add_sum W _ _ (by omega)
      have B4 : ∀ W : World, (binOp .add 9 (.string (WD ++ (⟨#[32]⟩ : ByteArray) ++ T1 ++ (⟨#[32]⟩ : ByteArray) ++ T2)) (.string (⟨#[32]⟩ : ByteArray))).run Tryd.prog W = .ok (.string (WD ++ (⟨#[32]⟩ : ByteArray) ++ T1 ++ (⟨#[32]⟩ : ByteArray) ++ T2 ++ (⟨#[32]⟩ : ByteArray))) W := fun W => A4 W
      have y5 : (WD ++ (⟨#[32]⟩ : ByteArray) ++ T1 ++ (⟨#[32]⟩ : ByteArray) ++ T2 ++ (⟨#[32]⟩ : ByteArray)).size + T3.size ≤ 200 := by (try simp only [ByteArray.size_append]); omega
      have A5 : ∀ W : World, (Op.stringOp .add (WD ++ (⟨#[32]⟩ : ByteArray) ++ T1 ++ (⟨#[32]⟩ : ByteArray) ++ T2 ++ (⟨#[32]⟩ : ByteArray)) T3).run Tryd.prog W = .ok (.string (WD ++ (⟨#[32]⟩ : ByteArray) ++ T1 ++ (⟨#[32]⟩ : ByteArray) ++ T2 ++ (⟨#[32]⟩ : ByteArray) ++ T3)) W := fun W => run_string_add_sum W _ _ (by omega)
      have B5 : ∀ W : World, (binOp .add 9 (.string (WD ++ (⟨#[32]⟩ : ByteArray) ++ T1 ++ (⟨#[32]⟩ : ByteArray) ++ T2 ++ (⟨#[32]⟩ : ByteArray))) (.string T3)).run Tryd.prog W = .ok (.string (WD ++ (⟨#[32]⟩ : ByteArray) ++ T1 ++ (⟨#[32]⟩ : ByteArray) ++ T2 ++ (⟨#[32]⟩ : ByteArray) ++ T3)) W := fun W => A5 W
      clear y0 y1 y2 y3 y4 y5 zs
      go_wp2_with fail
      obtain ⟨v0, v1, v2, v3⟩ := q4_cells R3.out
      obtain ⟨x0, x1, x2, x3, x4, x6, x7⟩ := q8_cells X3.out
      replace R3 := Lib.hid (show wc.drew.rowIs w.heap.size 29 4 (q4 (.int .i64 p) (.int .i64 c) (.int .i64 h) (.int .i64 s)) from rowIs_drewN R3.out 1)
      replace X3 := Lib.hid (show wc.drew.rowIs (w.heap.size + 1) 33 8 (q8 x a1 a2 b1 b2 r f1 f2) from rowIs_drewN X3.out 1)
      replace HB3 := Lib.hid (show Below w.heap.size w wc.drew from below_drewN HB3.out 1)
      go_region_held3 (fun w' => w'.cell? ⟨w.heap.size, 0, none⟩ = some (.int .i64 p) ∧ w'.cell? ⟨w.heap.size, 1, none⟩ = some (.int .i64 c) ∧ w'.cell? ⟨w.heap.size, 2, none⟩ = some (.int .i64 h) ∧ w'.cell? ⟨w.heap.size, 3, none⟩ = some (.int .i64 s) ∧ w'.cell? ⟨w.heap.size + 1, 1, none⟩ = some (.int .i64 a1) ∧ w'.cell? ⟨w.heap.size + 1, 2, none⟩ = some (.int .i64 a2) ∧ w'.cell? ⟨w.heap.size + 1, 3, none⟩ = some (.int .i64 b1) ∧ w'.cell? ⟨w.heap.size + 1, 4, none⟩ = some (.int .i64 b2) ∧ w'.cell? ⟨w.heap.size + 1, 6, none⟩ = some (.int .i64 f1) ∧ w'.cell? ⟨w.heap.size + 1, 7, none⟩ = some (.int .i64 f2))
        (go_keep)
        ((go_at_call 14; (first
          | ((with_reducible refine (E1.out _ HB3.out).mono ?_); rintro e wE1 ⟨rfl, hb⟩; replace R3 := Lib.hid (rowIs_below R3.out hb R3.out.lt); replace X3 := Lib.hid (rowIs_below X3.out hb X3.out.lt); replace HB3 := Lib.hid (HB3.out.trans (hb.mono HB3.out.size)); clear hb; obtain ⟨v0, v1, v2, v3⟩ := q4_cells R3.out; obtain ⟨x0, x1, x2, x3, x4, x6, x7⟩ := q8_cells X3.out)
          | ((with_reducible refine (E2.out _ HB3.out).mono ?_); rintro e wE2 ⟨rfl, hb⟩; replace R3 := Lib.hid (rowIs_below R3.out hb R3.out.lt); replace X3 := Lib.hid (rowIs_below X3.out hb X3.out.lt); replace HB3 := Lib.hid (HB3.out.trans (hb.mono HB3.out.size)); clear hb; obtain ⟨v0, v1, v2, v3⟩ := q4_cells R3.out; obtain ⟨x0, x1, x2, x3, x4, x6, x7⟩ := q8_cells X3.out)
          | ((with_reducible refine (E3.out _ HB3.out).mono ?_); rintro e wE3 ⟨rfl, hb⟩; replace R3 := Lib.hid (rowIs_below R3.out hb R3.out.lt); replace X3 := Lib.hid (rowIs_below X3.out hb X3.out.lt); replace HB3 := Lib.hid (HB3.out.trans (hb.mono HB3.out.size)); clear hb; obtain ⟨v0, v1, v2, v3⟩ := q4_cells R3.out; obtain ⟨x0, x1, x2, x3, x4, x6, x7⟩ := q8_cells X3.out)
          )))
      all_goals
        go_wp2_with fail
        go_ret
        exact ⟨ret_str HV2.out, HB3.out⟩
  · have hC1 : (C == 0) = false := by simpa using hC0
    have HV := Lib.hid (dcT_no (p := p) (c := c) (h := h) (s := s) (x := x) (a1 := a1) (a2 := a2) (b1 := b1) (b2 := b2) (f1 := f1) (f2 := f2) (by rw [← HCD.out]; exact hC1))
    clear hK
    go_enter Tryd.func7, Tryd.ntmps7
    obtain ⟨v0, v1, v2, v3⟩ := q4_cells R0.out
    obtain ⟨x0, x1, x2, x3, x4, x6, x7⟩ := q8_cells X0.out
    go_wp2_with fail
    (with_reducible refine (WI.out _).mono ?_)
    rintro e w1 ⟨rfl, rfl⟩
    go_wp2_with fail
    (with_reducible refine (CE.out _ _ (by simp) (by have := six_at ((w.alloc (.cells #[.int .i64 p, .int .i64 c, .int .i64 h, .int .i64 s] 29)).alloc (.cells #[.int .i64 x, .int .i64 a1, .int .i64 a2, .int .i64 b1, .int .i64 b2, .int .i64 r, .int .i64 f1, .int .i64 f2] 33)) a1 a2 b1 b2 f1 f2 31; simp only [World.size_alloc] at this; exact this)).mono ?_)
    rintro e w2 ⟨rfl, hb2⟩
    have HB2 := Lib.hid ((HB0.out.alloc HB0.out.size _).trans (hb2.mono (HB0.out.alloc HB0.out.size _).size))
    have R2 := Lib.hid (rowIs_below (R0.out.alloc _) hb2 (R0.out.alloc _).lt)
    have X2 := Lib.hid (rowIs_below (X0.out.alloc _) hb2 (X0.out.alloc _).lt)
    clear hb2 v0 v1 v2 v3 x0 x1 x2 x3 x4 x6 x7
    go_wp2_with fail
    go_ret
    exact ⟨ret_str HV.out, HB2.out⟩
set_option maxHeartbeats 3200000 in
theorem spec_DecisionText_any (p c h s x a1 a2 b1 b2 r f1 f2 : Int) (w : World) (ha : a2 ≤ 9223372036854775807) (hbb : b2 ≤ 9223372036854775807) (hf : f2 ≤ 9223372036854775807) : Calls Tryd.prog 4 #[vrV p c h s, .agg #[.int .i64 x, .int .i64 a1, .int .i64 a2, .int .i64 b1, .int .i64 b2, .int .i64 r, .int .i64 f1, .int .i64 f2]] w fun e w' => e = .returned (.string (dcT p c h s x a1 a2 b1 b2 f1 f2)) ∧ Below w.heap.size w w' := by
  have HB0 := Lib.hid (((Below.refl w.heap.size w).alloc (Nat.le_refl _) (.cells #[.int .i64 p, .int .i64 c, .int .i64 h, .int .i64 s] 29)).alloc (by simp) (.cells #[.int .i64 x, .int .i64 a1, .int .i64 a2, .int .i64 b1, .int .i64 b2, .int .i64 r, .int .i64 f1, .int .i64 f2] 33))
  have R0 := Lib.hid ((q4_new w (.int .i64 p) (.int .i64 c) (.int .i64 h) (.int .i64 s) 29).alloc (.cells #[.int .i64 x, .int .i64 a1, .int .i64 a2, .int .i64 b1, .int .i64 b2, .int .i64 r, .int .i64 f1, .int .i64 f2] 33))
  have X0 := Lib.hid (show ((w.alloc (.cells #[.int .i64 p, .int .i64 c, .int .i64 h, .int .i64 s] 29)).alloc (.cells #[.int .i64 x, .int .i64 a1, .int .i64 a2, .int .i64 b1, .int .i64 b2, .int .i64 r, .int .i64 f1, .int .i64 f2] 33)).rowIs (w.heap.size + 1) 33 8 (q8 x a1 a2 b1 b2 r f1 f2) by have := q8_new (w.alloc (.cells #[.int .i64 p, .int .i64 c, .int .i64 h, .int .i64 s] 29)) x a1 a2 b1 b2 r f1 f2 33; rwa [World.size_alloc] at this)
  obtain ⟨K, hK⟩ : ∃ K, wB x 0 4 = K := ⟨_, rfl⟩
  have WI := Lib.hid (fun W => hK ▸ l01In_any x 0 4 W)
  cases K
  · have HV := Lib.hid (dcT_no (p := p) (c := c) (h := h) (s := s) (x := x) (a1 := a1) (a2 := a2) (b1 := b1) (b2 := b2) (f1 := f1) (f2 := f2) (by rw [dcB, hK]; rfl))
    clear hK
    go_enter Tryd.func4, Tryd.ntmps4
    obtain ⟨v0, v1, v2, v3⟩ := q4_cells R0.out
    obtain ⟨x0, x1, x2, x3, x4, x6, x7⟩ := q8_cells X0.out
    go_wp2_with fail
    (with_reducible refine (WI.out _).mono ?_)
    rintro e w1 ⟨rfl, rfl⟩
    go_wp2_with fail
    go_ret
    exact ⟨ret_str HV.out, HB0.out⟩
  obtain ⟨k0, k4⟩ := wB_true.1 hK
  obtain ⟨K0, hK0⟩ : ∃ K, ixB p c h s a1 a2 = K := ⟨_, rfl⟩
  have IX0 := Lib.hid (fun W => hK0 ▸ spec_IsExact_any p c h s a1 a2 W ha)
  obtain ⟨K1, hK1⟩ : ∃ K, ixB p c h s b1 b2 = K := ⟨_, rfl⟩
  have IX1 := Lib.hid (fun W => hK1 ▸ spec_IsExact_any p c h s b1 b2 W hbb)
  obtain ⟨K2, hK2⟩ : ∃ K, ixB p c h s f1 f2 = K := ⟨_, rfl⟩
  have IX2 := Lib.hid (fun W => hK2 ▸ spec_IsExact_any p c h s f1 f2 W hf)
  have HDB := Lib.hid (show dcB p c h s x a1 a2 b1 b2 f1 f2 = (K0 && (K1 && K2)) by rw [dcB, hK, hK0, hK1, hK2]; rfl)
  clear hK hK0 hK1 hK2
  cases K0
  · have HV := Lib.hid (dcT_no (p := p) (c := c) (h := h) (s := s) (x := x) (a1 := a1) (a2 := a2) (b1 := b1) (b2 := b2) (f1 := f1) (f2 := f2) (by rw [HDB.out]; rfl))
    go_enter Tryd.func4, Tryd.ntmps4
    obtain ⟨v0, v1, v2, v3⟩ := q4_cells R0.out
    obtain ⟨x0, x1, x2, x3, x4, x6, x7⟩ := q8_cells X0.out
    go_wp2_with fail
    (with_reducible refine (WI.out _).mono ?_)
    rintro e w1 ⟨rfl, rfl⟩
    go_wp2_with fail
    (with_reducible refine (IX0.out _).mono ?_)
    rintro e wx0 ⟨rfl, hb2⟩
    have HB10 := Lib.hid (HB0.out.trans (hb2.mono HB0.out.size))
    have R10 := Lib.hid (rowIs_below R0.out hb2 R0.out.lt)
    have X10 := Lib.hid (rowIs_below X0.out hb2 X0.out.lt)
    clear hb2 v0 v1 v2 v3 x0 x1 x2 x3 x4 x6 x7
    go_wp2_with fail
    go_ret
    exact ⟨ret_str HV.out, HB10.out⟩
  cases K1
  · have HV := Lib.hid (dcT_no (p := p) (c := c) (h := h) (s := s) (x := x) (a1 := a1) (a2 := a2) (b1 := b1) (b2 := b2) (f1 := f1) (f2 := f2) (by rw [HDB.out]; rfl))
    go_enter Tryd.func4, Tryd.ntmps4
    obtain ⟨v0, v1, v2, v3⟩ := q4_cells R0.out
    obtain ⟨x0, x1, x2, x3, x4, x6, x7⟩ := q8_cells X0.out
    go_wp2_with fail
    (with_reducible refine (WI.out _).mono ?_)
    rintro e w1 ⟨rfl, rfl⟩
    go_wp2_with fail
    (with_reducible refine (IX0.out _).mono ?_)
    rintro e wx0 ⟨rfl, hb2⟩
    have HB10 := Lib.hid (HB0.out.trans (hb2.mono HB0.out.size))
    have R10 := Lib.hid (rowIs_below R0.out hb2 R0.out.lt)
    have X10 := Lib.hid (rowIs_below X0.out hb2 X0.out.lt)
    clear hb2 v0 v1 v2 v3 x0 x1 x2 x3 x4 x6 x7
    obtain ⟨v0, v1, v2, v3⟩ := q4_cells R10.out
    obtain ⟨x0, x1, x2, x3, x4, x6, x7⟩ := q8_cells X10.out
    go_wp2_with fail
    (with_reducible refine (IX1.out _).mono ?_)
    rintro e wx1 ⟨rfl, hb2⟩
    have HB11 := Lib.hid (HB10.out.trans (hb2.mono HB10.out.size))
    have R11 := Lib.hid (rowIs_below R10.out hb2 R10.out.lt)
    have X11 := Lib.hid (rowIs_below X10.out hb2 X10.out.lt)
    clear hb2 v0 v1 v2 v3 x0 x1 x2 x3 x4 x6 x7
    go_wp2_with fail
    go_ret
    exact ⟨ret_str HV.out, HB11.out⟩
  cases K2
  · have HV := Lib.hid (dcT_no (p := p) (c := c) (h := h) (s := s) (x := x) (a1 := a1) (a2 := a2) (b1 := b1) (b2 := b2) (f1 := f1) (f2 := f2) (by rw [HDB.out]; rfl))
    go_enter Tryd.func4, Tryd.ntmps4
    obtain ⟨v0, v1, v2, v3⟩ := q4_cells R0.out
    obtain ⟨x0, x1, x2, x3, x4, x6, x7⟩ := q8_cells X0.out
    go_wp2_with fail
    (with_reducible refine (WI.out _).mono ?_)
    rintro e w1 ⟨rfl, rfl⟩
    go_wp2_with fail
    (with_reducible refine (IX0.out _).mono ?_)
    rintro e wx0 ⟨rfl, hb2⟩
    have HB10 := Lib.hid (HB0.out.trans (hb2.mono HB0.out.size))
    have R10 := Lib.hid (rowIs_below R0.out hb2 R0.out.lt)
    have X10 := Lib.hid (rowIs_below X0.out hb2 X0.out.lt)
    clear hb2 v0 v1 v2 v3 x0 x1 x2 x3 x4 x6 x7
    obtain ⟨v0, v1, v2, v3⟩ := q4_cells R10.out
    obtain ⟨x0, x1, x2, x3, x4, x6, x7⟩ := q8_cells X10.out
    go_wp2_with fail
    (with_reducible refine (IX1.out _).mono ?_)
    rintro e wx1 ⟨rfl, hb2⟩
    have HB11 := Lib.hid (HB10.out.trans (hb2.mono HB10.out.size))
    have R11 := Lib.hid (rowIs_below R10.out hb2 R10.out.lt)
    have X11 := Lib.hid (rowIs_below X10.out hb2 X10.out.lt)
    clear hb2 v0 v1 v2 v3 x0 x1 x2 x3 x4 x6 x7
    obtain ⟨v0, v1, v2, v3⟩ := q4_cells R11.out
    obtain ⟨x0, x1, x2, x3, x4, x6, x7⟩ := q8_cells X11.out
    go_wp2_with fail
    (with_reducible refine (IX2.out _).mono ?_)
    rintro e wx2 ⟨rfl, hb2⟩
    have HB12 := Lib.hid (HB11.out.trans (hb2.mono HB11.out.size))
    have R12 := Lib.hid (rowIs_below R11.out hb2 R11.out.lt)
    have X12 := Lib.hid (rowIs_below X11.out hb2 X11.out.lt)
    clear hb2 v0 v1 v2 v3 x0 x1 x2 x3 x4 x6 x7
    go_wp2_with fail
    go_ret
    exact ⟨ret_str HV.out, HB12.out⟩
  · have HV := Lib.hid (dcT_yes (p := p) (c := c) (h := h) (s := s) (x := x) (a1 := a1) (a2 := a2) (b1 := b1) (b2 := b2) (f1 := f1) (f2 := f2) (by rw [HDB.out]; rfl))
    go_enter Tryd.func4, Tryd.ntmps4
    obtain ⟨v0, v1, v2, v3⟩ := q4_cells R0.out
    obtain ⟨x0, x1, x2, x3, x4, x6, x7⟩ := q8_cells X0.out
    go_wp2_with fail
    (with_reducible refine (WI.out _).mono ?_)
    rintro e w1 ⟨rfl, rfl⟩
    go_wp2_with fail
    (with_reducible refine (IX0.out _).mono ?_)
    rintro e wx0 ⟨rfl, hb2⟩
    have HB10 := Lib.hid (HB0.out.trans (hb2.mono HB0.out.size))
    have R10 := Lib.hid (rowIs_below R0.out hb2 R0.out.lt)
    have X10 := Lib.hid (rowIs_below X0.out hb2 X0.out.lt)
    clear hb2 v0 v1 v2 v3 x0 x1 x2 x3 x4 x6 x7
    obtain ⟨v0, v1, v2, v3⟩ := q4_cells R10.out
    obtain ⟨x0, x1, x2, x3, x4, x6, x7⟩ := q8_cells X10.out
    go_wp2_with fail
    (with_reducible refine (IX1.out _).mono ?_)
    rintro e wx1 ⟨rfl, hb2⟩
    have HB11 := Lib.hid (HB10.out.trans (hb2.mono HB10.out.size))
    have R11 := Lib.hid (rowIs_below R10.out hb2 R10.out.lt)
    have X11 := Lib.hid (rowIs_below X10.out hb2 X10.out.lt)
    clear hb2 v0 v1 v2 v3 x0 x1 x2 x3 x4 x6 x7
    obtain ⟨v0, v1, v2, v3⟩ := q4_cells R11.out
    obtain ⟨x0, x1, x2, x3, x4, x6, x7⟩ := q8_cells X11.out
    go_wp2_with fail
    (with_reducible refine (IX2.out _).mono ?_)
    rintro e wx2 ⟨rfl, hb2⟩
    have HB12 := Lib.hid (HB11.out.trans (hb2.mono HB11.out.size))
    have R12 := Lib.hid (rowIs_below R11.out hb2 R11.out.lt)
    have X12 := Lib.hid (rowIs_below X11.out hb2 X11.out.lt)
    clear hb2 v0 v1 v2 v3 x0 x1 x2 x3 x4 x6 x7
    obtain ⟨v0, v1, v2, v3⟩ := q4_cells R12.out
    obtain ⟨x0, x1, x2, x3, x4, x6, x7⟩ := q8_cells X12.out
    have hl2 : w.heap.size + 1 < wx2.heap.size := X12.out.lt
    go_upto_region 3 with fail
    go_cut [5] (fun t wx => ∃ WD : ByteArray, t = .string WD ∧ WD.size ≤ 7 ∧ Hid (wdT x = WD) ∧ Hid (Below w.heap.size w wx) ∧ Hid (wx.rowIs w.heap.size 29 4 (q4 (.int .i64 p) (.int .i64 c) (.int .i64 h) (.int .i64 s))) ∧ Hid (wx.rowIs (w.heap.size + 1) 33 8 (q8 x a1 a2 b1 b2 r f1 f2)))
    case first =>
      have hx5 : x = 0 ∨ x = 1 ∨ x = 2 ∨ x = 3 ∨ x = 4 := by omega
      rcases hx5 with rfl | rfl | rfl | rfl | rfl
      all_goals
        go_wp2_with fail
        go_meet
        exact ⟨_, rfl, by decide, Lib.hid rfl, Lib.hid (HB12.out.alloc HB12.out.size _), Lib.hid (R12.out.alloc _), Lib.hid (X12.out.alloc _)⟩
    case rest =>
      obtain ⟨WD, rfl, hwz, HWD, HB3, R3, X3⟩ := hcut
      clear v0 v1 v2 v3 x0 x1 x2 x3 x4 x6 x7
      obtain ⟨T1, hT1⟩ : ∃ T, exT p c h s a1 a2 = T := ⟨_, rfl⟩
      have z1 : T1.size ≤ 41 := hT1 ▸ exT_size p c h s a1 a2
      have E1 := Lib.hid (fun W (hW : Below w.heap.size w W) => hT1 ▸ spec_ExactText_any p c h s a1 a2 W ha)
      obtain ⟨T2, hT2⟩ : ∃ T, exT p c h s b1 b2 = T := ⟨_, rfl⟩
      have z2 : T2.size ≤ 41 := hT2 ▸ exT_size p c h s b1 b2
      have E2 := Lib.hid (fun W (hW : Below w.heap.size w W) => hT2 ▸ spec_ExactText_any p c h s b1 b2 W hbb)
      obtain ⟨T3, hT3⟩ : ∃ T, exT p c h s f1 f2 = T := ⟨_, rfl⟩
      have z3 : T3.size ≤ 41 := hT3 ▸ exT_size p c h s f1 f2
      have E3 := Lib.hid (fun W (hW : Below w.heap.size w W) => hT3 ▸ spec_ExactText_any p c h s f1 f2 W hf)
      have HV2 := Lib.hid (show dcT p c h s x a1 a2 b1 b2 f1 f2 = WD ++ (⟨#[32]⟩ : ByteArray) ++ T1 ++ (⟨#[32]⟩ : ByteArray) ++ T2 ++ (⟨#[32]⟩ : ByteArray) ++ T3 by rw [HV.out, HWD.out, hT1, hT2, hT3])
      clear hT1 hT2 hT3 HV HWD
      have zs : (⟨#[32]⟩ : ByteArray).size = 1 := rfl
      have y0 : (WD).size + (⟨#[32]⟩ : ByteArray).size ≤ 200 := by (try simp only [ByteArray.size_append]); omega
      have A0 : ∀ W : World, (Op.stringOp .add (WD) (⟨#[32]⟩ : ByteArray)).run Tryd.prog W = .ok (.string (WD ++ (⟨#[32]⟩ : ByteArray))) W := fun W => run_string_add_sum W _ _ (by omega)
      have B0 : ∀ W : World, (binOp .add 9 (.string (WD)) (.string (⟨#[32]⟩ : ByteArray))).run Tryd.prog W = .ok (.string (WD ++ (⟨#[32]⟩ : ByteArray))) W := fun W => A0 W
      have y1 : (WD ++ (⟨#[32]⟩ : ByteArray)).size + T1.size ≤ 200 := by (try simp only [ByteArray.size_append]); omega
      have A1 : ∀ W : World, (Op.stringOp .add (WD ++ (⟨#[32]⟩ : ByteArray)) T1).run Tryd.prog W = .ok (.string (WD ++ (⟨#[32]⟩ : ByteArray) ++ T1)) W := fun W => run_string_add_sum W _ _ (by omega)
      have B1 : ∀ W : World, (binOp .add 9 (.string (WD ++ (⟨#[32]⟩ : ByteArray))) (.string T1)).run Tryd.prog W = .ok (.string (WD ++ (⟨#[32]⟩ : ByteArray) ++ T1)) W := fun W => A1 W
      have y2 : (WD ++ (⟨#[32]⟩ : ByteArray) ++ T1).size + (⟨#[32]⟩ : ByteArray).size ≤ 200 := by (try simp only [ByteArray.size_append]); omega
      have A2 : ∀ W : World, (Op.stringOp .add (WD ++ (⟨#[32]⟩ : ByteArray) ++ T1) (⟨#[32]⟩ : ByteArray)).run Tryd.prog W = .ok (.string (WD ++ (⟨#[32]⟩ : ByteArray) ++ T1 ++ (⟨#[32]⟩ : ByteArray))) W := fun W => run_string_add_sum W _ _ (by omega)
      have B2 : ∀ W : World, (binOp .add 9 (.string (WD ++ (⟨#[32]⟩ : ByteArray) ++ T1)) (.string (⟨#[32]⟩ : ByteArray))).run Tryd.prog W = .ok (.string (WD ++ (⟨#[32]⟩ : ByteArray) ++ T1 ++ (⟨#[32]⟩ : ByteArray))) W := fun W => A2 W
      have y3 : (WD ++ (⟨#[32]⟩ : ByteArray) ++ T1 ++ (⟨#[32]⟩ : ByteArray)).size + T2.size ≤ 200 := by (try simp only [ByteArray.size_append]); omega
      have A3 : ∀ W : World, (Op.stringOp .add (WD ++ (⟨#[32]⟩ : ByteArray) ++ T1 ++ (⟨#[32]⟩ : ByteArray)) T2).run Tryd.prog W = .ok (.string (WD ++ (⟨#[32]⟩ : ByteArray) ++ T1 ++ (⟨#[32]⟩ : ByteArray) ++ T2)) W := fun W => run_string_add_sum W _ _ (by omega)
      have B3 : ∀ W : World, (binOp .add 9 (.string (WD ++ (⟨#[32]⟩ : ByteArray) ++ T1 ++ (⟨#[32]⟩ : ByteArray))) (.string T2)).run Tryd.prog W = .ok (.string (WD ++ (⟨#[32]⟩ : ByteArray) ++ T1 ++ (⟨#[32]⟩ : ByteArray) ++ T2)) W := fun W => A3 W
      have y4 : (WD ++ (⟨#[32]⟩ : ByteArray) ++ T1 ++ (⟨#[32]⟩ : ByteArray) ++ T2).size + (⟨#[32]⟩ : ByteArray).size ≤ 200 := by (try simp only [ByteArray.size_append]); omega
      have A4 : ∀ W : World, (Op.stringOp .add (WD ++ (⟨#[32]⟩ : ByteArray) ++ T1 ++ (⟨#[32]⟩ : ByteArray) ++ T2) (⟨#[32]⟩ : ByteArray)).run Tryd.prog W = .ok (.string (WD ++ (⟨#[32]⟩ : ByteArray) ++ T1 ++ (⟨#[32]⟩ : ByteArray) ++ T2 ++ (⟨#[32]⟩ : ByteArray))) W := fun W => run_string_add_sum W _ _ (by omega)
      have B4 : ∀ W : World, (binOp .add 9 (.string (WD ++ (⟨#[32]⟩ : ByteArray) ++ T1 ++ (⟨#[32]⟩ : ByteArray) ++ T2)) (.string (⟨#[32]⟩ : ByteArray))).run Tryd.prog W = .ok (.string (WD ++ (⟨#[32]⟩ : ByteArray) ++ T1 ++ (⟨#[32]⟩ : ByteArray) ++ T2 ++ (⟨#[32]⟩ : ByteArray))) W := fun W => A4 W
      have y5 : (WD ++ (⟨#[32]⟩ : ByteArray) ++ T1 ++ (⟨#[32]⟩ : ByteArray) ++ T2 ++ (⟨#[32]⟩ : ByteArray)).size + T3.size ≤ 200 := by (try simp only [ByteArray.size_append]); omega
      have A5 : ∀ W : World, (Op.stringOp .add (WD ++ (⟨#[32]⟩ : ByteArray) ++ T1 ++ (⟨#[32]⟩ : ByteArray) ++ T2 ++ (⟨#[32]⟩ : ByteArray)) T3).run Tryd.prog W = .ok (.string (WD ++ (⟨#[32]⟩ : ByteArray) ++ T1 ++ (⟨#[32]⟩ : ByteArray) ++ T2 ++ (⟨#[32]⟩ : ByteArray) ++ T3)) W := fun W => run_string_add_sum W _ _ (by omega)
      have B5 : ∀ W : World, (binOp .add 9 (.string (WD ++ (⟨#[32]⟩ : ByteArray) ++ T1 ++ (⟨#[32]⟩ : ByteArray) ++ T2 ++ (⟨#[32]⟩ : ByteArray))) (.string T3)).run Tryd.prog W = .ok (.string (WD ++ (⟨#[32]⟩ : ByteArray) ++ T1 ++ (⟨#[32]⟩ : ByteArray) ++ T2 ++ (⟨#[32]⟩ : ByteArray) ++ T3)) W := fun W => A5 W
      clear y0 y1 y2 y3 y4 y5 zs
      go_wp2_with fail
      obtain ⟨v0, v1, v2, v3⟩ := q4_cells R3.out
      obtain ⟨x0, x1, x2, x3, x4, x6, x7⟩ := q8_cells X3.out
      replace R3 := Lib.hid (show wc.drew.rowIs w.heap.size 29 4 (q4 (.int .i64 p) (.int .i64 c) (.int .i64 h) (.int .i64 s)) from rowIs_drewN R3.out 1)
      replace X3 := Lib.hid (show wc.drew.rowIs (w.heap.size + 1) 33 8 (q8 x a1 a2 b1 b2 r f1 f2) from rowIs_drewN X3.out 1)
      replace HB3 := Lib.hid (show Below w.heap.size w wc.drew from below_drewN HB3.out 1)
      go_region_held3 (fun w' => w'.cell? ⟨w.heap.size, 0, none⟩ = some (.int .i64 p) ∧ w'.cell? ⟨w.heap.size, 1, none⟩ = some (.int .i64 c) ∧ w'.cell? ⟨w.heap.size, 2, none⟩ = some (.int .i64 h) ∧ w'.cell? ⟨w.heap.size, 3, none⟩ = some (.int .i64 s) ∧ w'.cell? ⟨w.heap.size + 1, 1, none⟩ = some (.int .i64 a1) ∧ w'.cell? ⟨w.heap.size + 1, 2, none⟩ = some (.int .i64 a2) ∧ w'.cell? ⟨w.heap.size + 1, 3, none⟩ = some (.int .i64 b1) ∧ w'.cell? ⟨w.heap.size + 1, 4, none⟩ = some (.int .i64 b2) ∧ w'.cell? ⟨w.heap.size + 1, 6, none⟩ = some (.int .i64 f1) ∧ w'.cell? ⟨w.heap.size + 1, 7, none⟩ = some (.int .i64 f2))
        (go_keep)
        ((go_at_call 10; (first
          | ((with_reducible refine (E1.out _ HB3.out).mono ?_); rintro e wE1 ⟨rfl, hb⟩; replace R3 := Lib.hid (rowIs_below R3.out hb R3.out.lt); replace X3 := Lib.hid (rowIs_below X3.out hb X3.out.lt); replace HB3 := Lib.hid (HB3.out.trans (hb.mono HB3.out.size)); clear hb; obtain ⟨v0, v1, v2, v3⟩ := q4_cells R3.out; obtain ⟨x0, x1, x2, x3, x4, x6, x7⟩ := q8_cells X3.out)
          | ((with_reducible refine (E2.out _ HB3.out).mono ?_); rintro e wE2 ⟨rfl, hb⟩; replace R3 := Lib.hid (rowIs_below R3.out hb R3.out.lt); replace X3 := Lib.hid (rowIs_below X3.out hb X3.out.lt); replace HB3 := Lib.hid (HB3.out.trans (hb.mono HB3.out.size)); clear hb; obtain ⟨v0, v1, v2, v3⟩ := q4_cells R3.out; obtain ⟨x0, x1, x2, x3, x4, x6, x7⟩ := q8_cells X3.out)
          | ((with_reducible refine (E3.out _ HB3.out).mono ?_); rintro e wE3 ⟨rfl, hb⟩; replace R3 := Lib.hid (rowIs_below R3.out hb R3.out.lt); replace X3 := Lib.hid (rowIs_below X3.out hb X3.out.lt); replace HB3 := Lib.hid (HB3.out.trans (hb.mono HB3.out.size)); clear hb; obtain ⟨v0, v1, v2, v3⟩ := q4_cells R3.out; obtain ⟨x0, x1, x2, x3, x4, x6, x7⟩ := q8_cells X3.out)
          )))
      all_goals
        go_wp2_with fail
        go_ret
        exact ⟨ret_str HV2.out, HB3.out⟩
end Go.Proofs.YtmhmhbiihcdgiaaDoor
