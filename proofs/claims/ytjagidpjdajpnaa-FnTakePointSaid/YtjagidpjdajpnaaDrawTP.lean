/-
  The draw of DrawTakePoint: three shares, mostly in order.
-/
import Derived.Test.YtjagidpjdajpnaaDrawT
import Derived.Test.YtjagidpjdajpnaaCmp
namespace Go.Proofs.Ytjagidpjdajpnaa
open Go.ChangeShapes Go.WideShapes Go.ChangeAt Go.RowKit
set_option linter.unusedVariables false

/-- a block of six integers -/
def six (a b c d e f : Int) : Nat → Value
  | 0 => .int .i64 a
  | 1 => .int .i64 b
  | 2 => .int .i64 c
  | 3 => .int .i64 d
  | 4 => .int .i64 e
  | _ => .int .i64 f
theorem six_new (w : World) (a b c d e f : Int) (t : TypeId) : (w.alloc (.cells #[.int .i64 a, .int .i64 b, .int .i64 c, .int .i64 d, .int .i64 e, .int .i64 f] t)).rowIs w.heap.size t 6 (six a b c d e f) :=
  World.rowIs_alloc w _ _ _ (fun j hj => by
    match j, hj with
    | 0, _ => rfl
    | 1, _ => rfl
    | 2, _ => rfl
    | 3, _ => rfl
    | 4, _ => rfl
    | 5, _ => rfl)
section
variable {w : World} {g t : Nat} {a b c d e f : Int}
theorem six_cells (h : w.rowIs g t 6 (six a b c d e f)) : w.cell? ⟨g, 0, none⟩ = some (.int .i64 a) ∧ w.cell? ⟨g, 1, none⟩ = some (.int .i64 b) ∧ w.cell? ⟨g, 2, none⟩ = some (.int .i64 c) ∧ w.cell? ⟨g, 3, none⟩ = some (.int .i64 d) ∧ w.cell? ⟨g, 4, none⟩ = some (.int .i64 e) ∧ w.cell? ⟨g, 5, none⟩ = some (.int .i64 f) :=
  ⟨h.cell (i := 0) (by omega), h.cell (i := 1) (by omega), h.cell (i := 2) (by omega), h.cell (i := 3) (by omega), h.cell (i := 4) (by omega), h.cell (i := 5) (by omega)⟩
theorem six_frozen (h : w.rowIs g t 6 (six a b c d e f)) : w.frozen? ⟨g, 0, none⟩ = false ∧ w.frozen? ⟨g, 1, none⟩ = false ∧ w.frozen? ⟨g, 2, none⟩ = false ∧ w.frozen? ⟨g, 3, none⟩ = false ∧ w.frozen? ⟨g, 4, none⟩ = false ∧ w.frozen? ⟨g, 5, none⟩ = false :=
  ⟨h.frozen 0, h.frozen 1, h.frozen 2, h.frozen 3, h.frozen 4, h.frozen 5⟩
theorem six_swap0 (h : w.rowIs g t 6 (six a b c d e f)) : ((((w.setCell ⟨g, 0, none⟩ (.int .i64 c)).setCell ⟨g, 1, none⟩ (.int .i64 d)).setCell ⟨g, 2, none⟩ (.int .i64 a)).setCell ⟨g, 3, none⟩ (.int .i64 b)).rowIs g t 6 (six c d a b e f) :=
  ((((h.set 0 _).set 1 _).set 2 _).set 3 _).congr (fun j hj => by
    match j, hj with
    | 0, _ => rfl
    | 1, _ => rfl
    | 2, _ => rfl
    | 3, _ => rfl
    | 4, _ => rfl
    | 5, _ => rfl)
theorem six_swap1 (h : w.rowIs g t 6 (six a b c d e f)) : ((((w.setCell ⟨g, 2, none⟩ (.int .i64 e)).setCell ⟨g, 3, none⟩ (.int .i64 f)).setCell ⟨g, 4, none⟩ (.int .i64 c)).setCell ⟨g, 5, none⟩ (.int .i64 d)).rowIs g t 6 (six a b e f c d) :=
  ((((h.set 2 _).set 3 _).set 4 _).set 5 _).congr (fun j hj => by
    match j, hj with
    | 0, _ => rfl
    | 1, _ => rfl
    | 2, _ => rfl
    | 3, _ => rfl
    | 4, _ => rfl
    | 5, _ => rfl)
end

theorem six_ret {w : World} {b c d t : Nat} (h : w.rowIs b t 2 (two 0 0)) (k : w.rowIs c t 2 (two 0 0)) (l : w.rowIs d t 2 (two 0 0)) (h1 : ¬ b = c) (h2 : ¬ b = d) (h3 : ¬ c = d) (x y p q r s : Int) :
    let W := (((((w.setCell ⟨b, 0, none⟩ (.int .i64 x)).setCell ⟨b, 1, none⟩ (.int .i64 y)).setCell ⟨c, 0, none⟩ (.int .i64 p)).setCell ⟨c, 1, none⟩ (.int .i64 q)).setCell ⟨d, 0, none⟩ (.int .i64 r)).setCell ⟨d, 1, none⟩ (.int .i64 s)
    W.cell? ⟨b, 0, none⟩ = some (.int .i64 x) ∧ W.cell? ⟨b, 1, none⟩ = some (.int .i64 y) ∧ W.cell? ⟨c, 0, none⟩ = some (.int .i64 p) ∧ W.cell? ⟨c, 1, none⟩ = some (.int .i64 q) ∧ W.cell? ⟨d, 0, none⟩ = some (.int .i64 r) ∧ W.cell? ⟨d, 1, none⟩ = some (.int .i64 s) := by
  have e1 := keep4 (two_set h x y) c d h1 h2 (.int .i64 p) (.int .i64 q) (.int .i64 r) (.int .i64 s)
  have e2 := rowIs_other2 (rowIs_other2 (two_set (rowIs_other2 (rowIs_other2 k b (fun e => h1 e.symm) 0 (.int .i64 x)) b (fun e => h1 e.symm) 1 (.int .i64 y)) p q) d h3 0 (.int .i64 r)) d h3 1 (.int .i64 s)
  have e3 := two_set (keep4 l b c (fun e => h2 e.symm) (fun e => h3 e.symm) (.int .i64 x) (.int .i64 y) (.int .i64 p) (.int .i64 q)) r s
  exact ⟨(two_cells e1).1, (two_cells e1).2.1, (two_cells e2).1, (two_cells e2).2.1, (two_cells e3).1, (two_cells e3).2.1⟩

def TpDPost (w : World) (e : Ending) (w' : World) : Prop := ∃ p q r s t u : Int, e = .returned (.tuple #[shV p q, shV r s, shV t u]) ∧ Below w.heap.size w w'
set_option maxRecDepth 16000 in
set_option maxHeartbeats 6400000 in
theorem DrawTakePoint_any (a : Option Addr) (n c : Nat) (xs : List Int) (w : World) (h : IntsArg w .u8 a n xs) (hn : n ≤ 4096) :
    Calls Try.prog 22 #[.slice a n c] w fun e w' => TpDPost w e w' := by
  have HB0 := (((Below.refl w.heap.size w).alloc (Nat.le_refl _) (.cells #[.int .i64 0, .int .i64 0] 23)).alloc (by first | omega | (simp; done) | (simp; omega)) (.cells #[.int .i64 0, .int .i64 0] 23)).alloc (by first | omega | (simp; done) | (simp; omega)) (.cells #[.int .i64 0, .int .i64 0] 23)
  have r0 := ((two_new w 0 0 23).alloc (.cells #[.int .i64 0, .int .i64 0] 23)).alloc (.cells #[.int .i64 0, .int .i64 0] 23)
  have r1 := (two_new (w.alloc (.cells #[.int .i64 0, .int .i64 0] 23)) 0 0 23).alloc (.cells #[.int .i64 0, .int .i64 0] 23)
  have r2 := two_new ((w.alloc (.cells #[.int .i64 0, .int .i64 0] 23)).alloc (.cells #[.int .i64 0, .int .i64 0] 23)) 0 0 23
  simp only [World.size_alloc] at r1 r2
  have z0 : (((w.alloc (.cells #[.int .i64 0, .int .i64 0] 23)).alloc (.cells #[.int .i64 0, .int .i64 0] 23)).alloc (.cells #[.int .i64 0, .int .i64 0] 23)).heap.size = w.heap.size + 1 + 1 + 1 := by simp
  have h2 := h.after HB0
  clear h
  go_enter Try.func22, Try.ntmps22
  go_wp2_with fail
  obtain ⟨W, hW⟩ : ∃ W, W = (((w.alloc (.cells #[.int .i64 0, .int .i64 0] 23)).alloc (.cells #[.int .i64 0, .int .i64 0] 23)).alloc (.cells #[.int .i64 0, .int .i64 0] 23)) := ⟨_, rfl⟩
  rw [← hW] at HB0 r0 r1 r2 h2 z0
  rw [← hW]
  have le1 : w.heap.size + 1 + 1 + 1 ≤ W.heap.size := by omega
  have R0 := Lib.hid r0
  have R1 := Lib.hid r1
  have R2 := Lib.hid r2
  have HBW := Lib.hid HB0
  clear hW z0 r0 r1 r2 HB0
  refine (from_dr a n c xs W h2 hn).mono ?_
  rintro e w1 ⟨rfl, hd⟩
  obtain ⟨g, hg1, hg2⟩ : ∃ g, g = W.heap.size ∧ W.heap.size ≤ g := ⟨_, rfl, Nat.le_refl _⟩
  rw [← hg1] at hd
  rw [← hg1]
  clear hg1 h2
  go_wp2_with fail
  refine (drawShare_dr W g a n c xs w1 hd).mono ?_
  rintro e w2 ⟨a6, b6, rfl, hd2, hg⟩
  clear hg hd
  go_wp2_with fail
  refine (drawShare_dr W g a n c xs w2 hd2).mono ?_
  rintro e w3 ⟨c6, d6, rfl, hd3, hg⟩
  clear hg hd2
  go_wp2_with fail
  refine (drawShare_dr W g a n c xs w3 hd3).mono ?_
  rintro e w4 ⟨e6, f6, rfl, hd4, hg⟩
  clear hg hd3
  have sn := six_new w4 a6 b6 c6 d6 e6 f6 23
  have l4 := hd4.lt
  have z4 := hd4.below.size
  have HD := Lib.hid (hd4.alloc (.cells #[.int .i64 a6, .int .i64 b6, .int .i64 c6, .int .i64 d6, .int .i64 e6, .int .i64 f6] 23))
  have SN := Lib.hid sn
  clear sn hd4
  go_upto_region 3 with fail
  go_cut [39] (fun v wx => ∃ b : Bool, v = .bool b ∧ wx.rowIs w4.heap.size 23 6 (six a6 b6 c6 d6 e6 f6) ∧ Below W.heap.size W wx ∧ (b = true → shB a6 b6 = true ∧ shB c6 d6 = true ∧ shB e6 f6 = true))
  case first =>
    go_wp2_with fail
    refine (next_dr _ W _ a n c xs _ HD.out (by omega)).mono ?_
    rintro e w5 ⟨k, rfl, k0, k1, hd5, hg⟩
    replace SN := Lib.hid (row_by SN.out hg (by omega))
    have HB := Lib.hid hd5.below
    clear hg hd5 k1 HD
    obtain ⟨x0, x1, x2, x3, x4, x5⟩ := six_cells SN.out
    by_cases hk : k = 0
    · subst hk
      go_wp2_with fail
      go_meet
      exact ⟨_, rfl, SN.out, HB.out, fun q => by simp at q⟩
    have hk1 : 0 < k := by omega
    clear hk
    cases s1 : shB a6 b6
    · go_wp2_with fail
      refine (spec_IsShare_any _ _ _).mono ?_
      rintro e v1 ⟨rfl, hb⟩
      rw [s1]
      replace SN := Lib.hid (rowIs_below SN.out hb SN.out.lt)
      have HB2 := Lib.hid (HB.out.trans (hb.mono HB.out.size))
      clear hb
      go_wp2_with fail
      go_meet
      exact ⟨_, rfl, SN.out, HB2.out, fun q => by simp at q⟩
    cases s2 : shB c6 d6
    · go_wp2_with fail
      refine (spec_IsShare_any _ _ _).mono ?_
      rintro e v1 ⟨rfl, hb⟩
      rw [s1]
      replace SN := Lib.hid (rowIs_below SN.out hb SN.out.lt)
      have HB2 := Lib.hid (HB.out.trans (hb.mono HB.out.size))
      clear hb x0 x1 x2 x3 x4 x5
      obtain ⟨x0, x1, x2, x3, x4, x5⟩ := six_cells SN.out
      go_wp2_with fail
      refine (spec_IsShare_any _ _ _).mono ?_
      rintro e v2 ⟨rfl, hb⟩
      rw [s2]
      replace SN := Lib.hid (rowIs_below SN.out hb SN.out.lt)
      have HB3 := Lib.hid (HB2.out.trans (hb.mono HB2.out.size))
      clear hb x0 x1 x2 x3 x4 x5
      go_wp2_with fail
      go_meet
      exact ⟨_, rfl, SN.out, HB3.out, fun q => by simp at q⟩
    have S12 := Lib.hid (And.intro s1 s2)
    go_wp2_with fail
    refine (spec_IsShare_any _ _ _).mono ?_
    rintro e v1 ⟨rfl, hb⟩
    rw [s1]
    replace SN := Lib.hid (rowIs_below SN.out hb SN.out.lt)
    have HB2 := Lib.hid (HB.out.trans (hb.mono HB.out.size))
    clear hb x0 x1 x2 x3 x4 x5
    obtain ⟨x0, x1, x2, x3, x4, x5⟩ := six_cells SN.out
    go_wp2_with fail
    refine (spec_IsShare_any _ _ _).mono ?_
    rintro e v2 ⟨rfl, hb⟩
    rw [s2]
    replace SN := Lib.hid (rowIs_below SN.out hb SN.out.lt)
    have HB3 := Lib.hid (HB2.out.trans (hb.mono HB2.out.size))
    clear hb x0 x1 x2 x3 x4 x5
    obtain ⟨x0, x1, x2, x3, x4, x5⟩ := six_cells SN.out
    clear s1 s2
    go_wp2_with fail
    refine (spec_IsShare_any _ _ _).mono ?_
    rintro e v3 ⟨rfl, hb⟩
    replace SN := Lib.hid (rowIs_below SN.out hb SN.out.lt)
    have HB4 := Lib.hid (HB3.out.trans (hb.mono HB3.out.size))
    clear hb x0 x1 x2 x3 x4 x5
    go_wp2_with fail
    go_meet
    exact ⟨_, rfl, SN.out, HB4.out, fun q => ⟨S12.out.1, S12.out.2, by simpa using q⟩⟩
  case rest =>
    obtain ⟨b, rfl, sn, hb, hsh⟩ := hcut
    clear SN HD
    have SN := Lib.hid sn
    have HB := Lib.hid hb
    have HS := Lib.hid hsh
    have lg := sn.lt
    clear sn hb hsh
    obtain ⟨w5, hw5⟩ : ∃ x, x = wc := ⟨_, rfl⟩
    subst hw5
    go_upto_if 39 with fail
    go_cut [] (fun wx => ∃ p q r s t u : Int, wx.rowIs w4.heap.size 23 6 (six p q r s t u) ∧ Below W.heap.size W wx)
    case first =>
      cases b
      · go_wp2_with fail
        go_meet
        exact ⟨_, _, _, _, _, _, SN.out, HB.out⟩
      · obtain ⟨s1, s2, s3⟩ := HS.out rfl
        have S1 := Lib.hid s1
        have S2 := Lib.hid s2
        have S3 := Lib.hid s3
        clear s1 s2 s3 HS
        go_wp2_with fail
        go_loopw [7] (fun i wr => ∃ (k : Nat) (p q r s t u : Int), k ≤ 2 ∧ i = .int .i64 k ∧ wr.rowIs w4.heap.size 23 6 (six p q r s t u) ∧ Hid (Below W.heap.size W wr) ∧ Hid (shB p q = true) ∧ Hid (shB r s = true) ∧ Hid (shB t u = true)) (fun i _ => 2 - (intOf i).toNat)
        case atStart => exact ⟨0, _, _, _, _, _, _, by omega, rfl, SN.out, HB, S1, S2, S3⟩
        case round =>
          obtain ⟨k, p, q, r, s, t, u, hk, rfl, sn, hbo, sa, sb, sc⟩ := hrel
          have SA := Lib.hid sn
          have lgo := sn.lt
          clear sn
          by_cases hk2 : k < 2
          · have hkd : decide ((k : Int) < 2) = true := by simp; omega
            go_wp2_with fail
            go_loopw [8] (fun j wr => ∃ (p q r s t u : Int), (j = .int .i64 0 ∨ j = .int .i64 1 ∨ j = .int .i64 2) ∧ wr.rowIs w4.heap.size 23 6 (six p q r s t u) ∧ Hid (Below W.heap.size W wr) ∧ Hid (shB p q = true) ∧ Hid (shB r s = true) ∧ Hid (shB t u = true)) (fun j _ => 2 - (intOf j).toNat)
            case atStart => exact ⟨_, _, _, _, _, _, .inl rfl, SA.out, hbo, sa, sb, sc⟩
            case round =>
              obtain ⟨p, q, r, s, t, u, hl, sn, hbi, sa, sb, sc⟩ := hrel
              have SA := Lib.hid sn
              have lgi := sn.lt
              clear sn
              have ws0 : IntKind.i64.wrap 1 = 1 := by decide
              have ws1 : IntKind.i64.wrap 2 = 2 := by decide
              have ws2 : wrap64 1 = 1 := by simp [wrap64]
              have ws3 : wrap64 2 = 2 := by simp [wrap64]
              have ws4 : IntKind.i64.wrap (0 + 1) = 0 + 1 := by decide
              have ws5 : IntKind.i64.wrap (1 + 1) = 1 + 1 := by decide
              obtain rfl | rfl | rfl := hl
              · obtain ⟨g1, g2, g3, g4, _⟩ := shB_out sa.out
                obtain ⟨g5, g6, g7, g8, _⟩ := shB_out sb.out
                have KC := Lib.hid (fun W => l18Compare_any p q r s W g3 (by omega) (by omega) g2 g7 (by omega) (by omega) g6)
                obtain ⟨K, hK⟩ : ∃ K, cmpS p q r s = K := ⟨_, rfl⟩
                rw [hK] at KC
                clear hK g1 g2 g3 g4 g5 g6 g7 g8
                have HBD := Lib.hid (below_drewN hbi.out 1)
                have SAD := Lib.hid (rowIs_drewN SA.out 1)
                obtain ⟨x0, x1, x2, x3, x4, x5⟩ := six_cells SA.out
                by_cases hK0 : 0 < K
                all_goals
                  go_wp2_with fail
                  go_region_held3 (fun w' => w'.cell? ⟨w4.heap.size, 0, none⟩ = some (.int .i64 p) ∧ w'.cell? ⟨w4.heap.size, 1, none⟩ = some (.int .i64 q) ∧ w'.cell? ⟨w4.heap.size, 2, none⟩ = some (.int .i64 r) ∧ w'.cell? ⟨w4.heap.size, 3, none⟩ = some (.int .i64 s))
                    (first | (with_reducible exact ⟨x0, x1, x2, x3⟩) | exact ⟨(six_cells S0).1, (six_cells S0).2.1, (six_cells S0).2.2.1, (six_cells S0).2.2.2.1⟩ | go_keep)
                    ((go_at_call 33; (with_reducible refine (KC.out _).mono ?_); rintro e w7 ⟨rfl, hb⟩; have S0 := rowIs_below SAD.out hb SAD.out.lt; have HB7 := Lib.hid (HBD.out.trans (hb.mono HBD.out.size)); clear hb))
                  all_goals
                    obtain ⟨y0, y1, y2, y3, y4, y5⟩ := six_cells S0
                    obtain ⟨f0, f1, f2, f3, f4, f5⟩ := six_frozen S0
                    have lt0 := S0.lt
                    have z7 := HB7.out.size
                    clear x0 x1 x2 x3 x4 x5
                    first
                    | (go_wp2_with fail
                       go_roundw
                       case rel => first | exact ⟨p, q, r, s, t, u, .inr (.inl rfl), S0, HB7, sa, sb, sc⟩ | ((repeat apply Exists.intro); exact ⟨⟨p, q, r, s, t, u, .inr (.inl rfl), S0, HB7, sa, sb, sc⟩, rfl⟩)
                       case measure => simp [intOf])
                    | (have SW := Lib.hid ((six_swap0 S0).alloc (.cells #[.int .i64 p, .int .i64 q] 23))
                       have HB8 := Lib.hid (((((HB7.out.setCell (p := ⟨w4.heap.size, 0, none⟩) (by omega) (.int .i64 r)).setCell (p := ⟨w4.heap.size, 1, none⟩) (by omega) (.int .i64 s)).setCell (p := ⟨w4.heap.size, 2, none⟩) (by omega) (.int .i64 p)).setCell (p := ⟨w4.heap.size, 3, none⟩) (by omega) (.int .i64 q)).alloc (by simp [World.setCell]; omega) (.cells #[.int .i64 p, .int .i64 q] 23))
                       go_wp2_with fail
                       go_roundw
                       case rel => first | exact ⟨r, s, p, q, t, u, .inr (.inl rfl), SW.out, HB8, sb, sa, sc⟩ | ((repeat apply Exists.intro); exact ⟨⟨r, s, p, q, t, u, .inr (.inl rfl), SW.out, HB8, sb, sa, sc⟩, rfl⟩)
                       case measure => simp [intOf])
              · obtain ⟨g1, g2, g3, g4, _⟩ := shB_out sb.out
                obtain ⟨g5, g6, g7, g8, _⟩ := shB_out sc.out
                have KC := Lib.hid (fun W => l18Compare_any r s t u W g3 (by omega) (by omega) g2 g7 (by omega) (by omega) g6)
                obtain ⟨K, hK⟩ : ∃ K, cmpS r s t u = K := ⟨_, rfl⟩
                rw [hK] at KC
                clear hK g1 g2 g3 g4 g5 g6 g7 g8
                have HBD := Lib.hid (below_drewN hbi.out 1)
                have SAD := Lib.hid (rowIs_drewN SA.out 1)
                obtain ⟨x0, x1, x2, x3, x4, x5⟩ := six_cells SA.out
                by_cases hK0 : 0 < K
                all_goals
                  go_wp2_with fail
                  go_region_held3 (fun w' => w'.cell? ⟨w4.heap.size, 2, none⟩ = some (.int .i64 r) ∧ w'.cell? ⟨w4.heap.size, 3, none⟩ = some (.int .i64 s) ∧ w'.cell? ⟨w4.heap.size, 4, none⟩ = some (.int .i64 t) ∧ w'.cell? ⟨w4.heap.size, 5, none⟩ = some (.int .i64 u))
                    (first | (with_reducible exact ⟨x2, x3, x4, x5⟩) | exact ⟨(six_cells S0).2.2.1, (six_cells S0).2.2.2.1, (six_cells S0).2.2.2.2.1, (six_cells S0).2.2.2.2.2⟩ | go_keep)
                    ((go_at_call 33; (with_reducible refine (KC.out _).mono ?_); rintro e w7 ⟨rfl, hb⟩; have S0 := rowIs_below SAD.out hb SAD.out.lt; have HB7 := Lib.hid (HBD.out.trans (hb.mono HBD.out.size)); clear hb))
                  all_goals
                    obtain ⟨y0, y1, y2, y3, y4, y5⟩ := six_cells S0
                    obtain ⟨f0, f1, f2, f3, f4, f5⟩ := six_frozen S0
                    have lt0 := S0.lt
                    have z7 := HB7.out.size
                    clear x0 x1 x2 x3 x4 x5
                    first
                    | (go_wp2_with fail
                       go_roundw
                       case rel => first | exact ⟨p, q, r, s, t, u, .inr (.inr rfl), S0, HB7, sa, sb, sc⟩ | ((repeat apply Exists.intro); exact ⟨⟨p, q, r, s, t, u, .inr (.inr rfl), S0, HB7, sa, sb, sc⟩, rfl⟩)
                       case measure => simp [intOf])
                    | (have SW := Lib.hid ((six_swap1 S0).alloc (.cells #[.int .i64 r, .int .i64 s] 23))
                       have HB8 := Lib.hid (((((HB7.out.setCell (p := ⟨w4.heap.size, 2, none⟩) (by omega) (.int .i64 t)).setCell (p := ⟨w4.heap.size, 3, none⟩) (by omega) (.int .i64 u)).setCell (p := ⟨w4.heap.size, 4, none⟩) (by omega) (.int .i64 r)).setCell (p := ⟨w4.heap.size, 5, none⟩) (by omega) (.int .i64 s)).alloc (by simp [World.setCell]; omega) (.cells #[.int .i64 r, .int .i64 s] 23))
                       go_wp2_with fail
                       go_roundw
                       case rel => first | exact ⟨p, q, t, u, r, s, .inr (.inr rfl), SW.out, HB8, sa, sc, sb⟩ | ((repeat apply Exists.intro); exact ⟨⟨p, q, t, u, r, s, .inr (.inr rfl), SW.out, HB8, sa, sc, sb⟩, rfl⟩)
                       case measure => simp [intOf])
              · go_wp2_with fail
                go_roundw
                case rel => exact ⟨k + 1, p, q, r, s, t, u, by omega, by go_num, SA.out, hbi, sa, sb, sc⟩
                case measure => simp [intOf]; omega
          · go_wp2_with fail
            go_meet
            exact ⟨_, _, _, _, _, _, SA.out, hbo.out⟩
    case rest =>
      obtain ⟨p, q, r, s, t, u, sn, hb⟩ := hcut
      have SA := Lib.hid sn
      have HB9 := Lib.hid hb
      have lt9 := sn.lt
      clear SN HB HS
      replace R0 := Lib.hid (rowIs_below R0.out hb R0.out.lt)
      replace R1 := Lib.hid (rowIs_below R1.out hb R1.out.lt)
      replace R2 := Lib.hid (rowIs_below R2.out hb R2.out.lt)
      have HBZ := Lib.hid (HBW.out.trans (hb.mono HBW.out.size))
      clear sn hb
      obtain ⟨x0, x1, x2, x3, x4, x5⟩ := six_cells SA.out
      obtain ⟨a0, a1, a2, a3⟩ := two_cells R0.out
      obtain ⟨b0, b1, b2, b3⟩ := two_cells R1.out
      obtain ⟨c0, c1, c2, c3⟩ := two_cells R2.out
      have lr := R2.out.lt
      go_wp2_with fail
      go_region
      go_wp2_with fail
      obtain ⟨p0, p1, p2, p3, p4, p5⟩ := six_ret R0.out R1.out R2.out (by omega) (by omega) (by omega) r s p q t u
      refine bodyPost_ret (v := .tuple #[shV r s, shV p q, shV t u]) (by simp [results, Try.results22, go_sem, p0, p1, p2, p3, p4, p5]) rfl ⟨_, _, _, _, _, _, rfl, ?_⟩
      repeat' (first | (with_reducible exact HBZ.out) | (with_reducible refine Below.drew ?_) | (with_reducible refine Below.setCell ?_ (by first | omega | (simp; done) | (simp; omega)) _))
end Go.Proofs.Ytjagidpjdajpnaa
