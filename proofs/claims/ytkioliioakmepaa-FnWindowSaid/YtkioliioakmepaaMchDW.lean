/-
  The walks of DoublingWindow (both packages; printed by gen_dw.py).
-/
import Derived.Test.YtkioliioakmepaaMchDQ
import Derived.Test.YtkioliioakmepaaMchDS
namespace Go.Proofs.Ytkioliioakmepaa
open Go.ChangeShapes Go.WideShapes Go.ChangeAt Go.RowKit
set_option linter.unusedVariables false

theorem tpV_ok {a b c d e f : Int} (h1 : shOk a b) (h2 : shOk c d) (h3 : shOk e f) (h : (tpV a b c d e f).2.2 = 0) : shB (tpV a b c d e f).1 (tpV a b c d e f).2.1 = true := by
  by_cases ho : tpOrd a b c d e f
  · rw [tpV_5 ho] at h; exact absurd h (by decide)
  · cases hf : fitsB [a, b, c, d, e, f] 3
    · rw [tpV_3 ho hf] at h; exact absurd h (by decide)
    · cases hl : loB (tpN a b c d f) (tpD b c d e f)
      · rw [tpV_4 ho hf hl] at h; exact absurd h (by decide)
      · rw [tpV_0 ho hf hl]
        obtain ⟨_, _, _, _, _, _, m9, m10, m11, _⟩ := tp_facts h1 h2 h3 ho hf
        show shB (loN _ _) (loD _ _) = true
        rw [shB_lo m9 m11 m10, hl]
theorem mt_ok {M : Mm} {w : World} {B : Nat} (hA : M.at w B) {a b ph c : Int} (h : (mtV M a b ph c).2.2 = 0) : shB (mtV M a b ph c).1 (mtV M a b ph c).2.1 = true := by
  by_cases hc : cdV M a b ph c = 0
  · have e : mtV M a b ph c = mtR (M.afK a.toNat b.toNat ph [c, 2 * c, -(2 * c)] 3) := by unfold mtV; rw [if_pos hc]
    rw [e] at h ⊢
    obtain ⟨kg, _⟩ := cdV_out hc
    have hM := Mm.good_ok kg hA
    cases hl : M.afK a.toNat b.toNat ph [c, 2 * c, -(2 * c)] 3 with
    | none => rw [hl] at h; exact absurd h (by decide)
    | some l =>
      rw [hl] at h
      obtain ⟨c1, c2, c3, rfl, ⟨a1, b1⟩, ⟨a2, b2⟩, a3, b3⟩ := Mm.afK3 hM hl
      exact tpV_ok (shOk_of (rest_ok a1 b1).2.2.2) (shOk_of (rest_ok a2 b2).2.2.2) (shOk_of (rest_ok a3 b3).2.2.2) h
  · have e : mtV M a b ph c = (0, 0, cdV M a b ph c) := by unfold mtV; rw [if_neg hc]
    rw [e] at h; exact absurd h hc
/-- what both packages' DoublingWindow returns: two shares and a code -/
def wdV (M : Mm) (a b ph c : Int) : Int × Int × Int × Int × Int :=
  if (dpV M a b ph c).2.2 = 0 then (if (mtV M a b ph c).2.2 = 0 then ((dpV M a b ph c).1, (dpV M a b ph c).2.1, (mtV M a b ph c).2.1 - (mtV M a b ph c).1, (mtV M a b ph c).2.1, 0) else (0, 0, 0, 0, (mtV M a b ph c).2.2)) else (0, 0, 0, 0, (dpV M a b ph c).2.2)
theorem Sm.wd {K M : Mm} (h : Sm K M) (a b ph c : Int) : wdV K a b ph c = wdV M a b ph c := by unfold wdV; rw [h.dp, h.mt]
/-- two shares and a code -/
def WdPost (v : Int × Int × Int × Int × Int) (w : World) (e : Ending) (w' : World) : Prop := e = .returned (.tuple #[shV v.1 v.2.1, shV v.2.2.1 v.2.2.2.1, .int .i64 v.2.2.2.2]) ∧ Below w.heap.size w w'
theorem WdPost.mk {v : Int × Int × Int × Int × Int} {x y p q c : Int} {w w' : World} {e : Ending} (he : e = .returned (.tuple #[shV x y, shV p q, .int .i64 c])) (hv : v = (x, y, p, q, c)) (hb : Below w.heap.size w w') : WdPost v w e w' := by subst hv; exact ⟨he, hb⟩
theorem rowIs_else {w : World} {g t n : Nat} {f : Nat → Value} (h : w.rowIs g t n f) {b : Nat} (hne : ¬ b = g) (i : Nat) (u : Value) : (w.setCell ⟨b, i, none⟩ u).rowIs g t n f :=
  h.setOther (a := ⟨b, i, none⟩) (by simpa using Ne.symm hne) u
theorem L4.o {w : World} {g h : Nat} {a b c d : Int} (k : L4 w g h a b c d) : w.cell? ⟨g, 0, none⟩ = some (.int .i64 a) ∧ w.cell? ⟨g, 1, none⟩ = some (.int .i64 b) ∧ w.cell? ⟨h, 0, none⟩ = some (.int .i64 c) ∧ w.cell? ⟨h, 1, none⟩ = some (.int .i64 d) := k
theorem L4.set2 {w : World} {g h b : Nat} {x y u v : Int} (k : L4 w g h x y u v) (h1 : ¬ b = g) (h2 : ¬ b = h) (i j : Nat) (p q : Value) : L4 ((w.setCell ⟨b, i, none⟩ p).setCell ⟨b, j, none⟩ q) g h x y u v := by
  obtain ⟨k0, k1, k2, k3⟩ := k
  refine ⟨?_, ?_, ?_, ?_⟩
  · rw [World.cell?_setCell_far _ _ _ _ h1, World.cell?_setCell_far _ _ _ _ h1]; exact k0
  · rw [World.cell?_setCell_far _ _ _ _ h1, World.cell?_setCell_far _ _ _ _ h1]; exact k1
  · rw [World.cell?_setCell_far _ _ _ _ h2, World.cell?_setCell_far _ _ _ _ h2]; exact k2
  · rw [World.cell?_setCell_far _ _ _ _ h2, World.cell?_setCell_far _ _ _ _ h2]; exact k3
set_option maxHeartbeats 3200000 in
theorem impl_DoublingWindow_any (M : Mm) (a b ph c : Int) (w : World) (hA : M.at w w.heap.size) (hs : M.sz) :
    Calls Try.prog 16 #[M.V, .int .i64 a, .int .i64 b, .int .i64 ph, .int .i64 c] w fun e w' => WdPost (wdV M a b ph c) w e w' := by
  have hb0 := (((Below.refl w.heap.size w).alloc (Nat.le_refl _) (.cells #[.slice M.a M.n M.c, .slice M.b M.m M.d, .slice M.e M.p M.f] 26)).alloc (by simp) (.cells #[.int .i64 0, .int .i64 0] 30)).alloc (by simp; omega) (.cells #[.int .i64 0, .int .i64 0] 30)
  have HB := Lib.hid hb0
  have HA := Lib.hid (hA.keep hb0)
  have rm := ((three_new w (.slice M.a M.n M.c) (.slice M.b M.m M.d) (.slice M.e M.p M.f) 26).alloc (.cells #[.int .i64 0, .int .i64 0] 30)).alloc (.cells #[.int .i64 0, .int .i64 0] 30)
  have r8 := (two_new (w.alloc (.cells #[.slice M.a M.n M.c, .slice M.b M.m M.d, .slice M.e M.p M.f] 26)) 0 0 30).alloc (.cells #[.int .i64 0, .int .i64 0] 30)
  have r9 := two_new ((w.alloc (.cells #[.slice M.a M.n M.c, .slice M.b M.m M.d, .slice M.e M.p M.f] 26)).alloc (.cells #[.int .i64 0, .int .i64 0] 30)) 0 0 30
  simp only [World.size_alloc] at r8 r9
  have RM := Lib.hid rm
  have R8 := Lib.hid r8
  have R9 := Lib.hid r9
  have HSZ := Lib.hid hs
  have MTO := Lib.hid (fun h => mt_ok (a := a) (b := b) (ph := ph) (c := c) hA h)
  have WV : Hid (wdV M a b ph c = if (dpV M a b ph c).2.2 = 0 then (if (mtV M a b ph c).2.2 = 0 then ((dpV M a b ph c).1, (dpV M a b ph c).2.1, (mtV M a b ph c).2.1 - (mtV M a b ph c).1, (mtV M a b ph c).2.1, 0) else (0, 0, 0, 0, (mtV M a b ph c).2.2)) else (0, 0, 0, 0, (dpV M a b ph c).2.2)) := Lib.hid rfl
  have DP := Lib.hid (fun (W : World) (h : M.at W W.heap.size) => impl_MatchDoublePoint_any M a b ph c W h hs)
  have MT := Lib.hid (fun (W : World) (h : M.at W W.heap.size) => impl_MatchTakePoint_any M a b ph c W h hs)
  unfold ShPost at DP MT
  obtain ⟨X, hX⟩ : ∃ X, (dpV M a b ph c).1 = X := ⟨_, rfl⟩
  obtain ⟨Y, hY⟩ : ∃ Y, (dpV M a b ph c).2.1 = Y := ⟨_, rfl⟩
  obtain ⟨C, hC⟩ : ∃ C, (dpV M a b ph c).2.2 = C := ⟨_, rfl⟩
  obtain ⟨U, hU⟩ : ∃ X, (mtV M a b ph c).1 = X := ⟨_, rfl⟩
  obtain ⟨V, hV⟩ : ∃ Y, (mtV M a b ph c).2.1 = Y := ⟨_, rfl⟩
  obtain ⟨E, hE⟩ : ∃ C, (mtV M a b ph c).2.2 = C := ⟨_, rfl⟩
  rw [hX, hY, hC] at DP
  rw [hU, hV, hE] at MT
  rw [hU, hV, hE] at MTO
  rw [hX, hY, hC, hU, hV, hE] at WV
  clear hb0 rm r8 r9 hA hX hY hC hU hV hE hs
  go_enter Try.func16, Try.ntmps16
  obtain ⟨m0, m1, m2⟩ := three_cells RM.out
  go_wp2_with fail
  refine (DP.out _ (HA.out.more HB.out.size)).mono ?_
  rintro e w1 ⟨rfl, hb⟩
  have z1 := hb.size
  simp only [World.size_alloc] at z1
  have B1 := Lib.hid ((HB.out.trans (hb.mono HB.out.size)).alloc (by omega) (.cells #[.int .i64 X, .int .i64 Y] 30))
  have A1 := Lib.hid ((HA.out.keep (hb.mono HB.out.size)).keep ((Below.refl w.heap.size w1).alloc (by omega) (.cells #[.int .i64 X, .int .i64 Y] 30)))
  have M1 := Lib.hid ((rowIs_below RM.out hb RM.out.lt).alloc (.cells #[.int .i64 X, .int .i64 Y] 30))
  have E1 := Lib.hid ((rowIs_below R8.out hb R8.out.lt).alloc (.cells #[.int .i64 X, .int .i64 Y] 30))
  have F1 := Lib.hid ((rowIs_below R9.out hb R9.out.lt).alloc (.cells #[.int .i64 X, .int .i64 Y] 30))
  have X1 := Lib.hid (two_new w1 X Y 30)
  clear hb m0 m1 m2
  by_cases hc0 : C = 0
  · subst hc0
    obtain ⟨m0, m1, m2⟩ := three_cells M1.out
    go_wp2_with fail
    refine (MT.out _ (A1.out.more (by simp; omega))).mono ?_
    rintro e w2 ⟨rfl, hb⟩
    have z2 := hb.size
    simp only [World.size_alloc] at z2
    have B2 := Lib.hid ((B1.out.trans (hb.mono B1.out.size)).alloc (by omega) (.cells #[.int .i64 U, .int .i64 V] 30))
    have E2 := Lib.hid ((rowIs_below E1.out hb E1.out.lt).alloc (.cells #[.int .i64 U, .int .i64 V] 30))
    have F2 := Lib.hid ((rowIs_below F1.out hb F1.out.lt).alloc (.cells #[.int .i64 U, .int .i64 V] 30))
    have X2 := Lib.hid ((rowIs_below X1.out hb X1.out.lt).alloc (.cells #[.int .i64 U, .int .i64 V] 30))
    have Y2 := Lib.hid (two_new w2 U V 30)
    clear hb m0 m1 m2
    by_cases hd0 : E = 0
    · subst hd0
      have hsh := MTO.out rfl
      obtain ⟨v0, v1, u0, u1, _⟩ := shB_out hsh
      have HV : Hid (wdV M a b ph c = (X, Y, V - U, V, 0)) := Lib.hid (WV.out.trans (by simp))
      have OC := Lib.hid (fun W => otherChance_any U V W u0 u1 v1)
      obtain ⟨x0, x1, _, _⟩ := two_cells X2.out
      obtain ⟨y0, y1, _, _⟩ := two_cells Y2.out
      obtain ⟨h0, h1, h2, h3⟩ := two_cells E2.out
      obtain ⟨k0, k1, k2, k3⟩ := two_cells F2.out
      have HQ := Lib.hid (show L4 (w2.alloc (.cells #[.int .i64 U, .int .i64 V] 30)).drew w1.heap.size w2.heap.size X Y U V from ⟨x0, x1, y0, y1⟩)
      have wn1 : ¬ w.heap.size + 1 = w1.heap.size := by omega
      have wn2 : ¬ w.heap.size + 1 = w2.heap.size := by omega
      have wn3 : ¬ w.heap.size + 1 + 1 = w1.heap.size := by omega
      have wn4 : ¬ w.heap.size + 1 + 1 = w2.heap.size := by omega
      obtain ⟨T, hT⟩ : ∃ T, V - U = T := ⟨_, rfl⟩
      rw [hT] at OC HV
      have B3 := Lib.hid B2.out.drew
      have E3 := Lib.hid E2.out.drew
      have F3 := Lib.hid F2.out.drew
      clear hT hsh
      go_wp2_with fail
      go_region_held3 (fun w' => w'.cell? ⟨w1.heap.size, 0, none⟩ = some (.int .i64 X) ∧ w'.cell? ⟨w1.heap.size, 1, none⟩ = some (.int .i64 Y) ∧ w'.cell? ⟨w2.heap.size, 0, none⟩ = some (.int .i64 U) ∧ w'.cell? ⟨w2.heap.size, 1, none⟩ = some (.int .i64 V))
        (first | with_reducible exact HQ.out.o | with_reducible exact (KS.out _ _).o | with_reducible exact (KT.out _ _ _ _).o | go_keep)
        (first
          | (go_at_call 47; (with_reducible refine (OC.out (w2.alloc (.cells #[.int .i64 U, .int .i64 V] 30)).drew).mono ?_); rintro e p1 ⟨rfl, hb⟩; replace HQ := Lib.hid (L4.below (w := (w2.alloc (.cells #[.int .i64 U, .int .i64 V] 30)).drew) HQ.out hb (by show w1.heap.size < (w2.alloc _).heap.size; simp; omega) (by show w2.heap.size < (w2.alloc _).heap.size; simp)); have KS := Lib.hid (fun (p q : Value) => L4.set2 HQ.out wn1 wn2 0 1 p q); have KT := Lib.hid (fun (p q r s : Value) => L4.set2 (L4.set2 HQ.out wn1 wn2 0 1 p q) wn3 wn4 0 1 r s); have B4 := Lib.hid (B3.out.trans (hb.mono B3.out.size)); have E4 := Lib.hid (rowIs_below E3.out hb E3.out.lt); have F4 := Lib.hid (rowIs_below F3.out hb F3.out.lt); clear hb h0 h1 h2 h3 k0 k1 k2 k3; obtain ⟨h0, h1, h2, h3⟩ := two_cells E4.out; obtain ⟨k0, k1, k2, k3⟩ := two_cells (rowIs_else (rowIs_else F4.out (show ¬ w.heap.size + 1 = w.heap.size + 1 + 1 by omega) 0 (.int .i64 X)) (show ¬ w.heap.size + 1 = w.heap.size + 1 + 1 by omega) 1 (.int .i64 Y)); obtain ⟨n0, n1, n2, n3⟩ := two_cells F4.out)
          | fail)
      have BF := Lib.hid ((((B4.out.setCell (p := ⟨w.heap.size + 1, 0, none⟩) (by simp) (.int .i64 X)).setCell (p := ⟨w.heap.size + 1, 1, none⟩) (by simp) (.int .i64 Y)).setCell (p := ⟨w.heap.size + 1 + 1, 0, none⟩) (by simp; omega) (.int .i64 T)).setCell (p := ⟨w.heap.size + 1 + 1, 1, none⟩) (by simp; omega) (.int .i64 V))
      obtain ⟨e0, e1, _, _⟩ := two_cells (rowIs_else (rowIs_else (two_set E4.out X Y) (show ¬ w.heap.size + 1 + 1 = w.heap.size + 1 by omega) 0 (.int .i64 T)) (show ¬ w.heap.size + 1 + 1 = w.heap.size + 1 by omega) 1 (.int .i64 V))
      obtain ⟨i0, i1, _, _⟩ := two_cells (two_set (rowIs_else (rowIs_else F4.out (show ¬ w.heap.size + 1 = w.heap.size + 1 + 1 by omega) 0 (.int .i64 X)) (show ¬ w.heap.size + 1 = w.heap.size + 1 + 1 by omega) 1 (.int .i64 Y)) T V)
      go_wp2_with fail
      refine bodyPost_ret (v := .tuple #[shV X Y, shV T V, .int .i64 0]) (by simp [results, Try.results16, go_sem, e0, e1, i0, i1]) rfl (WdPost.mk rfl HV.out BF.out)
    · have ek : (E != 0) = true := by simpa using hd0
      have HV : Hid (wdV M a b ph c = (0, 0, 0, 0, E)) := Lib.hid (WV.out.trans (by simp [hd0]))
      clear hd0
      obtain ⟨h0, h1, h2, h3⟩ := two_cells E2.out
      obtain ⟨k0, k1, k2, k3⟩ := two_cells (rowIs_else (rowIs_else F2.out (show ¬ w.heap.size + 1 = w.heap.size + 1 + 1 by omega) 0 (.int .i64 0)) (show ¬ w.heap.size + 1 = w.heap.size + 1 + 1 by omega) 1 (.int .i64 0))
      obtain ⟨n0, n1, n2, n3⟩ := two_cells F2.out
      have BF := Lib.hid ((((B2.out.setCell (p := ⟨w.heap.size + 1, 0, none⟩) (by simp) (.int .i64 0)).setCell (p := ⟨w.heap.size + 1, 1, none⟩) (by simp) (.int .i64 0)).setCell (p := ⟨w.heap.size + 1 + 1, 0, none⟩) (by simp; omega) (.int .i64 0)).setCell (p := ⟨w.heap.size + 1 + 1, 1, none⟩) (by simp; omega) (.int .i64 0))
      obtain ⟨e0, e1, _, _⟩ := two_cells (rowIs_else (rowIs_else (two_set E2.out 0 0) (show ¬ w.heap.size + 1 + 1 = w.heap.size + 1 by omega) 0 (.int .i64 0)) (show ¬ w.heap.size + 1 + 1 = w.heap.size + 1 by omega) 1 (.int .i64 0))
      obtain ⟨i0, i1, _, _⟩ := two_cells (two_set (rowIs_else (rowIs_else F2.out (show ¬ w.heap.size + 1 = w.heap.size + 1 + 1 by omega) 0 (.int .i64 0)) (show ¬ w.heap.size + 1 = w.heap.size + 1 + 1 by omega) 1 (.int .i64 0)) 0 0)
      go_wp2_with fail
      refine bodyPost_ret (v := .tuple #[shV 0 0, shV 0 0, .int .i64 E]) (by simp [results, Try.results16, go_sem, e0, e1, i0, i1]) rfl (WdPost.mk rfl HV.out BF.out)
  · have ek : (C != 0) = true := by simpa using hc0
    have HV : Hid (wdV M a b ph c = (0, 0, 0, 0, C)) := Lib.hid (WV.out.trans (by rw [if_neg hc0]))
    clear hc0
    obtain ⟨h0, h1, h2, h3⟩ := two_cells E1.out
    obtain ⟨k0, k1, k2, k3⟩ := two_cells (rowIs_else (rowIs_else F1.out (show ¬ w.heap.size + 1 = w.heap.size + 1 + 1 by omega) 0 (.int .i64 0)) (show ¬ w.heap.size + 1 = w.heap.size + 1 + 1 by omega) 1 (.int .i64 0))
    obtain ⟨n0, n1, n2, n3⟩ := two_cells F1.out
    have BF := Lib.hid ((((B1.out.setCell (p := ⟨w.heap.size + 1, 0, none⟩) (by simp) (.int .i64 0)).setCell (p := ⟨w.heap.size + 1, 1, none⟩) (by simp) (.int .i64 0)).setCell (p := ⟨w.heap.size + 1 + 1, 0, none⟩) (by simp; omega) (.int .i64 0)).setCell (p := ⟨w.heap.size + 1 + 1, 1, none⟩) (by simp; omega) (.int .i64 0))
    obtain ⟨e0, e1, _, _⟩ := two_cells (rowIs_else (rowIs_else (two_set E1.out 0 0) (show ¬ w.heap.size + 1 + 1 = w.heap.size + 1 by omega) 0 (.int .i64 0)) (show ¬ w.heap.size + 1 + 1 = w.heap.size + 1 by omega) 1 (.int .i64 0))
    obtain ⟨i0, i1, _, _⟩ := two_cells (two_set (rowIs_else (rowIs_else F1.out (show ¬ w.heap.size + 1 = w.heap.size + 1 + 1 by omega) 0 (.int .i64 0)) (show ¬ w.heap.size + 1 = w.heap.size + 1 + 1 by omega) 1 (.int .i64 0)) 0 0)
    go_wp2_with fail
    refine bodyPost_ret (v := .tuple #[shV 0 0, shV 0 0, .int .i64 C]) (by simp [results, Try.results16, go_sem, e0, e1, i0, i1]) rfl (WdPost.mk rfl HV.out BF.out)
set_option maxHeartbeats 3200000 in
theorem spec_DoublingWindow_any (M : Mm) (a b ph c : Int) (w : World) (hA : M.at w w.heap.size) (hs : M.sz) :
    Calls Try.prog 17 #[M.V, .int .i64 a, .int .i64 b, .int .i64 ph, .int .i64 c] w fun e w' => WdPost (wdV M a b ph c) w e w' := by
  have hb0 := (((Below.refl w.heap.size w).alloc (Nat.le_refl _) (.cells #[.slice M.a M.n M.c, .slice M.b M.m M.d, .slice M.e M.p M.f] 26)).alloc (by simp) (.cells #[.int .i64 0, .int .i64 0] 30)).alloc (by simp; omega) (.cells #[.int .i64 0, .int .i64 0] 30)
  have HB := Lib.hid hb0
  have HA := Lib.hid (hA.keep hb0)
  have rm := ((three_new w (.slice M.a M.n M.c) (.slice M.b M.m M.d) (.slice M.e M.p M.f) 26).alloc (.cells #[.int .i64 0, .int .i64 0] 30)).alloc (.cells #[.int .i64 0, .int .i64 0] 30)
  have r8 := (two_new (w.alloc (.cells #[.slice M.a M.n M.c, .slice M.b M.m M.d, .slice M.e M.p M.f] 26)) 0 0 30).alloc (.cells #[.int .i64 0, .int .i64 0] 30)
  have r9 := two_new ((w.alloc (.cells #[.slice M.a M.n M.c, .slice M.b M.m M.d, .slice M.e M.p M.f] 26)).alloc (.cells #[.int .i64 0, .int .i64 0] 30)) 0 0 30
  simp only [World.size_alloc] at r8 r9
  have RM := Lib.hid rm
  have R8 := Lib.hid r8
  have R9 := Lib.hid r9
  have HSZ := Lib.hid hs
  have MTO := Lib.hid (fun h => mt_ok (a := a) (b := b) (ph := ph) (c := c) hA h)
  have WV : Hid (wdV M a b ph c = if (dpV M a b ph c).2.2 = 0 then (if (mtV M a b ph c).2.2 = 0 then ((dpV M a b ph c).1, (dpV M a b ph c).2.1, (mtV M a b ph c).2.1 - (mtV M a b ph c).1, (mtV M a b ph c).2.1, 0) else (0, 0, 0, 0, (mtV M a b ph c).2.2)) else (0, 0, 0, 0, (dpV M a b ph c).2.2)) := Lib.hid rfl
  have DP := Lib.hid (fun (W : World) (h : M.at W W.heap.size) => spec_MatchDoublePoint_any M a b ph c W h hs)
  have MT := Lib.hid (fun (W : World) (h : M.at W W.heap.size) => spec_MatchTakePoint_any M a b ph c W h hs)
  unfold ShPost at DP MT
  obtain ⟨X, hX⟩ : ∃ X, (dpV M a b ph c).1 = X := ⟨_, rfl⟩
  obtain ⟨Y, hY⟩ : ∃ Y, (dpV M a b ph c).2.1 = Y := ⟨_, rfl⟩
  obtain ⟨C, hC⟩ : ∃ C, (dpV M a b ph c).2.2 = C := ⟨_, rfl⟩
  obtain ⟨U, hU⟩ : ∃ X, (mtV M a b ph c).1 = X := ⟨_, rfl⟩
  obtain ⟨V, hV⟩ : ∃ Y, (mtV M a b ph c).2.1 = Y := ⟨_, rfl⟩
  obtain ⟨E, hE⟩ : ∃ C, (mtV M a b ph c).2.2 = C := ⟨_, rfl⟩
  rw [hX, hY, hC] at DP
  rw [hU, hV, hE] at MT
  rw [hU, hV, hE] at MTO
  rw [hX, hY, hC, hU, hV, hE] at WV
  clear hb0 rm r8 r9 hA hX hY hC hU hV hE hs
  go_enter Try.func17, Try.ntmps17
  obtain ⟨m0, m1, m2⟩ := three_cells RM.out
  go_wp2_with fail
  refine (DP.out _ (HA.out.more HB.out.size)).mono ?_
  rintro e w1 ⟨rfl, hb⟩
  have z1 := hb.size
  simp only [World.size_alloc] at z1
  have B1 := Lib.hid ((HB.out.trans (hb.mono HB.out.size)).alloc (by omega) (.cells #[.int .i64 X, .int .i64 Y] 30))
  have A1 := Lib.hid ((HA.out.keep (hb.mono HB.out.size)).keep ((Below.refl w.heap.size w1).alloc (by omega) (.cells #[.int .i64 X, .int .i64 Y] 30)))
  have M1 := Lib.hid ((rowIs_below RM.out hb RM.out.lt).alloc (.cells #[.int .i64 X, .int .i64 Y] 30))
  have E1 := Lib.hid ((rowIs_below R8.out hb R8.out.lt).alloc (.cells #[.int .i64 X, .int .i64 Y] 30))
  have F1 := Lib.hid ((rowIs_below R9.out hb R9.out.lt).alloc (.cells #[.int .i64 X, .int .i64 Y] 30))
  have X1 := Lib.hid (two_new w1 X Y 30)
  clear hb m0 m1 m2
  by_cases hc0 : C = 0
  · subst hc0
    obtain ⟨m0, m1, m2⟩ := three_cells M1.out
    go_wp2_with fail
    refine (MT.out _ (A1.out.more (by simp; omega))).mono ?_
    rintro e w2 ⟨rfl, hb⟩
    have z2 := hb.size
    simp only [World.size_alloc] at z2
    have B2 := Lib.hid ((B1.out.trans (hb.mono B1.out.size)).alloc (by omega) (.cells #[.int .i64 U, .int .i64 V] 30))
    have E2 := Lib.hid ((rowIs_below E1.out hb E1.out.lt).alloc (.cells #[.int .i64 U, .int .i64 V] 30))
    have F2 := Lib.hid ((rowIs_below F1.out hb F1.out.lt).alloc (.cells #[.int .i64 U, .int .i64 V] 30))
    have X2 := Lib.hid ((rowIs_below X1.out hb X1.out.lt).alloc (.cells #[.int .i64 U, .int .i64 V] 30))
    have Y2 := Lib.hid (two_new w2 U V 30)
    clear hb m0 m1 m2
    by_cases hd0 : E = 0
    · subst hd0
      have hsh := MTO.out rfl
      obtain ⟨v0, v1, u0, u1, _⟩ := shB_out hsh
      have HV : Hid (wdV M a b ph c = (X, Y, V - U, V, 0)) := Lib.hid (WV.out.trans (by simp))
      have OC := Lib.hid (fun W => l19Rest_any U V W u0 u1 v1)
      obtain ⟨x0, x1, _, _⟩ := two_cells X2.out
      obtain ⟨y0, y1, _, _⟩ := two_cells Y2.out
      obtain ⟨h0, h1, h2, h3⟩ := two_cells E2.out
      obtain ⟨k0, k1, k2, k3⟩ := two_cells F2.out
      have HQ := Lib.hid (show L4 (w2.alloc (.cells #[.int .i64 U, .int .i64 V] 30)).drew w1.heap.size w2.heap.size X Y U V from ⟨x0, x1, y0, y1⟩)
      have wn1 : ¬ w.heap.size + 1 = w1.heap.size := by omega
      have wn2 : ¬ w.heap.size + 1 = w2.heap.size := by omega
      have wn3 : ¬ w.heap.size + 1 + 1 = w1.heap.size := by omega
      have wn4 : ¬ w.heap.size + 1 + 1 = w2.heap.size := by omega
      obtain ⟨T, hT⟩ : ∃ T, V - U = T := ⟨_, rfl⟩
      rw [hT] at OC HV
      have B3 := Lib.hid B2.out.drew
      have E3 := Lib.hid E2.out.drew
      have F3 := Lib.hid F2.out.drew
      clear hT hsh
      go_wp2_with fail
      go_region_held3 (fun w' => w'.cell? ⟨w1.heap.size, 0, none⟩ = some (.int .i64 X) ∧ w'.cell? ⟨w1.heap.size, 1, none⟩ = some (.int .i64 Y) ∧ w'.cell? ⟨w2.heap.size, 0, none⟩ = some (.int .i64 U) ∧ w'.cell? ⟨w2.heap.size, 1, none⟩ = some (.int .i64 V))
        (first | with_reducible exact HQ.out.o | with_reducible exact (KS.out _ _).o | with_reducible exact (KT.out _ _ _ _).o | go_keep)
        (first
          | (go_at_call 48; (with_reducible refine (OC.out (w2.alloc (.cells #[.int .i64 U, .int .i64 V] 30)).drew).mono ?_); rintro e p1 ⟨rfl, hb⟩; replace HQ := Lib.hid (L4.below (w := (w2.alloc (.cells #[.int .i64 U, .int .i64 V] 30)).drew) HQ.out hb (by show w1.heap.size < (w2.alloc _).heap.size; simp; omega) (by show w2.heap.size < (w2.alloc _).heap.size; simp)); have KS := Lib.hid (fun (p q : Value) => L4.set2 HQ.out wn1 wn2 0 1 p q); have KT := Lib.hid (fun (p q r s : Value) => L4.set2 (L4.set2 HQ.out wn1 wn2 0 1 p q) wn3 wn4 0 1 r s); have B4 := Lib.hid (B3.out.trans (hb.mono B3.out.size)); have E4 := Lib.hid (rowIs_below E3.out hb E3.out.lt); have F4 := Lib.hid (rowIs_below F3.out hb F3.out.lt); clear hb h0 h1 h2 h3 k0 k1 k2 k3; obtain ⟨h0, h1, h2, h3⟩ := two_cells E4.out; obtain ⟨k0, k1, k2, k3⟩ := two_cells (rowIs_else (rowIs_else F4.out (show ¬ w.heap.size + 1 = w.heap.size + 1 + 1 by omega) 0 (.int .i64 X)) (show ¬ w.heap.size + 1 = w.heap.size + 1 + 1 by omega) 1 (.int .i64 Y)); obtain ⟨n0, n1, n2, n3⟩ := two_cells F4.out)
          | fail)
      have BF := Lib.hid ((((B4.out.setCell (p := ⟨w.heap.size + 1, 0, none⟩) (by simp) (.int .i64 X)).setCell (p := ⟨w.heap.size + 1, 1, none⟩) (by simp) (.int .i64 Y)).setCell (p := ⟨w.heap.size + 1 + 1, 0, none⟩) (by simp; omega) (.int .i64 T)).setCell (p := ⟨w.heap.size + 1 + 1, 1, none⟩) (by simp; omega) (.int .i64 V))
      obtain ⟨e0, e1, _, _⟩ := two_cells (rowIs_else (rowIs_else (two_set E4.out X Y) (show ¬ w.heap.size + 1 + 1 = w.heap.size + 1 by omega) 0 (.int .i64 T)) (show ¬ w.heap.size + 1 + 1 = w.heap.size + 1 by omega) 1 (.int .i64 V))
      obtain ⟨i0, i1, _, _⟩ := two_cells (two_set (rowIs_else (rowIs_else F4.out (show ¬ w.heap.size + 1 = w.heap.size + 1 + 1 by omega) 0 (.int .i64 X)) (show ¬ w.heap.size + 1 = w.heap.size + 1 + 1 by omega) 1 (.int .i64 Y)) T V)
      go_wp2_with fail
      refine bodyPost_ret (v := .tuple #[shV X Y, shV T V, .int .i64 0]) (by simp [results, Try.results17, go_sem, e0, e1, i0, i1]) rfl (WdPost.mk rfl HV.out BF.out)
    · have ek : (E != 0) = true := by simpa using hd0
      have HV : Hid (wdV M a b ph c = (0, 0, 0, 0, E)) := Lib.hid (WV.out.trans (by simp [hd0]))
      clear hd0
      obtain ⟨h0, h1, h2, h3⟩ := two_cells E2.out
      obtain ⟨k0, k1, k2, k3⟩ := two_cells (rowIs_else (rowIs_else F2.out (show ¬ w.heap.size + 1 = w.heap.size + 1 + 1 by omega) 0 (.int .i64 0)) (show ¬ w.heap.size + 1 = w.heap.size + 1 + 1 by omega) 1 (.int .i64 0))
      obtain ⟨n0, n1, n2, n3⟩ := two_cells F2.out
      have BF := Lib.hid ((((B2.out.setCell (p := ⟨w.heap.size + 1, 0, none⟩) (by simp) (.int .i64 0)).setCell (p := ⟨w.heap.size + 1, 1, none⟩) (by simp) (.int .i64 0)).setCell (p := ⟨w.heap.size + 1 + 1, 0, none⟩) (by simp; omega) (.int .i64 0)).setCell (p := ⟨w.heap.size + 1 + 1, 1, none⟩) (by simp; omega) (.int .i64 0))
      obtain ⟨e0, e1, _, _⟩ := two_cells (rowIs_else (rowIs_else (two_set E2.out 0 0) (show ¬ w.heap.size + 1 + 1 = w.heap.size + 1 by omega) 0 (.int .i64 0)) (show ¬ w.heap.size + 1 + 1 = w.heap.size + 1 by omega) 1 (.int .i64 0))
      obtain ⟨i0, i1, _, _⟩ := two_cells (two_set (rowIs_else (rowIs_else F2.out (show ¬ w.heap.size + 1 = w.heap.size + 1 + 1 by omega) 0 (.int .i64 0)) (show ¬ w.heap.size + 1 = w.heap.size + 1 + 1 by omega) 1 (.int .i64 0)) 0 0)
      go_wp2_with fail
      refine bodyPost_ret (v := .tuple #[shV 0 0, shV 0 0, .int .i64 E]) (by simp [results, Try.results17, go_sem, e0, e1, i0, i1]) rfl (WdPost.mk rfl HV.out BF.out)
  · have ek : (C != 0) = true := by simpa using hc0
    have HV : Hid (wdV M a b ph c = (0, 0, 0, 0, C)) := Lib.hid (WV.out.trans (by rw [if_neg hc0]))
    clear hc0
    obtain ⟨h0, h1, h2, h3⟩ := two_cells E1.out
    obtain ⟨k0, k1, k2, k3⟩ := two_cells (rowIs_else (rowIs_else F1.out (show ¬ w.heap.size + 1 = w.heap.size + 1 + 1 by omega) 0 (.int .i64 0)) (show ¬ w.heap.size + 1 = w.heap.size + 1 + 1 by omega) 1 (.int .i64 0))
    obtain ⟨n0, n1, n2, n3⟩ := two_cells F1.out
    have BF := Lib.hid ((((B1.out.setCell (p := ⟨w.heap.size + 1, 0, none⟩) (by simp) (.int .i64 0)).setCell (p := ⟨w.heap.size + 1, 1, none⟩) (by simp) (.int .i64 0)).setCell (p := ⟨w.heap.size + 1 + 1, 0, none⟩) (by simp; omega) (.int .i64 0)).setCell (p := ⟨w.heap.size + 1 + 1, 1, none⟩) (by simp; omega) (.int .i64 0))
    obtain ⟨e0, e1, _, _⟩ := two_cells (rowIs_else (rowIs_else (two_set E1.out 0 0) (show ¬ w.heap.size + 1 + 1 = w.heap.size + 1 by omega) 0 (.int .i64 0)) (show ¬ w.heap.size + 1 + 1 = w.heap.size + 1 by omega) 1 (.int .i64 0))
    obtain ⟨i0, i1, _, _⟩ := two_cells (two_set (rowIs_else (rowIs_else F1.out (show ¬ w.heap.size + 1 = w.heap.size + 1 + 1 by omega) 0 (.int .i64 0)) (show ¬ w.heap.size + 1 = w.heap.size + 1 + 1 by omega) 1 (.int .i64 0)) 0 0)
    go_wp2_with fail
    refine bodyPost_ret (v := .tuple #[shV 0 0, shV 0 0, .int .i64 C]) (by simp [results, Try.results17, go_sem, e0, e1, i0, i1]) rfl (WdPost.mk rfl HV.out BF.out)
end Go.Proofs.Ytkioliioakmepaa
