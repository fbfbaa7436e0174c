/-
  The draw of spec.l17DrawVariant.
-/
import Derived.Test.YtmhmhbiihcdgiaaDrK
import Derived.Test.YtmhmhbiihcdgiaaDrawT
import Derived.Test.YtmhmhbiihcdgiaaEx
namespace Go.Proofs.Ytmhmhbiihcdgiaa
open Go.ChangeShapes Go.WideShapes Go.ChangeAt Go.RowKit
set_option linter.unusedVariables false
abbrev q4i (p c h s : Int) : Nat → Value := q4 (.int .i64 p) (.int .i64 c) (.int .i64 h) (.int .i64 s)
theorem q4_put {w : World} {g t : Nat} {f : Nat → Value} (h : w.rowIs g t 4 f) (p q r s : Int) : ((((w.setCell ⟨g, 0, none⟩ (.int .i64 p)).setCell ⟨g, 1, none⟩ (.int .i64 q)).setCell ⟨g, 2, none⟩ (.int .i64 r)).setCell ⟨g, 3, none⟩ (.int .i64 s)).rowIs g t 4 (q4i p q r s) :=
  ((((h.set 0 _).set 1 _).set 2 _).set 3 _).congr (fun j hj => by
    match j, hj with
    | 0, _ => rfl
    | 1, _ => rfl
    | 2, _ => rfl
    | 3, _ => rfl)
theorem q4_put1 {w : World} {g t : Nat} {p c h s : Int} (H : w.rowIs g t 4 (q4i p c h s)) (x : Int) : (w.setCell ⟨g, 1, none⟩ (.int .i64 x)).rowIs g t 4 (q4i p x h s) :=
  (H.set 1 _).congr (fun j hj => by
    match j, hj with
    | 0, _ => rfl
    | 1, _ => rfl
    | 2, _ => rfl
    | 3, _ => rfl)
theorem q4_put2 {w : World} {g t : Nat} {p c h s : Int} (H : w.rowIs g t 4 (q4i p c h s)) (x : Int) : (w.setCell ⟨g, 2, none⟩ (.int .i64 x)).rowIs g t 4 (q4i p c x s) :=
  (H.set 2 _).congr (fun j hj => by
    match j, hj with
    | 0, _ => rfl
    | 1, _ => rfl
    | 2, _ => rfl
    | 3, _ => rfl)
theorem q4_full {w : World} {g t : Nat} {p q r s : Value} (h : w.rowIs g t 4 (q4 p q r s)) : (w.cell? ⟨g, 0, none⟩ = some p ∧ w.cell? ⟨g, 1, none⟩ = some q ∧ w.cell? ⟨g, 2, none⟩ = some r ∧ w.cell? ⟨g, 3, none⟩ = some s) ∧ w.frozen? ⟨g, 0, none⟩ = false ∧ w.frozen? ⟨g, 1, none⟩ = false ∧ w.frozen? ⟨g, 2, none⟩ = false ∧ w.frozen? ⟨g, 3, none⟩ = false :=
  ⟨q4_cells h, h.frozen 0, h.frozen 1, h.frozen 2, h.frozen 3⟩
def VrD (w0 w : World) (g : Nat) (a : Option Addr) (n c : Nat) (xs : List Int) (e : Ending) (w' : World) : Prop :=
  ∃ P C H S : Int, e = .returned (vrV P C H S) ∧ Drawing w0 g a n c xs w' ∧ w.grownBy w' (some g)
theorem vrd_end {w0 w wr : World} {g : Nat} {a : Option Addr} {n c : Nat} {xs : List Int} {br : Nat} (P C H S : Int) (hd : Drawing w0 g a n c xs wr) (hg : w.grownBy wr (some g)) (hgb : g < br) (hb : w.heap.size ≤ br) :
    Drawing w0 g a n c xs ((((wr.setCell ⟨br, 0, none⟩ (.int .i64 P)).setCell ⟨br, 1, none⟩ (.int .i64 C)).setCell ⟨br, 2, none⟩ (.int .i64 H)).setCell ⟨br, 3, none⟩ (.int .i64 S)) ∧ w.grownBy ((((wr.setCell ⟨br, 0, none⟩ (.int .i64 P)).setCell ⟨br, 1, none⟩ (.int .i64 C)).setCell ⟨br, 2, none⟩ (.int .i64 H)).setCell ⟨br, 3, none⟩ (.int .i64 S)) (some g) :=
  ⟨(((hd.setB hgb _).setB hgb _).setB hgb _).setB hgb _, grown_se (grown_se (grown_se (grown_se hg hb _) hb _) hb _) hb _⟩
set_option maxHeartbeats 3200000 in
theorem l17DrawVariant_dr (w0 : World) (g : Nat) (a : Option Addr) (n c : Nat) (xs : List Int) (w : World) (h : Drawing w0 g a n c xs w) :
    Calls Try.prog 30 #[.pointer (some ⟨g, 0, none⟩)] w fun e w' => VrD w0 w g a n c xs e w' := by
  have NX := Lib.hid (fun m W hm hD => next_dr m w0 g a n c xs W hD hm)
  have hlt := h.lt
  have H0 := Lib.hid (h.alloc (.cells #[.int .i64 0, .int .i64 0, .int .i64 0, .int .i64 0] 29))
  have G0 := Lib.hid (World.grownBy_alloc w (.cells #[.int .i64 0, .int .i64 0, .int .i64 0, .int .i64 0] 29) (some g))
  have R0 := Lib.hid (q4_new w (.int .i64 0) (.int .i64 0) (.int .i64 0) (.int .i64 0) 29)
  clear h
  go_enter Try.func30, Try.ntmps30
  go_wp2_with fail
  refine (NX.out 3 _ (by omega) H0.out).mono ?_
  rintro e w1 ⟨x1, rfl, a1, b1, hd, hg⟩
  have D1 := Lib.hid hd
  have G1 := Lib.hid (by_trans G0.out hg)
  have R1 := Lib.hid (row_by R0.out hg (by omega))
  have c1 : x1 ≤ 3 := by omega
  clear b1 hd hg
  go_wp2_with fail
  refine (NX.out 2 _ (by omega) D1.out).mono ?_
  rintro e w2 ⟨x2, rfl, a2, b2, hd, hg⟩
  have D2 := Lib.hid hd
  have G2 := Lib.hid (by_trans G1.out hg)
  have R2 := Lib.hid (row_by R1.out hg (by omega))
  have c2 : x2 ≤ 2 := by omega
  clear b2 hd hg
  go_wp2_with fail
  refine (NX.out 2 _ (by omega) D2.out).mono ?_
  rintro e w3 ⟨x3, rfl, a3, b3, hd, hg⟩
  have D3 := Lib.hid hd
  have G3 := Lib.hid (by_trans G2.out hg)
  have R3 := Lib.hid (row_by R2.out hg (by omega))
  have c3 : x3 ≤ 2 := by omega
  clear b3 hd hg
  go_wp2_with fail
  refine (NX.out 3 _ (by omega) D3.out).mono ?_
  rintro e w4 ⟨x4, rfl, a4, b4, hd, hg⟩
  have c4 : x4 ≤ 3 := by omega
  have e1 : IntKind.i64.wrap (4 + x1) = 4 + x1 := IntWalk.i64_in _ (by omega)
  have e2 : IntKind.i64.wrap (1 + x2) = 1 + x2 := IntWalk.i64_in _ (by omega)
  have e3 : IntKind.i64.wrap (1 + x3) = 1 + x3 := IntWalk.i64_in _ (by omega)
  have e4 : IntKind.i64.wrap (1 + x4) = 1 + x4 := IntWalk.i64_in _ (by omega)
  obtain ⟨P, hP⟩ : ∃ P, 4 + x1 = P := ⟨_, rfl⟩
  obtain ⟨C, hC⟩ : ∃ P, 1 + x2 = P := ⟨_, rfl⟩
  obtain ⟨K, hK⟩ : ∃ P, 1 + x3 = P := ⟨_, rfl⟩
  obtain ⟨S, hS⟩ : ∃ P, 1 + x4 = P := ⟨_, rfl⟩
  have D4 := Lib.hid (hd.alloc (.cells #[.int .i64 P, .int .i64 C, .int .i64 K, .int .i64 S] 29))
  have G4 := Lib.hid (grown_al (by_trans G3.out hg) (.cells #[.int .i64 P, .int .i64 C, .int .i64 K, .int .i64 S] 29))
  have R4 := Lib.hid ((row_by R3.out hg (by omega)).alloc (.cells #[.int .i64 P, .int .i64 C, .int .i64 K, .int .i64 S] 29))
  have V4 := Lib.hid (q4_new w4 (.int .i64 P) (.int .i64 C) (.int .i64 K) (.int .i64 S) 29)
  have s4 := (row_by R3.out hg (by omega)).lt
  clear b4 hd hg
  go_wp2_with fail
  refine (NX.out 40 _ (by omega) D4.out).mono ?_
  rintro e w5 ⟨t, rfl, a5, b5, hd, hg⟩
  have D5 := Lib.hid hd
  have G5 := Lib.hid (by_trans G4.out hg)
  have R5 := Lib.hid (row_by R4.out hg (by omega))
  have V5 := Lib.hid (row_by V4.out hg (by omega))
  have t40 : t < 40 := by omega
  clear b5 hd hg e1 e2 e3 e4 hP hC hK hS
  obtain ⟨⟨v0, v1, v2, v3⟩, f0, f1, f2, f3⟩ := q4_full V5.out
  obtain ⟨⟨r0, r1, r2, r3⟩, g0, g1, g2, g3⟩ := q4_full R5.out
  have hne : ¬ w.heap.size = w4.heap.size := by omega
  have s5 := V5.out.lt
  by_cases t0 : t = 0
  · subst t0
    clear v0 v1 v2 v3 f0 f1 f2 f3 r0 r1 r2 r3 g0 g1 g2 g3
    have D6 := Lib.hid (D5.out.alloc (.cells #[.int .i64 0, .int .i64 6, .int .i64 7] 2))
    have G6 := Lib.hid (grown_al G5.out (.cells #[.int .i64 0, .int .i64 6, .int .i64 7] 2))
    have l5 := D5.out.lt
    go_wp2_with fail
    refine (NX.out 3 _ (by omega) D6.out).mono ?_
    rintro e w7 ⟨u, rfl, u1, u2, hd, hg⟩
    obtain ⟨T, rfl⟩ := Int.eq_ofNat_of_zero_le u1
    have hT : T < 3 := by omega
    obtain ⟨v, hv⟩ : ∃ v : Int, w7.cell? ⟨w5.heap.size, T, none⟩ = some (.int .i64 v) := by
      have hc := new_kept hg l5 T
      match T, hT with
      | 0, _ => exact ⟨_, hc⟩
      | 1, _ => exact ⟨_, hc⟩
      | 2, _ => exact ⟨_, hc⟩
    have V7 := Lib.hid (row_by (V5.out.alloc _) hg (by omega))
    have R7 := Lib.hid (row_by (R5.out.alloc _) hg (by omega))
    have D7 := Lib.hid (hd.setB (p := ⟨w4.heap.size, 2, none⟩) (by show g < w4.heap.size; omega) (.int .i64 v))
    have G7 := Lib.hid (grown_se (by_trans G6.out hg) (p := ⟨w4.heap.size, 2, none⟩) (by show _ ≤ w4.heap.size; omega) (.int .i64 v))
    have V8 := Lib.hid (q4_put2 V7.out v)
    have R8 := Lib.hid (R7.out.setOther (a := ⟨w4.heap.size, 2, none⟩) (by show w.heap.size ≠ w4.heap.size; omega) (.int .i64 v))
    obtain ⟨⟨v0, v1, v2, v3⟩, f0, f1, f2, f3⟩ := q4_full V7.out
    obtain ⟨⟨x0, x1, x2, x3⟩, _⟩ := q4_full V8.out
    obtain ⟨⟨r0, r1, r2, r3⟩, g0, g1, g2, g3⟩ := q4_full R8.out
    clear u2 hd hg
    go_wp2_with fail
    obtain ⟨z0, z1, z2, z3⟩ := q4_cells (q4_put R8.out P C v S)
    exact bodyPost_ret (v := vrV P C v S) (by simp [results, Try.results30, go_sem, z0, z1, z2, z3]) rfl ⟨P, C, v, S, rfl, vrd_end P C v S D7.out G7.out hlt (Nat.le_refl _)⟩
  by_cases t1 : t = 1
  · subst t1
    clear v0 v1 v2 v3 f0 f1 f2 f3 r0 r1 r2 r3 g0 g1 g2 g3
    have D6 := Lib.hid (D5.out.alloc (.cells #[.int .i64 0, .int .i64 15, .int .i64 16] 2))
    have G6 := Lib.hid (grown_al G5.out (.cells #[.int .i64 0, .int .i64 15, .int .i64 16] 2))
    have l5 := D5.out.lt
    go_wp2_with fail
    refine (NX.out 3 _ (by omega) D6.out).mono ?_
    rintro e w7 ⟨u, rfl, u1, u2, hd, hg⟩
    obtain ⟨T, rfl⟩ := Int.eq_ofNat_of_zero_le u1
    have hT : T < 3 := by omega
    obtain ⟨v, hv⟩ : ∃ v : Int, w7.cell? ⟨w5.heap.size, T, none⟩ = some (.int .i64 v) := by
      have hc := new_kept hg l5 T
      match T, hT with
      | 0, _ => exact ⟨_, hc⟩
      | 1, _ => exact ⟨_, hc⟩
      | 2, _ => exact ⟨_, hc⟩
    have V7 := Lib.hid (row_by (V5.out.alloc _) hg (by omega))
    have R7 := Lib.hid (row_by (R5.out.alloc _) hg (by omega))
    have D7 := Lib.hid (hd.setB (p := ⟨w4.heap.size, 1, none⟩) (by show g < w4.heap.size; omega) (.int .i64 v))
    have G7 := Lib.hid (grown_se (by_trans G6.out hg) (p := ⟨w4.heap.size, 1, none⟩) (by show _ ≤ w4.heap.size; omega) (.int .i64 v))
    have V8 := Lib.hid (q4_put1 V7.out v)
    have R8 := Lib.hid (R7.out.setOther (a := ⟨w4.heap.size, 1, none⟩) (by show w.heap.size ≠ w4.heap.size; omega) (.int .i64 v))
    obtain ⟨⟨v0, v1, v2, v3⟩, f0, f1, f2, f3⟩ := q4_full V7.out
    obtain ⟨⟨x0, x1, x2, x3⟩, _⟩ := q4_full V8.out
    obtain ⟨⟨r0, r1, r2, r3⟩, g0, g1, g2, g3⟩ := q4_full R8.out
    clear u2 hd hg
    go_wp2_with fail
    obtain ⟨z0, z1, z2, z3⟩ := q4_cells (q4_put R8.out P v K S)
    exact bodyPost_ret (v := vrV P v K S) (by simp [results, Try.results30, go_sem, z0, z1, z2, z3]) rfl ⟨P, v, K, S, rfl, vrd_end P v K S D7.out G7.out hlt (Nat.le_refl _)⟩
  by_cases t2 : t = 2
  · subst t2
    go_wp2_with fail
    obtain ⟨z0, z1, z2, z3⟩ := q4_cells (q4_put R5.out 24 15 6 6)
    exact bodyPost_ret (v := vrV 24 15 6 6) (by simp [results, Try.results30, go_sem, z0, z1, z2, z3]) rfl ⟨24, 15, 6, 6, rfl, vrd_end 24 15 6 6 D5.out G5.out hlt (Nat.le_refl _)⟩
  by_cases t3 : t = 3
  · subst t3
    have D7 := Lib.hid (D5.out.setB (p := ⟨w4.heap.size, 1, none⟩) (by show g < w4.heap.size; omega) (.int .i64 3))
    have G7 := Lib.hid (grown_se G5.out (p := ⟨w4.heap.size, 1, none⟩) (by show _ ≤ w4.heap.size; omega) (.int .i64 3))
    have V8 := Lib.hid (q4_put1 V5.out 3)
    have R8 := Lib.hid (R5.out.setOther (a := ⟨w4.heap.size, 1, none⟩) (by show w.heap.size ≠ w4.heap.size; omega) (.int .i64 3))
    obtain ⟨⟨x0, x1, x2, x3⟩, _⟩ := q4_full V8.out
    obtain ⟨⟨y0, y1, y2, y3⟩, k0, k1, k2, k3⟩ := q4_full R8.out
    go_wp2_with fail
    obtain ⟨z0, z1, z2, z3⟩ := q4_cells (q4_put R8.out P 3 K S)
    exact bodyPost_ret (v := vrV P 3 K S) (by simp [results, Try.results30, go_sem, z0, z1, z2, z3]) rfl ⟨P, 3, K, S, rfl, vrd_end P 3 K S D7.out G7.out hlt (Nat.le_refl _)⟩
  · have n0 : (t == 0) = false := by simpa using t0
    have n1 : (t == 1) = false := by simpa using t1
    have n2 : (t == 2) = false := by simpa using t2
    have n3 : (t == 3) = false := by simpa using t3
    go_wp2_with fail
    obtain ⟨z0, z1, z2, z3⟩ := q4_cells (q4_put R5.out P C K S)
    exact bodyPost_ret (v := vrV P C K S) (by simp [results, Try.results30, go_sem, z0, z1, z2, z3]) rfl ⟨P, C, K, S, rfl, vrd_end P C K S D5.out G5.out hlt (Nat.le_refl _)⟩
end Go.Proofs.Ytmhmhbiihcdgiaa
