/-
  l05All of the reference: the plays of a roll.
-/
import Derived.Test.YtjfmpnkbocilpaaHwU
import Derived.Test.YtjfmpnkbocilpaaHwAl
import Derived.Deep.Cut
import Derived.Deep.CutRange
import Derived.Deep.DeepCutAuto
namespace Go.Proofs.Ytjfmpnkbocilpaa
open Go.ChangeShapes Go.WideShapes Go.ChangeAt Go.RowKit
set_option linter.unusedVariables false

/-- orders whose blocks lie from lo to B - 1 -/
def OrdS (w : World) (lo B : Nat) (a : Option Addr) (n : Nat) (os : List (List Int)) : Prop :=
  os.length = n ∧ ∃ g, a = some ⟨g, 0, none⟩ ∧ lo ≤ g ∧ g < B ∧ g < w.heap.size ∧ ∀ i, i < n → ∃ (ai : Option Addr) (ci : Nat), w.cell? ⟨g, i, none⟩ = some (.slice ai (os.getD i []).length ci) ∧ Ints w B .i64 ai (os.getD i []).length (os.getD i []) ∧ ∀ b o t, ai = some ⟨b, o, t⟩ → lo ≤ b
theorem OrdS.toR {w : World} {lo B n : Nat} {a : Option Addr} {os : List (List Int)} (h : OrdS w lo B a n os) : OrdR w B a n os := by
  obtain ⟨h1, g, e, _, hg, hz, hc⟩ := h
  refine ⟨h1, g, e, hg, hz, fun i hi => ?_⟩
  obtain ⟨ai, ci, h2, h3, _⟩ := hc i hi
  exact ⟨ai, ci, h2, h3⟩
theorem OrdS.bel {w w' : World} {lo B B' n : Nat} {a : Option Addr} {os : List (List Int)} (h : OrdS w lo B a n os) (hb : Below B' w w') (hB : B ≤ B') : OrdS w' lo B a n os := by
  obtain ⟨h1, g, e, hl, hg, hz, hc⟩ := h
  refine ⟨h1, g, e, hl, hg, Nat.lt_of_lt_of_le hz hb.size, fun i hi => ?_⟩
  obtain ⟨ai, ci, h2, h3, h4⟩ := hc i hi
  exact ⟨ai, ci, (hb.cell (p := ⟨g, i, none⟩) (by show g < B'; omega)).trans h2, h3.below (hb.mono hB), h4⟩
theorem OrdS.rng {w w' : World} {lo B n : Nat} {a : Option Addr} {os : List (List Int)} (h : OrdS w lo B a n os) {r : Option Nat} (hg : w.grownBy w' r) (hr : ∀ b, r = some b → b < lo ∨ B ≤ b) (hB : B ≤ w.heap.size) : OrdS w' lo B a n os := by
  obtain ⟨h1, g, e, hl, hgB, hz, hc⟩ := h
  refine ⟨h1, g, e, hl, hgB, Nat.lt_of_lt_of_le hz hg.size, fun i hi => ?_⟩
  obtain ⟨ai, ci, h2, h3, h4⟩ := hc i hi
  have key : ∀ p : Addr, lo ≤ p.block → p.block < B → w'.cell? p = w.cell? p := fun p h1 h2 => World.cell?_of_block (w := w) (hg.block p.block (by omega) (fun e => by have := hr _ e.symm; omega))
  refine ⟨ai, ci, (key ⟨g, i, none⟩ hl hgB).trans h2, ⟨h3.1, fun hn => ?_⟩, h4⟩
  obtain ⟨b, off, e, hb, hcc⟩ := h3.2 hn
  exact ⟨b, off, e, hb, fun j hj => (key ⟨b, off + j, none⟩ (h4 b off none e) hb).trans (hcc j hj)⟩
def OrPostS (os : List (List Int)) (w : World) (e : Ending) (w' : World) : Prop := ∃ a c, e = .returned (.slice a os.length c) ∧ OrdS w' w.heap.size w'.heap.size a os.length os ∧ Below w.heap.size w w'
theorem rown_g2 {w w' : World} {lo hi m : Nat} {t : TypeId} {a : Option Addr} {f : Nat → Value} (h : RowN w lo hi t a m f) {r : Option Nat} (hg : w.grownBy w' r) (hne : ∀ g o u, a = some ⟨g, o, u⟩ → r ≠ some g) : RowN w' lo hi t a m f := by
  rcases h with h | ⟨g, h1, h2, h2', N, F, h3, h4, h5⟩
  · exact .inl h
  · exact .inr ⟨g, h1, h2, h2', N, F, h3, h4.of_block (hg.block g h4.lt (fun e => hne g 0 none h1 e.symm)), h5⟩
theorem PlsR.grow {w w' : World} {hi N n : Nat} {a : Option Addr} {l : List Pl} (h : PlsR w hi N a n l) {r : Option Nat} (hg : w.grownBy w' r) (hr : NoSI w r) (hne : ∀ g o u, a = some ⟨g, o, u⟩ → r ≠ some g) : PlsR w' hi N a n l := by
  obtain ⟨L, h1, h2, h3, h4⟩ := h
  exact ⟨L, h1, h2, rown_g2 h3 hg hne, fun i hi => (h4 i hi).ty hg hr⟩
set_option maxHeartbeats 1600000 in
theorem l05Orders_lo (a b : Int) (w : World) : Calls Try.prog 38 #[.agg #[.int .i64 a, .int .i64 b]] w fun e w' => OrPostS (ordF a b) w e w' := by
  by_cases hab : a = b
  · have HO := Lib.hid (ordF_eq hab)
    have hq : (a == b) = true := by simpa using hab
    subst hab
    go_enter Try.func38, Try.ntmps38
    go_wp2_with fail
    go_ret
    rw [HO.out]
    have c0 := fun (k : Nat) => new_cell (w.alloc (.cells #[.int .i64 a, .int .i64 a] 49)) #[.int .i64 a, .int .i64 a, .int .i64 a, .int .i64 a] 2 k
    have d0 := fun (k : Nat) (v : Value) => new_cell ((w.alloc (.cells #[.int .i64 a, .int .i64 a] 49)).alloc (.cells #[.int .i64 a, .int .i64 a, .int .i64 a, .int .i64 a] 2)) #[v] 24 k
    simp only [World.size_alloc] at c0 d0
    refine ⟨some ⟨w.heap.size + 1 + 1, 0, none⟩, 1, rfl, ⟨rfl, _, rfl, by omega, by simp, by simp, fun i hi => ?_⟩, ?_⟩
    · obtain rfl : i = 0 := by simp at hi; omega
      refine ⟨some ⟨w.heap.size + 1, 0, none⟩, 4, d0 0 _, ⟨rfl, fun _ => ⟨_, 0, rfl, by simp, fun j hj => ?_⟩⟩, fun b o t e => by cases e; omega⟩
      refine (((Below.refl _ _).alloc (Nat.le_refl _) _).cell (p := ⟨w.heap.size + 1, 0 + j, none⟩) (by simp)).trans ((c0 (0 + j)).trans ?_)
      match j, hj with
      | 0, _ => rfl
      | 1, _ => rfl
      | 2, _ => rfl
      | 3, _ => rfl
    · exact (((Below.refl _ _).alloc (Nat.le_refl _) _).alloc (by simp) _).alloc (by simp; omega) _
  · have HO := Lib.hid (ordF_ne hab)
    have hq : (a == b) = false := by simpa using hab
    go_enter Try.func38, Try.ntmps38
    go_wp2_with fail
    go_ret
    rw [HO.out]
    have c0 := fun (k : Nat) => new_cell (w.alloc (.cells #[.int .i64 a, .int .i64 b] 49)) #[.int .i64 a, .int .i64 b] 2 k
    have c1 := fun (k : Nat) => new_cell ((w.alloc (.cells #[.int .i64 a, .int .i64 b] 49)).alloc (.cells #[.int .i64 a, .int .i64 b] 2)) #[.int .i64 b, .int .i64 a] 2 k
    have d0 := fun (k : Nat) (u v : Value) => new_cell (((w.alloc (.cells #[.int .i64 a, .int .i64 b] 49)).alloc (.cells #[.int .i64 a, .int .i64 b] 2)).alloc (.cells #[.int .i64 b, .int .i64 a] 2)) #[u, v] 24 k
    simp only [World.size_alloc] at c0 c1 d0
    refine ⟨some ⟨w.heap.size + 1 + 1 + 1, 0, none⟩, 2, rfl, ⟨rfl, _, rfl, by omega, by simp, by simp, fun i hi => ?_⟩, ?_⟩
    · match i, hi with
      | 0, _ =>
        refine ⟨some ⟨w.heap.size + 1, 0, none⟩, 2, d0 0 _ _, ⟨rfl, fun _ => ⟨_, 0, rfl, by first | (simp; done) | (simp; omega), fun j hj => ?_⟩⟩, fun b o t e => by cases e; omega⟩
        refine (((Below.refl _ _).alloc (by simp) _).alloc (by first | (simp; done) | (simp; omega)) _).cell (B := w.heap.size + 1 + 1) (p := ⟨w.heap.size + 1, 0 + j, none⟩) (by show w.heap.size + 1 < _; omega) |>.trans ((c0 (0 + j)).trans ?_)
        match j, hj with
        | 0, _ => rfl
        | 1, _ => rfl
      | 1, _ =>
        refine ⟨some ⟨w.heap.size + 1 + 1, 0, none⟩, 2, d0 1 _ _, ⟨rfl, fun _ => ⟨_, 0, rfl, by simp, fun j hj => ?_⟩⟩, fun b o t e => by cases e; omega⟩
        refine (((Below.refl _ _).alloc (Nat.le_refl _) _).cell (p := ⟨w.heap.size + 1 + 1, 0 + j, none⟩) (by simp)).trans ((c1 (0 + j)).trans ?_)
        match j, hj with
        | 0, _ => rfl
        | 1, _ => rfl
    · exact ((((Below.refl _ _).alloc (Nat.le_refl _) _).alloc (by simp) _).alloc (by simp; omega) _).alloc (by simp; omega) _

set_option maxRecDepth 16000 in
set_option maxHeartbeats 12800000 in
theorem l05All_any (P N : Nat) (c H s : Int) (a : Option Addr) (ca : Nat) (xs : List Int) (b : Option Addr) (cb : Nat) (ys : List Int) (A B : Int) (w : World) (h1 : Ints w w.heap.size .i64 a N xs) (h2 : Ints w w.heap.size .i64 b N ys) (hP0 : 1 ≤ P) (hP : P ≤ 24) (hN : N = P + 1) (hc : c ≤ 15) (hx : SV P c xs) (hy : SV P c ys) (hA1 : 1 ≤ A) (hA6 : A ≤ 6) (hB1 : 1 ≤ B) (hB6 : B ≤ 6) :
    Calls Try.prog 19 #[vrV P c H s, bdV a N ca b N cb, .agg #[.int .i64 A, .int .i64 B]] w fun e w' => ApPost P N H xs ys A B w e w' := by
  have hb0 := (((Below.refl w.heap.size w).alloc (Nat.le_refl _) (.cells #[.int .i64 P, .int .i64 c, .int .i64 H, .int .i64 s] 30)).alloc (by simp) (.cells #[.slice a N ca, .slice b N cb] 32)).alloc (by simp; omega) (.cells #[.int .i64 A, .int .i64 B] 49)
  have v0' := ((vr4_new w (.int .i64 P) (.int .i64 c) (.int .i64 H) (.int .i64 s) 30).alloc (.cells #[.slice a N ca, .slice b N cb] 32)).alloc (.cells #[.int .i64 A, .int .i64 B] 49)
  have d0' := (pr_new (w.alloc (.cells #[.int .i64 P, .int .i64 c, .int .i64 H, .int .i64 s] 30)) (.slice a N ca) (.slice b N cb) 32).alloc (.cells #[.int .i64 A, .int .i64 B] 49)
  have r0' := pr_new ((w.alloc (.cells #[.int .i64 P, .int .i64 c, .int .i64 H, .int .i64 s] 30)).alloc (.cells #[.slice a N ca, .slice b N cb] 32)) (.int .i64 A) (.int .i64 B) 49
  simp only [World.size_alloc] at d0' r0'
  obtain ⟨W0, hW0⟩ : ∃ W, ((w.alloc (.cells #[.int .i64 P, .int .i64 c, .int .i64 H, .int .i64 s] 30)).alloc (.cells #[.slice a N ca, .slice b N cb] 32)).alloc (.cells #[.int .i64 A, .int .i64 B] 49) = W := ⟨_, rfl⟩
  have zW : w.heap.size + 3 ≤ W0.heap.size := by rw [← hW0]; simp
  rw [hW0] at hb0 v0' d0' r0'
  have HW0 := Lib.hid hW0
  have HB0 := Lib.hid hb0
  have V0 := Lib.hid v0'
  have D0 := Lib.hid d0'
  have R0 := Lib.hid r0'
  have OR := Lib.hid (fun W => l05Orders_any A B W)
  have OL := ordF_len A B
  have OM := Lib.hid (fun o (h : o ∈ ordF A B) => ordF_mem h)
  have LG := Lib.hid (fun (W : World) (hb : Below w.heap.size w W) (oa : Option Addr) (on oc : Nat) (ds : List Int) (h3 : Ints W W.heap.size .i64 oa on ds) (hon : 0 < on) (hon4 : on ≤ 4) (hd : ∀ d ∈ ds, 1 ≤ d ∧ d ≤ 6) => l05Longest_any P N c H s a ca xs b cb ys oa on oc ds W ((h1.below hb).more hb.size) ((h2.below hb).more hb.size) h3 hP0 hP hN hc hx hy hon hon4 hd)
  have RA := Lib.hid (fun (k : Nat) (hk : k < (ordF A B).length) => resF_at (P := (P : Int)) (H := H) (xs := xs) (ys := ys) hk)
  have ROK := Lib.hid (resF_ok (H := H) hP0 hP hx hy hA1 hB1)
  have RLn := Lib.hid (resF_len (P : Int) H xs ys A B)
  have US := Lib.hid (l05Used_any P N c H s a ca xs b cb ys A B W0 ((h1.below hb0).more hb0.size) ((h2.below hb0).more hb0.size) hP0 hP hN hc hx hy hA1 hA6 hB1 hB6)
  have ORL := Lib.hid (fun W => l05Orders_lo A B W)
  have GOAL := Lib.hid (fun (e : Ending) (w' : World) (v : Value) (he : e = .returned (.tuple #[v, .bool (fitsF (resF P H xs ys A B))])) (hp : fitsF (resF P H xs ys A B) = true → PlsO w' w.heap.size N v (mrgF (mostF (resF P H xs ys A B)) (resF P H xs ys A B))) (hb : Below w.heap.size w w') => show ApPost P N H xs ys A B w e w' from ⟨v, he, hp, hb⟩)
  have HN := Lib.hid hN
  have hN1 : P < N := by omega
  have hN2 : N ≤ P + 1 := by omega
  obtain ⟨r, hr⟩ : ∃ r, resF P H xs ys A B = r := ⟨_, rfl⟩
  rw [hr] at RA RLn ROK US GOAL
  have HR := Lib.hid hr
  obtain ⟨os, hos⟩ : ∃ os, ordF A B = os := ⟨_, rfl⟩
  rw [hos] at OR ORL OL OM RA RLn
  obtain ⟨m, hm⟩ : ∃ m, os.length = m := ⟨_, rfl⟩
  rw [hm] at OL RLn
  have HM := Lib.hid hm
  have m1 : 0 < m := by omega
  have m2 : m ≤ 2 := by omega
  clear hr hos hm OL h1 h2 hx hy hN hb0 v0' d0' r0' hW0
  have MG := Lib.hid (fun k (hk : k < r.length) => mostF_ge (rs_mem (r := r) hk))
  obtain ⟨n, hn⟩ : ∃ n, mostF r = n := ⟨_, rfl⟩
  rw [hn] at US GOAL MG
  clear hn OR
  obtain ⟨q0, q1⟩ := pr_cells R0.out
  obtain ⟨v0, v1, v2, v3⟩ := vr4_cells V0.out
  obtain ⟨d0, d1⟩ := pr_cells D0.out
  go_enter Try.func19, Try.ntmps19
  go_wp2_with fail
  rw [HW0.out]
  go_wp2_with fail
  refine US.out.mono ?_
  rintro e wu ⟨rfl, hbu⟩
  have ha := hbu.alloc hbu.size (.cells #[] 70)
  have Va := Lib.hid (rowIs_below V0.out ha V0.out.lt)
  have Da := Lib.hid (rowIs_below D0.out ha D0.out.lt)
  have Ra := Lib.hid (rowIs_below R0.out ha R0.out.lt)
  have Ba := Lib.hid (HB0.out.trans (ha.mono HB0.out.size))
  have zu := hbu.size
  have Oa := Lib.hid (PlsO.new wu (w.heap.size + 3) N (by omega))
  clear hbu ha v0 v1 v2 v3 d0 d1 q0 q1
  obtain ⟨q0, q1⟩ := pr_cells Ra.out
  go_wp2_with fail
  refine (ORL.out _).mono ?_
  rintro e w1 ⟨oA, oC, rfl, hor, hb1⟩
  rw [HM.out] at hor ⊢
  have z1 := hb1.size
  simp only [World.size_alloc] at z1 hor
  have V1 := Lib.hid (rowIs_below Va.out hb1 Va.out.lt)
  have D1 := Lib.hid (rowIs_below Da.out hb1 Da.out.lt)
  have B1 := Lib.hid (Ba.out.trans (hb1.mono Ba.out.size))
  have O1 := Lib.hid hor
  have L1 := Lib.hid (Oa.out.below hb1)
  clear hor hb1 q0 q1
  go_wp2_with fail
  go_loopw [9, 10, 12] (fun ov fv ix wr => ∃ (i : Nat) (v : Value) (f : Bool), v = ov ∧ i ≤ m ∧ ix = .int .i64 i ∧ fv = .bool f ∧ Hid (fitsF (r.take i) = f) ∧ Hid (PlsO wr (w.heap.size + 3) N v ((r.take i).foldl (mgR n) [])) ∧ ((r.take i).foldl (mgR n) []).length ≤ bd i ∧ Hid (OrdS wr (wu.heap.size + 1) w1.heap.size oA m os) ∧ Hid (∀ b, v.ownBlock = some b → b < wu.heap.size + 1 ∨ w1.heap.size ≤ b) ∧ Hid (wr.rowIs w.heap.size 30 4 (vr4 (.int .i64 P) (.int .i64 c) (.int .i64 H) (.int .i64 s))) ∧ Hid (wr.rowIs (w.heap.size + 1) 32 2 (pr (.slice a N ca) (.slice b N cb))) ∧ Hid (Below w.heap.size w wr) ∧ w1.heap.size ≤ wr.heap.size) (fun _ _ ix _ => m - (intOf ix).toNat)
  case atStart => exact ⟨0, _, true, rfl, Nat.zero_le _, rfl, rfl, Lib.hid rfl, L1, Nat.zero_le _, O1, Lib.hid (fun b e => by have e' : wu.heap.size = b := (by simpa [Value.ownBlock] using e); omega), V1, D1, B1, Nat.le_refl _⟩
  case round =>
    obtain ⟨i, v, f, rfl, hi, rfl, rfl, HF, HO, hGL, HOS, HRG, HV, HD, HB, hz⟩ := hrel
    by_cases hlt : i < m
    · have HOR := Lib.hid HOS.out.toR
      have hbs := bd_succ (i := i) (by omega)
      have hbl := bd_le i
      obtain ⟨_, gO, hoA, hgO, hgOz, hoc⟩ := HOR.out
      obtain ⟨ai, ci, c0, hai⟩ := hoc i hlt
      have him : os.getD i [] ∈ os := by
        rw [List.getD_eq_getElem?_getD, List.getElem?_eq_getElem (by have := HM.out; omega)]; exact List.getElem_mem _
      obtain ⟨om1, om2⟩ := OM.out _ him
      have RI := Lib.hid (RA.out i (by have := HM.out; omega))
      obtain ⟨ds, hds⟩ : ∃ ds, os.getD i [] = ds := ⟨_, rfl⟩
      rw [hds] at c0 hai om1 om2 RI
      obtain ⟨on, hon⟩ : ∃ on, ds.length = on := ⟨_, rfl⟩
      rw [hon] at c0 hai om1
      have Bd := Lib.hid (show Below w.heap.size w wr.drew from below_drewN HB.out 1)
      have S1 := Lib.hid (LG.out wr.drew Bd.out ai on ci ds (show Ints wr.drew wr.drew.heap.size .i64 ai on ds from hai.more hz) (by omega) (by omega) (fun d hd => by rcases om2 d hd with rfl | rfl <;> exact ⟨by omega, by omega⟩))
      have hil : i < r.length := by have := RLn.out; omega
      have XOK := Lib.hid (ROK.out _ (rs_mem hil))
      obtain ⟨x, hx⟩ : ∃ x, r.getD i rs0 = x := ⟨_, rfl⟩
      have HX := Lib.hid hx
      rw [hx] at XOK
      have S2 := Lib.hid (show Calls Try.prog 39 #[vrV P c H s, bdV a N ca b N cb, .slice ai on ci] wr.drew fun e w' => ∃ (la : Option Addr) (lc : Nat), e = .returned (.tuple #[.slice la x.1.length lc, .int .i64 (x.2.1 : Nat), .bool x.2.2]) ∧ PlsR w' w'.heap.size N la x.1.length x.1 ∧ (∀ g o t, la = some ⟨g, o, t⟩ → wr.drew.heap.size ≤ g) ∧ Below wr.drew.heap.size wr.drew w' from by have e := S1.out; simp only [LoPost, ← RI.out, hx] at e; exact e)
      subst hoA
      have Vd := Lib.hid (show wr.drew.rowIs w.heap.size 30 4 (vr4 (.int .i64 P) (.int .i64 c) (.int .i64 H) (.int .i64 s)) from HV.out)
      have Dd := Lib.hid (show wr.drew.rowIs (w.heap.size + 1) 32 2 (pr (.slice a N ca) (.slice b N cb)) from HD.out)
      have ORd := Lib.hid (show OrdR wr.drew w1.heap.size (some ⟨gO, 0, none⟩) m os from HOR.out.bel (below_drewN (Below.refl _ wr) 1) hz)
      have C0 := Lib.hid c0
      clear hds hon him om2 hoc hai RI om1 S1
      obtain ⟨xL, xK, xF⟩ := x
      simp only at S2
      have k4 : xK ≤ 4 := XOK.out.cnt
      have l39 : xL.length ≤ 390625 := XOK.out.len
      obtain ⟨nL, hnL⟩ : ∃ nL, xL.length = nL := ⟨_, rfl⟩
      rw [hnL] at S2 l39
      have HNL := Lib.hid hnL
      obtain ⟨v0, v1, v2, v3⟩ := vr4_cells HV.out
      obtain ⟨d0, d1⟩ := pr_cells HD.out
      clear hx hnL
      go_wp2_with fail
      go_region_held3 (fun w' => w'.cell? ⟨w.heap.size, 0, none⟩ = some (.int .i64 P) ∧ w'.cell? ⟨w.heap.size, 1, none⟩ = some (.int .i64 c) ∧ w'.cell? ⟨w.heap.size, 2, none⟩ = some (.int .i64 H) ∧ w'.cell? ⟨w.heap.size, 3, none⟩ = some (.int .i64 s) ∧ w'.cell? ⟨w.heap.size + 1, 0, none⟩ = some (.slice a N ca) ∧ w'.cell? ⟨w.heap.size + 1, 1, none⟩ = some (.slice b N cb) ∧ w'.cell? ⟨gO, i, none⟩ = some (.slice ai on ci))
        (first | go_keep)
        (first
          | (go_at_call 39; (with_reducible refine S2.out.mono ?_); rintro e w2 ⟨la, lc, rfl, hpl2, hlo2, hb2⟩; have V2 := Lib.hid (rowIs_below Vd.out hb2 Vd.out.lt); have D2 := Lib.hid (rowIs_below Dd.out hb2 Dd.out.lt); have B2 := Lib.hid (Bd.out.trans (hb2.mono Bd.out.size)); have O2 := Lib.hid (ORd.out.bel hb2 hz); have P2 := Lib.hid hpl2; have L2 := Lib.hid (show ∀ g o t, la = some ⟨g, o, t⟩ → wr.heap.size ≤ g from hlo2); have z2 : wr.heap.size ≤ w2.heap.size := hb2.size; have HB2 := Lib.hid hb2; have y6 := (hb2.cell (p := ⟨gO, i, none⟩) hgOz).trans (show wr.drew.cell? ⟨gO, i, none⟩ = some (.slice ai on ci) from C0.out); obtain ⟨y0, y1, y2, y3⟩ := vr4_cells V2.out; obtain ⟨y4, y5⟩ := pr_cells D2.out; clear hpl2 hlo2 hb2))
      clear v0 v1 v2 v3 d0 d1 y0 y1 y2 y3 y4 y5 y6 c0
      have OutD := Lib.hid (HO.out.drew.below HB2.out)
      have OS2 := Lib.hid ((HOS.out.bel (below_drewN (Below.refl _ wr) 1) hz).bel HB2.out hz)
      have HT := Lib.hid (show (r.take (i + 1)).foldl (mgR n) [] = mgR n ((r.take i).foldl (mgR n) []) (xL, xK, xF) by rw [mrg_take hil, HX.out])
      have hmg : xK ≤ n := by have := MG.out i hil; rw [HX.out] at this; exact this
      have HFT := Lib.hid (show fitsF (r.take (i + 1)) = (f && xF) by rw [fitsF_take hil, HF.out, HX.out])
      have GZ := Lib.hid (show i = 0 → (r.take i).foldl (mgR n) [] = [] from fun h => by rw [h]; rfl)
      have OI2 := Lib.hid HO.out.in
      obtain ⟨GI, hGI⟩ : ∃ GI, (r.take i).foldl (mgR n) [] = GI := ⟨_, rfl⟩
      rw [hGI] at OutD hGL HT GZ
      have cases4 : ∃ f' : Bool, (f && xF) = f' ∧ ((f = false ∧ f' = false) ∨ (f = true ∧ xF = f')) := by
        cases f
        · exact ⟨false, rfl, .inl ⟨rfl, rfl⟩⟩
        · exact ⟨xF, by simp, .inr ⟨rfl, rfl⟩⟩
      obtain ⟨f', hf', hcs⟩ := cases4
      have HF2 := Lib.hid (HFT.out.trans hf')
      obtain ⟨aO, cO, hvO, hPO⟩ := OutD.out.out
      subst hvO
      have PO := Lib.hid hPO
      obtain ⟨nO, hnO⟩ : ∃ nO, GI.length = nO := ⟨_, rfl⟩
      rw [hnO] at PO hGL OutD OI2 HRG ⊢
      have HNO2 := Lib.hid hnO
      clear hil hGI hf' HFT HF HO HOR HOS HV HD HB hPO hnO Vd Dd ORd Bd S2 C0
      go_upto_region 9 with fail
      go_cut [10] (fun t wx => t = .bool f' ∧ w2 = wx)
      case first =>
        rcases hcs with ⟨rfl, rfl⟩ | ⟨rfl, rfl⟩
        all_goals
          go_wp2_with fail
          go_meet
          exact ⟨rfl, rfl⟩
      case rest =>
        obtain ⟨rfl, rfl⟩ := hcut
        clear hcs
        have five : (((xK : Int) != (n : Int)) = true ∧ xK ≠ n) ∨ (((xK : Int) != (n : Int)) = false ∧ xK = n ∧ ((((n : Int) == 1) = true ∧ ((i : Int) == 1) = true ∧ 0 < (nO : Int) ∧ n = 1) ∨ ((((n : Int) == 1) = false ∨ (((n : Int) == 1) = true ∧ ((i : Int) == 1) = false) ∨ (((n : Int) == 1) = true ∧ ((i : Int) == 1) = true ∧ ¬ 0 < (nO : Int))) ∧ (n = 1 → nO = 0)))) := by
          by_cases e1 : xK = n
          · refine .inr ⟨by rw [e1]; simp, e1, ?_⟩
            by_cases e2 : n = 1
            · by_cases e3 : i = 1
              · by_cases e4 : 0 < nO
                · exact .inl ⟨by rw [e2]; rfl, by rw [e3]; rfl, by omega, e2⟩
                · exact .inr ⟨.inr (.inr ⟨by rw [e2]; rfl, by rw [e3]; rfl, by omega⟩), fun _ => by omega⟩
              · exact .inr ⟨.inr (.inl ⟨by rw [e2]; rfl, by rw [beq_eq_false_iff_ne]; omega⟩), fun _ => by have := HNO2.out; rw [GZ.out (by omega)] at this; exact this.symm⟩
            · exact .inr ⟨.inl (by rw [beq_eq_false_iff_ne]; omega), fun h => absurd h e2⟩
          · exact .inl ⟨by rw [bne, Bool.not_eq_true', beq_eq_false_iff_ne]; omega, e1⟩
        rcases five with ⟨g1, e1⟩ | ⟨g1, e1, ⟨g2, g3, g4, e2⟩ | ⟨g2, e2⟩⟩
        · have HS := Lib.hid (HT.out.trans (mgR_skip (x := (xL, xK, xF)) e1))
          clear e1
          go_wp2_with fail
          go_roundw
          case rel => exact ⟨i + 1, _, _, rfl, by omega, by go_num, rfl, HF2, Lib.hid (by rw [HS.out]; exact OutD.out), by rw [HS.out]; have := HNO2.out; omega, OS2, HRG, V2, D2, B2, by omega⟩
          case measure => (simp [intOf]; try omega)
        · have HS := Lib.hid (show (r.take (i + 1)).foldl (mgR n) [] = GI from HT.out.trans (by
            unfold mgR
            rw [if_pos (.inr ⟨e2, fun h => by have := HNO2.out; rw [h] at this; simp at this; omega⟩)]))
          clear e1 e2
          go_wp2_with fail
          go_roundw
          case rel => exact ⟨i + 1, _, _, rfl, by omega, by go_num, rfl, HF2, Lib.hid (by rw [HS.out]; exact OutD.out), by rw [HS.out]; have := HNO2.out; omega, OS2, HRG, V2, D2, B2, by omega⟩
          case measure => (simp [intOf]; try omega)
        · have HS := Lib.hid (HT.out.trans (mgR_take (x := (xL, xK, xF)) e1 (fun h => List.eq_nil_of_length_eq_zero (by have := HNO2.out; have := e2 h; omega))))
          have LEN := Lib.hid (fun j => mgF_len GI (xL.take j))
          have HSV := Lib.hid (fun j (hj : j < nL) => XOK.out.sv _ (getD_memP (l := xL) (k := j) (by have := HNL.out; omega)))
          have HMT := Lib.hid (fun j (hj : j < nL) => mgF_take (l := xL) (out := GI) (k := j) (by have := HNL.out; omega))
          have HTL := Lib.hid (fun j => show (xL.take j).length ≤ j by rw [List.length_take]; exact Nat.min_le_left _ _)
          have OD0 := Lib.hid (show PlsO w2 (w.heap.size + 3) N (.slice aO nO cO) (mgF GI (xL.take 0)) from OutD.out)
          have NE0 := Lib.hid (show ∀ g o t, la = some ⟨g, o, t⟩ → (Value.slice aO nO cO).ownBlock ≠ some g from fun g o t e e' => by have h1 := L2.out g o t e; have h2 := (OI2.out g e').2; omega)
          clear e1 e2 HT
          rcases g2 with g2 | ⟨g2, g3⟩ | ⟨g2, g3, g4⟩
          all_goals
            go_wp2_with fail
            go_loopw [9, 16] (fun ov ix wr => ∃ (j : Nat) (v' : Value), v' = ov ∧ j ≤ nL ∧ ix = .int .i64 j ∧ Hid (PlsO wr (w.heap.size + 3) N v' (mgF GI (xL.take j))) ∧ Hid (PlsR wr w2.heap.size N la nL xL) ∧ Hid (∀ g o t, la = some ⟨g, o, t⟩ → v'.ownBlock ≠ some g) ∧ Hid (OrdS wr (wu.heap.size + 1) w1.heap.size (some ⟨gO, 0, none⟩) m os) ∧ Hid (∀ b, v'.ownBlock = some b → b < wu.heap.size + 1 ∨ w1.heap.size ≤ b) ∧ Hid (wr.rowIs w.heap.size 30 4 (vr4 (.int .i64 P) (.int .i64 c) (.int .i64 H) (.int .i64 s))) ∧ Hid (wr.rowIs (w.heap.size + 1) 32 2 (pr (.slice a N ca) (.slice b N cb))) ∧ Hid (Below w.heap.size w wr) ∧ w2.heap.size ≤ wr.heap.size) (fun _ ix _ => nL - (intOf ix).toNat)
            case atStart => exact ⟨0, _, rfl, Nat.zero_le _, rfl, OD0, P2, NE0, OS2, HRG, V2, D2, B2, Nat.le_refl _⟩
            case round =>
              obtain ⟨j, v', rfl, hj, rfl, HOj, HPj, HNj, HSj, HRj, HVj, HDj, HBj, hzj⟩ := hrel
              by_cases hlt2 : j < nL
              · obtain ⟨gL, px, hlA, hgL, hgLz, p0, p1, p2', hpx⟩ := HPj.out.at hlt2
                have p2 : _ = some (Value.slice px.ta N px.tc) := p2'
                have p3 := (show _root_.Go.World.cell? _ ⟨gL, j * 3 + 1 + 1, none⟩ = some (Value.slice px.ta N px.tc) from p2')
                subst hlA
                obtain ⟨sv1, sv2, _⟩ := HSV.out j hlt2
                have MT := Lib.hid (HMT.out j hlt2)
                have LB : (mgF GI (xL.take j)).length ≤ nO + j := by have := LEN.out j; have := HTL.out j; have := HNO2.out; omega
                obtain ⟨p, hp⟩ : ∃ p, xL.getD j pl0 = p := ⟨_, rfl⟩
                rw [hp] at MT sv1 sv2 hpx
                obtain ⟨GJ, hGJ⟩ : ∃ GJ, mgF GI (xL.take j) = GJ := ⟨_, rfl⟩
                rw [hGJ] at HOj LB MT
                obtain ⟨aJ, cJ, hvJ, hPJ⟩ := HOj.out.out
                subst hvJ
                have HYES := Lib.hid (fun h => MT.out.trans (mgS_yes (out := GJ) (p := p) h))
                have HNO := Lib.hid (fun h => MT.out.trans (mgS_no (out := GJ) (p := p) h))
                have PX := Lib.hid hpx
                have FD := Lib.hid (l05Find_any N aJ GJ.length cJ GJ px.oa px.oc p.own px.ta px.tc p.oth _ _ hPJ (hpx.own.more hzj) (hpx.oth.more hzj) (Nat.le_refl _) (by omega) (by omega) (by omega))
                obtain ⟨nJ, hnJ⟩ : ∃ nJ, GJ.length = nJ := ⟨_, rfl⟩
                rw [hnJ] at FD HOj LB HNj HRj ⊢
                have HNJ := Lib.hid hnJ
                obtain ⟨sa, sn, sc, oa, oc, ta, tc⟩ := px
                simp only at p0 p1 p2 p3 FD
                have SV1 := Lib.hid sv1
                have SV2 := Lib.hid sv2
                clear MT sv1 sv2 hp hGJ hpx p2' hPJ hnJ
                go_wp2_with fail
                refine FD.out.mono ?_
                rintro e w5 ⟨q, rfl, r0, r1, hrd, hb5⟩
                have z5 := hb5.size
                have V5 := Lib.hid (rowIs_below HVj.out hb5 HVj.out.lt)
                have D5 := Lib.hid (rowIs_below HDj.out hb5 HDj.out.lt)
                have B5 := Lib.hid (HBj.out.trans (hb5.mono HBj.out.size))
                have S5 := Lib.hid (HSj.out.bel hb5 (by omega))
                have P5 := Lib.hid (HPj.out.bel hb5 hzj)
                have O5 := Lib.hid (HOj.out.below hb5)
                have X5 := Lib.hid ((PX.out.bel hb5 hzj).more (hi' := w5.heap.size) (by omega))
                have p0' := (hb5.cell (p := ⟨gL, j * 3, none⟩) hgLz).trans p0
                have p1' := (hb5.cell (p := ⟨gL, j * 3 + 1, none⟩) hgLz).trans p1
                have p2' := (hb5.cell (p := ⟨gL, j * 3 + 2, none⟩) hgLz).trans p2
                clear p0 p1 p2 p3 hb5 HVj HDj HBj HSj HPj HOj PX FD
                cases hs : hasB GJ p.own p.oth
                · rw [hs] at hrd
                  have hr2 : decide (q < 0) = true := hrd
                  have hr3 : q < 0 := of_decide_eq_true hr2
                  have HE := Lib.hid (HNO.out hs)
                  clear hrd hs HYES HNO
                  have ba := (Below.refl w5.heap.size w5).alloc (Nat.le_refl _) (.cells #[.slice sa sn sc, .slice oa N oc, .slice ta N tc] 70)
                  have V7 := Lib.hid (V5.out.alloc (.cells #[.slice sa sn sc, .slice oa N oc, .slice ta N tc] 70))
                  have D7 := Lib.hid (D5.out.alloc (.cells #[.slice sa sn sc, .slice oa N oc, .slice ta N tc] 70))
                  have B7 := Lib.hid (B5.out.alloc B5.out.size (.cells #[.slice sa sn sc, .slice oa N oc, .slice ta N tc] 70))
                  have S7 := Lib.hid (S5.out.bel ba (by omega))
                  have P7 := Lib.hid (P5.out.bel ba (by omega))
                  have O7 := Lib.hid (O5.out.alloc (.cells #[.slice sa sn sc, .slice oa N oc, .slice ta N tc] 70))
                  have PV := Lib.hid ((X5.out.bel ba (Nat.le_refl _)).more ba.size)
                  obtain ⟨e0, e1, e2⟩ := th3_cells (th3_new w5 (.slice sa sn sc) (.slice oa N oc) (.slice ta N tc) 70)
                  have E0 := Lib.hid e0
                  have E1 := Lib.hid e1
                  have E2 := Lib.hid e2
                  have OI := Lib.hid O7.out.in
                  have NS := Lib.hid O7.out.nosi
                  clear e0 e1 e2 ba V5 D5 B5 S5 P5 O5 X5
                  go_wp2_with (first | (at_builtin; refine app_pl_at rfl (.tmp 75) (.tmp 80) rfl rfl O7.out w5.heap.size rfl ⟨sa, sn, sc, oa, oc, ta, tc⟩ p PV.out E0.out E1.out E2.out (by have := HNJ.out; omega) (by have := B7.out.size; simp; omega) ?_; intro gX capX wX hoX hgX hlX))
                  have zX := hgX.size
                  simp only [World.size_alloc] at zX hlX
                  have OX : ∀ b, (Value.slice aJ nJ cJ).ownBlock = some b → w.heap.size + 3 ≤ b := fun b e => (OI.out b e).1
                  go_roundw
                  case rel =>
                    refine ⟨j + 1, _, rfl, by omega, by go_num, Lib.hid (by rw [HE.out]; exact hoX), Lib.hid (P7.out.grow hgX NS.out HNj.out), Lib.hid (fun g o t e e' => ?_), Lib.hid (S7.out.rng hgX HRj.out (by simp; omega)), Lib.hid (fun b e' => ?_), Lib.hid (row_by V7.out hgX (fun e => by have := OX _ e; omega)), Lib.hid (row_by D7.out hgX (fun e => by have := OX _ e; omega)), Lib.hid (grown_below' B7.out hgX (fun b e => by have := OX b e; omega) (by have := B7.out.size; exact this)), by omega⟩
                    · have eg : gX = g := by simpa [Value.ownBlock] using e'
                      rcases hlX with h | h
                      · exact HNj.out g o t e ((show (Value.slice aJ nJ cJ).ownBlock = some gX from h).trans (by rw [eg]))
                      · have e2 : gL = g := by injection e with e; injection e
                        omega
                    · have eg : gX = b := by simpa [Value.ownBlock] using e'
                      rcases hlX with h | h
                      · exact HRj.out b ((show (Value.slice aJ nJ cJ).ownBlock = some gX from h).trans (by rw [eg]))
                      · exact .inr (by omega)
                  case measure => (simp [intOf]; try omega)
                · rw [hs] at hrd
                  have hr2 : decide (q < 0) = false := hrd
                  have hr3 : ¬ q < 0 := of_decide_eq_false hr2
                  have HE := Lib.hid (HYES.out hs)
                  clear hrd hs HYES HNO
                  go_wp2_with fail
                  go_roundw
                  case rel => exact ⟨j + 1, _, rfl, by omega, by go_num, Lib.hid (by rw [HE.out]; exact O5.out), P5, HNj, S5, HRj, V5, D5, B5, by omega⟩
                  case measure => (simp [intOf]; try omega)
              · obtain rfl : j = nL := by omega
                have HJ := Lib.hid (show mgF GI (xL.take j) = (r.take (i + 1)).foldl (mgR n) [] by
                  rw [List.take_of_length_le (by have := HNL.out; omega), HS.out])
                have LJ : (mgF GI (xL.take j)).length ≤ nO + j := by have := LEN.out j; have := HTL.out j; have := HNO2.out; omega
                go_wp2_with fail
                go_roundw
                case rel => exact ⟨i + 1, v', _, rfl, by omega, by go_num, rfl, HF2, Lib.hid (by rw [← HJ.out]; exact HOj.out), by rw [← HJ.out]; omega, HSj, HRj, HVj, HDj, HBj, by omega⟩
                case measure => (simp [intOf]; try omega)
    · obtain rfl : i = m := by omega
      have HFF := Lib.hid (show fitsF r = f by have := HF.out; rwa [List.take_of_length_le (by have := RLn.out; omega)] at this)
      have HGF := Lib.hid (show mrgF n r = (r.take i).foldl (mgR n) [] by unfold mrgF; rw [List.take_of_length_le (by have := RLn.out; omega)])
      go_wp2_with fail
      go_ret2
      exact GOAL.out _ _ v (by rw [HFF.out]; rfl) (fun _ => by rw [HGF.out]; exact HO.out.lower (by omega)) HB.out
end Go.Proofs.Ytjfmpnkbocilpaa
