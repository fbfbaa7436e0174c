/-
  l05Used of the reference: the number of dice that are used.
-/
import Derived.Test.YtjfmpnkbocilpaaHwY
import Derived.Test.YtjfmpnkbocilpaaHwD
namespace Go.Proofs.Ytjfmpnkbocilpaa
open Go.ChangeShapes Go.WideShapes Go.ChangeAt Go.RowKit
set_option linter.unusedVariables false

set_option maxRecDepth 16000 in
set_option maxHeartbeats 6400000 in
theorem l05Used_any (P N : Nat) (c H s : Int) (a : Option Addr) (ca : Nat) (xs : List Int) (b : Option Addr) (cb : Nat) (ys : List Int) (A B : Int) (w : World) (h1 : Ints w w.heap.size .i64 a N xs) (h2 : Ints w w.heap.size .i64 b N ys) (hP0 : 1 ≤ P) (hP : P ≤ 24) (hN : N = P + 1) (hc : c ≤ 15) (hx : SV P c xs) (hy : SV P c ys) (hA1 : 1 ≤ A) (hA6 : A ≤ 6) (hB1 : 1 ≤ B) (hB6 : B ≤ 6) :
    Calls Try.prog 37 #[vrV P c H s, bdV a N ca b N cb, .agg #[.int .i64 A, .int .i64 B]] w fun e w' => e = .returned (.int .i64 (mostF (resF P H xs ys A B) : Nat)) ∧ Below w.heap.size w w' := by
  have hb0 := (((Below.refl w.heap.size w).alloc (Nat.le_refl _) (.cells #[.int .i64 P, .int .i64 c, .int .i64 H, .int .i64 s] 30)).alloc (by simp) (.cells #[.slice a N ca, .slice b N cb] 32)).alloc (by simp; omega) (.cells #[.int .i64 A, .int .i64 B] 49)
  have v0' := ((vr4_new w (.int .i64 P) (.int .i64 c) (.int .i64 H) (.int .i64 s) 30).alloc (.cells #[.slice a N ca, .slice b N cb] 32)).alloc (.cells #[.int .i64 A, .int .i64 B] 49)
  have d0' := (pr_new (w.alloc (.cells #[.int .i64 P, .int .i64 c, .int .i64 H, .int .i64 s] 30)) (.slice a N ca) (.slice b N cb) 32).alloc (.cells #[.int .i64 A, .int .i64 B] 49)
  have r0' := pr_new ((w.alloc (.cells #[.int .i64 P, .int .i64 c, .int .i64 H, .int .i64 s] 30)).alloc (.cells #[.slice a N ca, .slice b N cb] 32)) (.int .i64 A) (.int .i64 B) 49
  simp only [World.size_alloc] at d0' r0'
  obtain ⟨W0, hW0⟩ : ∃ W, ((w.alloc (.cells #[.int .i64 P, .int .i64 c, .int .i64 H, .int .i64 s] 30)).alloc (.cells #[.slice a N ca, .slice b N cb] 32)).alloc (.cells #[.int .i64 A, .int .i64 B] 49) = W := ⟨_, rfl⟩
  have zW : w.heap.size + 3 ≤ W0.heap.size := by rw [← hW0]; simp
  rw [hW0] at hb0 v0' d0' r0'
  have HW0 := Lib.hid hW0
  have HB0 := Lib.hid hb0
  have V0 := Lib.hid v0'
  have D0 := Lib.hid d0'
  have R0 := Lib.hid r0'
  have OR := Lib.hid (fun W => l05Orders_any A B W)
  have OL := ordF_len A B
  have OM := Lib.hid (fun o (h : o ∈ ordF A B) => ordF_mem h)
  have LG := Lib.hid (fun (W : World) (hb : Below w.heap.size w W) (oa : Option Addr) (on oc : Nat) (ds : List Int) (h3 : Ints W W.heap.size .i64 oa on ds) (hon : 0 < on) (hon4 : on ≤ 4) (hd : ∀ d ∈ ds, 1 ≤ d ∧ d ≤ 6) => l05Longest_any P N c H s a ca xs b cb ys oa on oc ds W ((h1.below hb).more hb.size) ((h2.below hb).more hb.size) h3 hP0 hP hN hc hx hy hon hon4 hd)
  have RA := Lib.hid (fun (k : Nat) (hk : k < (ordF A B).length) => resF_at (P := (P : Int)) (H := H) (xs := xs) (ys := ys) hk)
  have ROK := Lib.hid (resF_ok (H := H) hP0 hP hx hy hA1 hB1)
  have RLn := Lib.hid (resF_len (P : Int) H xs ys A B)
  obtain ⟨r, hr⟩ : ∃ r, resF P H xs ys A B = r := ⟨_, rfl⟩
  rw [hr] at RA RLn ROK
  have HR := Lib.hid hr
  obtain ⟨os, hos⟩ : ∃ os, ordF A B = os := ⟨_, rfl⟩
  rw [hos] at OR OL OM RA RLn
  obtain ⟨m, hm⟩ : ∃ m, os.length = m := ⟨_, rfl⟩
  rw [hm] at OL RLn
  have HM := Lib.hid hm
  have m1 : 0 < m := by omega
  have m2 : m ≤ 2 := by omega
  clear hr hos hm OL h1 h2 hx hy hN hb0 v0' d0' r0' hW0
  obtain ⟨q0, q1⟩ := pr_cells R0.out
  go_enter Try.func37, Try.ntmps37
  go_wp2_with fail
  rw [HW0.out]
  go_wp2_with fail
  refine (OR.out W0).mono ?_
  rintro e w1 ⟨oA, oC, rfl, hor, hb1⟩
  rw [HM.out] at hor ⊢
  have z1 := hb1.size
  have V1 := Lib.hid (rowIs_below V0.out hb1 V0.out.lt)
  have D1 := Lib.hid (rowIs_below D0.out hb1 D0.out.lt)
  have B1 := Lib.hid (HB0.out.trans (hb1.mono HB0.out.size))
  have O1 := Lib.hid hor
  clear hor hb1 q0 q1
  go_wp2_with fail
  go_loopw [7, 9] (fun uv ix wr => ∃ (i M : Nat), i ≤ m ∧ ix = .int .i64 i ∧ uv = .int .i64 M ∧ M ≤ 4 ∧ Hid (mostF (r.take i) = M) ∧ Hid (OrdR wr w1.heap.size oA m os) ∧ Hid (wr.rowIs w.heap.size 30 4 (vr4 (.int .i64 P) (.int .i64 c) (.int .i64 H) (.int .i64 s))) ∧ Hid (wr.rowIs (w.heap.size + 1) 32 2 (pr (.slice a N ca) (.slice b N cb))) ∧ Hid (Below w.heap.size w wr) ∧ w1.heap.size ≤ wr.heap.size) (fun _ ix _ => m - (intOf ix).toNat)
  case atStart => exact ⟨0, 0, Nat.zero_le _, rfl, rfl, by omega, Lib.hid rfl, O1, V1, D1, B1, Nat.le_refl _⟩
  case round =>
    obtain ⟨i, M, hi, rfl, rfl, hM4, HMF, HOR, HV, HD, HB, hz⟩ := hrel
    by_cases hlt : i < m
    ·
      obtain ⟨_, gO, hoA, hgO, hgOz, hoc⟩ := HOR.out
      obtain ⟨ai, ci, c0, hai⟩ := hoc i hlt
      have him : os.getD i [] ∈ os := by
        rw [List.getD_eq_getElem?_getD, List.getElem?_eq_getElem (by have := HM.out; omega)]; exact List.getElem_mem _
      obtain ⟨om1, om2⟩ := OM.out _ him
      have RI := Lib.hid (RA.out i (by have := HM.out; omega))
      obtain ⟨ds, hds⟩ : ∃ ds, os.getD i [] = ds := ⟨_, rfl⟩
      rw [hds] at c0 hai om1 om2 RI
      obtain ⟨on, hon⟩ : ∃ on, ds.length = on := ⟨_, rfl⟩
      rw [hon] at c0 hai om1
      have Bd := Lib.hid (show Below w.heap.size w wr.drew from below_drewN HB.out 1)
      have S1 := Lib.hid (LG.out wr.drew Bd.out ai on ci ds (show Ints wr.drew wr.drew.heap.size .i64 ai on ds from hai.more hz) (by omega) (by omega) (fun d hd => by rcases om2 d hd with rfl | rfl <;> exact ⟨by omega, by omega⟩))
      have hil : i < r.length := by have := RLn.out; omega
      have XOK := Lib.hid (ROK.out _ (rs_mem hil))
      obtain ⟨x, hx⟩ : ∃ x, r.getD i rs0 = x := ⟨_, rfl⟩
      have HX := Lib.hid hx
      rw [hx] at XOK
      have S2 := Lib.hid (show Calls Try.prog 39 #[vrV P c H s, bdV a N ca b N cb, .slice ai on ci] wr.drew fun e w' => ∃ (la : Option Addr) (lc : Nat), e = .returned (.tuple #[.slice la x.1.length lc, .int .i64 (x.2.1 : Nat), .bool x.2.2]) ∧ PlsR w' w'.heap.size N la x.1.length x.1 ∧ (∀ g o t, la = some ⟨g, o, t⟩ → wr.drew.heap.size ≤ g) ∧ Below wr.drew.heap.size wr.drew w' from by have e := S1.out; simp only [LoPost, ← RI.out, hx] at e; exact e)
      subst hoA
      have Vd := Lib.hid (show wr.drew.rowIs w.heap.size 30 4 (vr4 (.int .i64 P) (.int .i64 c) (.int .i64 H) (.int .i64 s)) from HV.out)
      have Dd := Lib.hid (show wr.drew.rowIs (w.heap.size + 1) 32 2 (pr (.slice a N ca) (.slice b N cb)) from HD.out)
      have ORd := Lib.hid (show OrdR wr.drew w1.heap.size (some ⟨gO, 0, none⟩) m os from HOR.out.bel (below_drewN (Below.refl _ wr) 1) hz)
      have C0 := Lib.hid c0
      clear hds hon him om2 hoc hai RI om1 S1
      obtain ⟨xL, xK, xF⟩ := x
      simp only at S2
      have k4 : xK ≤ 4 := XOK.out.cnt
      have l39 : xL.length ≤ 390625 := XOK.out.len
      obtain ⟨nL, hnL⟩ : ∃ nL, xL.length = nL := ⟨_, rfl⟩
      rw [hnL] at S2 l39
      have HNL := Lib.hid hnL
      obtain ⟨v0, v1, v2, v3⟩ := vr4_cells HV.out
      obtain ⟨d0, d1⟩ := pr_cells HD.out
      clear hx hnL
      go_wp2_with fail
      go_region_held3 (fun w' => w'.cell? ⟨w.heap.size, 0, none⟩ = some (.int .i64 P) ∧ w'.cell? ⟨w.heap.size, 1, none⟩ = some (.int .i64 c) ∧ w'.cell? ⟨w.heap.size, 2, none⟩ = some (.int .i64 H) ∧ w'.cell? ⟨w.heap.size, 3, none⟩ = some (.int .i64 s) ∧ w'.cell? ⟨w.heap.size + 1, 0, none⟩ = some (.slice a N ca) ∧ w'.cell? ⟨w.heap.size + 1, 1, none⟩ = some (.slice b N cb) ∧ w'.cell? ⟨gO, i, none⟩ = some (.slice ai on ci))
        (first | go_keep)
        (first
          | (go_at_call 39; (with_reducible refine S2.out.mono ?_); rintro e w2 ⟨la, lc, rfl, hpl2, hlo2, hb2⟩; have V2 := Lib.hid (rowIs_below Vd.out hb2 Vd.out.lt); have D2 := Lib.hid (rowIs_below Dd.out hb2 Dd.out.lt); have B2 := Lib.hid (Bd.out.trans (hb2.mono Bd.out.size)); have O2 := Lib.hid (ORd.out.bel hb2 hz); have P2 := Lib.hid hpl2; have L2 := Lib.hid (show ∀ g o t, la = some ⟨g, o, t⟩ → wr.heap.size ≤ g from hlo2); have z2 : wr.heap.size ≤ w2.heap.size := hb2.size; have HB2 := Lib.hid hb2; have y6 := (hb2.cell (p := ⟨gO, i, none⟩) hgOz).trans (show wr.drew.cell? ⟨gO, i, none⟩ = some (.slice ai on ci) from C0.out); obtain ⟨y0, y1, y2, y3⟩ := vr4_cells V2.out; obtain ⟨y4, y5⟩ := pr_cells D2.out; clear hpl2 hlo2 hb2))
      clear v0 v1 v2 v3 d0 d1 y0 y1 y2 y3 y4 y5 y6 c0
      have HT := Lib.hid (show mostF (r.take (i + 1)) = max M xK by rw [mostF_take hil, HMF.out, HX.out])
      have hmx : max (M : Int) (xK : Int) = ((max M xK : Nat) : Int) := by omega
      clear hil
      go_wp2_with fail
      go_roundw
      case rel => exact ⟨i + 1, max M xK, by omega, by go_num, by first | rfl | rw [hmx], by omega, HT, O2, V2, D2, B2, by omega⟩
      case measure => (simp [intOf]; try omega)
    · obtain rfl : i = m := by omega
      have HF := Lib.hid (show mostF r = M by have := HMF.out; rwa [List.take_of_length_le (by have := RLn.out; omega)] at this)
      go_wp2_with fail
      go_ret
      exact ⟨by rw [HR.out, HF.out]; rfl, HB.out⟩
end Go.Proofs.Ytjfmpnkbocilpaa
