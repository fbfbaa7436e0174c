/-
  sequencesOf of the program: the kept sequences of an order.
-/
import Derived.Test.YtjfmpnkbocilpaaHwG
import Derived.Test.YtjfmpnkbocilpaaHwR
import Derived.Test.YtjfmpnkbocilpaaHwC
import Derived.Deep.RegionHeld3
namespace Go.Proofs.Ytjfmpnkbocilpaa
open Go.ChangeShapes Go.WideShapes Go.ChangeAt Go.RowKit
set_option linter.unusedVariables false

/-- block r is no row of plays -/
def NoP (w : World) (r : Option Nat) : Prop := ∀ b, r = some b → ∀ cs fz, w.heap[b]? ≠ some (.cells cs 70 fz)
theorem PlsR.ty {w w' : World} {hi N n : Nat} {a : Option Addr} {l : List Pl} (h : PlsR w hi N a n l) {r : Option Nat} (hg : w.grownBy w' r) (hr : NoSI w r) (hp : NoP w r) : PlsR w' hi N a n l := by
  obtain ⟨L, h1, h2, h3, h4⟩ := h
  exact ⟨L, h1, h2, rown_ty h3 hg hp, fun i hi => (h4 i hi).ty hg hr⟩
theorem ow_nosi {w : World} {base : Nat} {t : TypeId} {sz : Nat} {v : Value} {n : Nat} {vs : List Value} (h : w.ownsRow base t sz v n vs) (h1 : t ≠ 72) (h2 : t ≠ 2) : NoSI w v.ownBlock := by
  intro b e
  obtain ⟨_, _, cs, hc⟩ := ow_in h b e
  exact nosi_cells hc h1 h2 b rfl
theorem ow_nop {w : World} {base : Nat} {t : TypeId} {sz : Nat} {v : Value} {n : Nat} {vs : List Value} (h : w.ownsRow base t sz v n vs) (h1 : t ≠ 70) : NoP w v.ownBlock := by
  intro b e cs fz hb
  obtain ⟨_, _, cs', hc⟩ := ow_in h b e
  rw [hc] at hb
  injection hb with hb
  injection hb with _ hb
  exact h1 hb
theorem own_cell {w : World} {base : Nat} {t : TypeId} {v : Value} {n : Nat} {vs : List Value} (h : w.ownsRow base t 1 v n vs) {i : Nat} (hi : i < n) : ∃ g cap, v = .slice (some ⟨g, 0, none⟩) n cap ∧ base ≤ g ∧ g < w.heap.size ∧ w.cell? ⟨g, i, none⟩ = some (vs.getD i undef) := by
  obtain ⟨a, c, rfl, _, hr⟩ := ow_out h
  rw [Nat.mul_one] at hr
  obtain ⟨g, rfl, h1, h2, h3, hc⟩ := hr.blk (by omega)
  exact ⟨g, c, rfl, h1, h3, (hc i hi).1⟩
theorem pow25 {j : Nat} (h : j ≤ 3) : 25 ^ j ≤ 15625 := by
  have : ∀ j : Fin 4, 25 ^ j.val ≤ 15625 := by decide
  exact this ⟨j, by omega⟩
theorem pow25' {j : Nat} (h : j ≤ 4) : 25 ^ j ≤ 390625 := by
  have : ∀ j : Fin 5, 25 ^ j.val ≤ 390625 := by decide
  exact this ⟨j, by omega⟩
/-- rows of plays whose last row holds the longest sequences -/
def SqAt (w : World) (B N : Nat) (v : Value) (x : List Pl × Nat × Bool) : Prop :=
  ∃ (g cap : Nat) (la : Option Addr) (lc : Nat) (F : Nat → Value), v = .slice (some ⟨g, 0, none⟩) (x.2.1 + 1) cap ∧ RowN w 0 B 45 (some ⟨g, 0, none⟩) (x.2.1 + 1) F ∧ F x.2.1 = .slice la x.1.length lc ∧ PlsR w B N la x.1.length x.1
theorem SqAt.bel {w w' : World} {B B' N : Nat} {v : Value} {x : List Pl × Nat × Bool} (h : SqAt w B N v x) (hb : Below B' w w') (hB : B ≤ B') : SqAt w' B N v x := by
  obtain ⟨g, cap, la, lc, F, e, h1, h2, h3⟩ := h
  exact ⟨g, cap, la, lc, F, e, rown_bel h1 hb hB, h2, h3.bel hb hB⟩
theorem SqAt.more {w : World} {B B' N : Nat} {v : Value} {x : List Pl × Nat × Bool} (h : SqAt w B N v x) (hB : B ≤ B') : SqAt w B' N v x := by
  obtain ⟨g, cap, la, lc, F, e, h1, h2, h3⟩ := h
  exact ⟨g, cap, la, lc, F, e, h1.wide (Nat.le_refl _) hB, h2, h3.more hB⟩
theorem SqAt.ty {w w' : World} {B N : Nat} {v : Value} {x : List Pl × Nat × Bool} (h : SqAt w B N v x) {r : Option Nat} (hg : w.grownBy w' r) (hr : NoSI w r) (hp : NoP w r) (hq : ∀ b, r = some b → ∀ cs fz, w.heap[b]? ≠ some (.cells cs 45 fz)) : SqAt w' B N v x := by
  obtain ⟨g, cap, la, lc, F, e, h1, h2, h3⟩ := h
  exact ⟨g, cap, la, lc, F, e, rown_ty h1 hg hq, h2, h3.ty hg hr hp⟩
theorem SqAt.at {w : World} {B N : Nat} {v : Value} {x : List Pl × Nat × Bool} (h : SqAt w B N v x) : ∃ (g cap : Nat) (la : Option Addr) (lc : Nat), v = .slice (some ⟨g, 0, none⟩) (x.2.1 + 1) cap ∧ g < B ∧ g < w.heap.size ∧ w.cell? ⟨g, x.2.1, none⟩ = some (.slice la x.1.length lc) ∧ PlsR w B N la x.1.length x.1 := by
  obtain ⟨g, cap, la, lc, F, e, h1, h2, h3⟩ := h
  obtain ⟨g', e', _, hg, hz, hc⟩ := h1.blk (by omega)
  injection e' with e'
  injection e' with e'
  subst e'
  exact ⟨g, cap, la, lc, e, hg, hz, by rw [(hc x.2.1 (by omega)).1, h2], h3⟩
def SqPost (P N : Nat) (H : Int) (ds xs ys : List Int) (w : World) (e : Ending) (w' : World) : Prop :=
  ∃ v, e = .returned (.tuple #[v, .bool (lng P H ds (sq0 xs ys)).2.2]) ∧ SqAt w' w'.heap.size N v (lng P H ds (sq0 xs ys)) ∧ Below w.heap.size w w'
/-- a play without a step -/
theorem PvOk.start {w : World} {hi gA gB cA cB N lo : Nat} {sa : Option Addr} {sc : Nat} {xs ys : List Int} (h : Bd2 w lo gA gB N N xs ys) (h1 : xs.length = N) (h2 : ys.length = N) (ha : gA < hi) (hb : gB < hi) : PvOk w hi N ⟨sa, 0, sc, some ⟨gA, 0, none⟩, cA, some ⟨gB, 0, none⟩, cB⟩ ⟨[], xs, ys⟩ :=
  ⟨⟨rfl, .inl rfl⟩, h.a.wide (Nat.zero_le _) ha, h1, h.b.wide (Nat.zero_le _) hb, h2⟩
/-- the list of one play -/
theorem PlsR.one {w : World} {hi N b : Nat} {x : Pv} {p : Pl} (hb : w.rowIs b 70 3 (th3 (.slice x.sa x.sn x.sc) (.slice x.oa N x.oc) (.slice x.ta N x.tc))) (hh : b < hi) (hx : PvOk w hi N x p) : PlsR w hi N (some ⟨b, 0, none⟩) 1 [p] := by
  refine ⟨[x], rfl, rfl, .inr ⟨b, rfl, Nat.zero_le _, hh, 3, _, by omega, hb, fun i hi => ?_⟩, fun i hi => ?_⟩
  · match i, hi with
    | 0, _ => rfl
    | 1, _ => rfl
    | 2, _ => rfl
  · obtain rfl : i = 0 := by omega
    exact hx
theorem info_pls : (Try.prog.info? 45).map (fun i => (i.zero, i.size, i.bytes)) = some (some (.slice none 0 0), 1, 24) := by kernel_rfl
set_option maxRecDepth 16000 in
set_option maxHeartbeats 6400000 in
theorem sequencesOf_any (P N : Nat) (c H s : Int) (a : Option Addr) (ca : Nat) (xs : List Int) (b : Option Addr) (cb : Nat) (ys : List Int) (oa : Option Addr) (on oc : Nat) (ds : List Int) (w : World) (h1 : Ints w w.heap.size .i64 a N xs) (h2 : Ints w w.heap.size .i64 b N ys) (h3 : Ints w w.heap.size .i64 oa on ds) (hP0 : 1 ≤ P) (hP : P ≤ 24) (hN : N = P + 1) (hc : c ≤ 15) (hx : SV P c xs) (hy : SV P c ys) (hon : 0 < on) (hon4 : on ≤ 4) (hd : ∀ d ∈ ds, 1 ≤ d ∧ d ≤ 6) :
    Calls Try.prog 60 #[vrV P c H s, bdV a N ca b N cb, .slice oa on oc] w fun e w' => SqPost P N H ds xs ys w e w' := by
  have HB0 := Lib.hid (((Below.refl w.heap.size w).alloc (Nat.le_refl _) (.cells #[.int .i64 P, .int .i64 c, .int .i64 H, .int .i64 s] 30)).alloc (by simp) (.cells #[.slice a N ca, .slice b N cb] 32))
  have V0 := Lib.hid ((vr4_new w (.int .i64 P) (.int .i64 c) (.int .i64 H) (.int .i64 s) 30).alloc (.cells #[.slice a N ca, .slice b N cb] 32))
  have d0 := pr_new (w.alloc (.cells #[.int .i64 P, .int .i64 c, .int .i64 H, .int .i64 s] 30)) (.slice a N ca) (.slice b N cb) 32
  rw [World.size_alloc] at d0
  have CL := Lib.hid (cloneBoard_any a N ca xs b N cb ys _ ((h1.below HB0.out).more HB0.out.size) ((h2.below HB0.out).more HB0.out.size) (by omega) (by omega) (by omega) (by omega))
  obtain ⟨go, oo, rfl, hgo, hco⟩ := h3.2 hon
  have CO := Lib.hid hco
  have DL := Lib.hid h3.len
  have HD := Lib.hid hd
  have HX := Lib.hid hx
  have HY := Lib.hid hy
  have XL := Lib.hid h1.len
  have YL := Lib.hid h2.len
  have HN := Lib.hid hN
  have hN1 : P < N := by omega
  have hN2 : N ≤ P + 1 := by omega
  obtain ⟨q0, q1⟩ := pr_cells d0
  clear h1 h2 h3 hco hd hx hy hN d0
  go_enter Try.func60, Try.ntmps60
  go_wp2_with fail
  refine CL.out.mono ?_
  rintro e w1 ⟨gA, cA, gB, cB, rfl, hbd, hb1⟩
  have z1 := hb1.size
  simp only [World.size_alloc] at z1 hbd
  have la := rown_lt hbd.a (by omega)
  have lb := rown_lt hbd.b (by omega)
  have ha := ((Below.refl w1.heap.size w1).alloc (Nat.le_refl _) (.cells #[.slice none 0 0, .slice (some ⟨gA, 0, none⟩) N cA, .slice (some ⟨gB, 0, none⟩) N cB] 70)).alloc (by simp) (.cells #[.slice (some ⟨w1.heap.size, 0, none⟩) 1 1] 45)
  have P1 := Lib.hid (show PlsR ((w1.alloc (.cells #[.slice none 0 0, .slice (some ⟨gA, 0, none⟩) N cA, .slice (some ⟨gB, 0, none⟩) N cB] 70)).alloc (.cells #[.slice (some ⟨w1.heap.size, 0, none⟩) 1 1] 45)) ((w1.alloc (.cells #[.slice none 0 0, .slice (some ⟨gA, 0, none⟩) N cA, .slice (some ⟨gB, 0, none⟩) N cB] 70)).alloc (.cells #[.slice (some ⟨w1.heap.size, 0, none⟩) 1 1] 45)).heap.size N (some ⟨w1.heap.size, 0, none⟩) 1 (sq0 xs ys) from
    PlsR.one (x := ⟨none, 0, 0, some ⟨gA, 0, none⟩, cA, some ⟨gB, 0, none⟩, cB⟩) ((th3_new w1 _ _ _ _).alloc _) (by first | (simp; done) | (simp; omega)) (PvOk.start ((hbd.al _).al _) XL.out YL.out (by simp; omega) (by simp; omega)))
  have e1 := World.ownsRow_lit (base := w.heap.size + 2) (e := 45) (size := 1) (w1.alloc (.cells #[.slice none 0 0, .slice (some ⟨gA, 0, none⟩) N cA, .slice (some ⟨gB, 0, none⟩) N cB] 70)) #[.slice (some ⟨w1.heap.size, 0, none⟩) 1 1] 1 (by simp; omega) (by unfold maxLen; omega) rfl
  rw [World.size_alloc] at e1
  have E1 := Lib.hid e1
  have B1 := Lib.hid ((HB0.out.trans (hb1.mono HB0.out.size)).trans (ha.mono (by omega)))
  have V1 := Lib.hid (rowIs_below (rowIs_below V0.out hb1 V0.out.lt) ha (by omega))
  clear e1 hbd hb1 ha q0 q1
  go_wp2_with fail
  go_loopw [8, 9, 20] (fun rv fv ix wr => ∃ (j : Nat) (cur : List Pl) (f : Bool) (v : Value) (lA : Option Addr) (lc : Nat) (vs : List Value), v = rv ∧ j ≤ on ∧ ix = .int .i64 j ∧ fv = .bool f ∧ Hid (LgAt P H ds (sq0 xs ys) j cur f) ∧ Hid (wr.ownsRow (w.heap.size + 2) 45 1 v (j + 1) vs) ∧ Hid (vs.getD j undef = .slice lA cur.length lc) ∧ Hid (PlsR wr wr.heap.size N lA cur.length cur) ∧ Hid (PlsOk P c j cur) ∧ Hid (cur.length ≤ 25 ^ j) ∧ Hid (wr.rowIs w.heap.size 30 4 (vr4 (.int .i64 P) (.int .i64 c) (.int .i64 H) (.int .i64 s))) ∧ Hid (Below w.heap.size w wr) ∧ w.heap.size + 2 ≤ wr.heap.size) (fun _ _ ix _ => on - (intOf ix).toNat)
  case atStart => exact ⟨0, sq0 xs ys, true, _, _, 1, _, rfl, Nat.zero_le _, rfl, rfl, Lib.hid LgAt.start, E1, Lib.hid rfl, P1, Lib.hid (sq0_ok HX.out HY.out), Lib.hid (Nat.le_refl _), V1, B1, by simp; omega⟩
  case round =>
    obtain ⟨j, cur, f, v, lA, lc, vs, rfl, hj, rfl, rfl, HLg, HO, HVS, HPL, HOK, HLE, HV, HB, hz⟩ := hrel
    obtain ⟨gR, cR, hv, hgR, hgRz, cell⟩ := own_cell HO.out (i := j) (by omega)
    subst hv
    have RW := Lib.hid (show RowN wr 0 wr.heap.size 45 (some ⟨gR, 0, none⟩) (j + 1) (fun i => vs.getD i undef) by
      obtain ⟨a', c', e', _, h⟩ := ow_out HO.out
      injection e' with e1 _ _
      subst e1
      rw [Nat.mul_one] at h
      exact h.wide (Nat.zero_le _) (Nat.le_refl _))
    have CR := Lib.hid (cell.trans (by rw [HVS.out]))
    obtain ⟨nR, hnR⟩ : ∃ nR, j + 1 = nR := ⟨_, rfl⟩
    rw [hnR] at HO ⊢
    have HNR := Lib.hid hnR
    clear cell hnR
    by_cases hlt : j < on
    · have cd := (HB.out.cell (p := ⟨go, oo + j, none⟩) (by show go < _; omega)).trans (CO.out j hlt)
      obtain ⟨die, hdie⟩ : ∃ die, ds.getD j 0 = die := ⟨_, rfl⟩
      rw [hdie] at cd
      have hjd : j < ds.length := by have := DL.out; omega
      have hdm : 1 ≤ die ∧ die ≤ 6 := by
        rw [← hdie]
        refine HD.out _ ?_
        rw [List.getD_eq_getElem?_getD, List.getElem?_eq_getElem hjd]; exact List.getElem_mem hjd
      have LS := Lib.hid (fun h => HLg.out.step hjd h)
      have LP := Lib.hid (fun h => HLg.out.stop hjd h)
      rw [hdie] at LS LP
      have NL := nxL_len (P : Int) H die cur
      have NK := Lib.hid (nxL_ok (P := (P : Int)) (H := H) (die := die) (by omega) hdm.1 HOK.out)
      have G1 := Lib.hid (goOn_any P N c H s lA cur.length lc cur die j wr.drew (show PlsR wr.drew wr.drew.heap.size N lA cur.length cur from HPL.out.bel (below_drewN (Below.refl _ wr) 1) (Nat.le_refl _)) hP0 hP HN.out hc hdm.1 hdm.2 (Nat.le_trans HLE.out (pow25 (by omega))) HOK.out (by omega))
      have Vd := Lib.hid (show wr.drew.rowIs w.heap.size 30 4 (vr4 (.int .i64 P) (.int .i64 c) (.int .i64 H) (.int .i64 s)) from HV.out)
      have Bd := Lib.hid (show Below w.heap.size w wr.drew from below_drewN HB.out 1)
      have Od := Lib.hid (ow_drew HO.out)
      have NLE := Lib.hid (show (nxL P H die cur).length ≤ 25 ^ (j + 1) by
        have h2 : cur.length * ((P : Int).toNat + 1) ≤ 25 ^ j * 25 := Nat.mul_le_mul HLE.out (by rw [Int.toNat_natCast]; omega)
        rw [Nat.pow_succ]; omega)
      obtain ⟨nxt, hnxt⟩ : ∃ nxt, nxL P H die cur = nxt := ⟨_, rfl⟩
      rw [hnxt] at LS LP NK G1 NLE
      obtain ⟨m2, hm2⟩ : ∃ m2, nxt.length = m2 := ⟨_, rfl⟩
      have HM2 := Lib.hid hm2
      have m2b : m2 ≤ 390625 := by rw [← hm2]; exact Nat.le_trans NLE.out (pow25' (by omega))
      rw [hm2] at LS LP
      clear hdie hnxt hm2 NL HLg hjd
      have wn : IntKind.i64.wrap ((nR : Int) - 1) = (j : Int) := by rw [IntWalk.i64_in _ (by have := HNR.out; omega)]; have := HNR.out; omega
      have nj : (j : Int) < (nR : Int) := by have := HNR.out; omega
      have cr := CR.out
      obtain ⟨nC, hnC⟩ : ∃ nC, cur.length = nC := ⟨_, rfl⟩
      rw [hnC] at cr CR G1
      have HNC := Lib.hid hnC
      clear hnC
      obtain ⟨v0, v1, v2, v3⟩ := vr4_cells HV.out
      go_wp2_with fail
      go_region_held3 (fun w' => w'.cell? ⟨w.heap.size, 0, none⟩ = some (.int .i64 P) ∧ w'.cell? ⟨w.heap.size, 1, none⟩ = some (.int .i64 c) ∧ w'.cell? ⟨w.heap.size, 2, none⟩ = some (.int .i64 H) ∧ w'.cell? ⟨w.heap.size, 3, none⟩ = some (.int .i64 s) ∧ w'.cell? ⟨gR, j, none⟩ = some (.slice lA nC lc))
        (first | go_keep)
        (first
          | (go_at_call 68; (with_reducible refine G1.out.mono ?_); rintro e w2 ⟨v2', rfl, hs2, hb2⟩; obtain ⟨a2, c2', hv2, hr2⟩ := hs2.out; rw [HM2.out] at hv2 hr2; have R2 := Lib.hid hr2; have V2 := Lib.hid (rowIs_below Vd.out hb2 Vd.out.lt); have B2 := Lib.hid (Bd.out.trans (hb2.mono Bd.out.size)); have O2 := Lib.hid (ow_below Od.out hb2); have z2 : wr.heap.size ≤ w2.heap.size := hb2.size; have cr2 := (hb2.cell (p := ⟨gR, j, none⟩) hgRz).trans (show wr.drew.cell? ⟨gR, j, none⟩ = some (.slice lA nC lc) from CR.out); have W2 := Lib.hid (rown_bel RW.out (show Below wr.heap.size wr w2 from (below_drewN (Below.refl _ wr) 1).trans hb2) (Nat.le_refl _)); have L2 := Lib.hid ((HPL.out.bel (below_drewN (Below.refl _ wr) 1) (Nat.le_refl _)).bel hb2 (Nat.le_refl _)); obtain ⟨x0, x1, x2, x3⟩ := vr4_cells V2.out; clear hs2 hb2 hr2; subst hv2))
      clear v0 v1 v2 v3 cr cd
      by_cases hm0 : m2 = 0
      · have HE := Lib.hid (LP.out hm0)
        have hq : ((m2 : Int) == 0) = true := by rw [hm0]; rfl
        have HM0 := Lib.hid hm0
        clear hm0 cr2
        go_wp2_with fail
        go_ret2
        refine ⟨.slice (some ⟨gR, 0, none⟩) nR cR, ?_, ?_, B2.out⟩
        · rw [HE.out]; rfl
        · rw [HE.out, ← HNR.out]
          exact ⟨gR, cR, lA, lc, _, rfl, W2.out.wide (Nat.le_refl _) z2, HVS.out, L2.out.more z2⟩
      · have HS := Lib.hid (LS.out hm0)
        have hq : ((m2 : Int) == 0) = false := by rw [beq_eq_false_iff_ne]; omega
        have hm1 : ¬ (m2 : Int) = 0 := by omega
        have news := one_news (new_cell w2 #[.slice a2 m2 c2'] 45 0)
        have NW := Lib.hid news
        clear hm0 cr2 news
        have cases4 : ∃ f' : Bool, (f && decide (m2 ≤ 3000)) = f' ∧ ((f = false ∧ f' = false) ∨ (f = true ∧ decide ((m2 : Int) ≤ 3000) = f' ∧ ((f' = true ∧ (m2 : Int) ≤ 3000) ∨ (f' = false ∧ ¬ (m2 : Int) ≤ 3000)))) := by
          cases f
          · exact ⟨false, rfl, .inl ⟨rfl, rfl⟩⟩
          · by_cases h : m2 ≤ 3000
            · exact ⟨true, by simp [h], .inr ⟨rfl, decide_eq_true (by omega), .inl ⟨rfl, by omega⟩⟩⟩
            · exact ⟨false, by simp [h], .inr ⟨rfl, decide_eq_false (by omega), .inr ⟨rfl, by omega⟩⟩⟩
        obtain ⟨f', hf', hcs⟩ := cases4
        rw [hf'] at HS
        clear hf'
        rcases hcs with ⟨rfl, rfl⟩ | ⟨rfl, hd3, ⟨rfl, hd4⟩ | ⟨rfl, hd4⟩⟩
        all_goals
          go_wp2_with (first | (at_builtin; refine app_row rfl (.tmp 42) (.tmp 44) 79 45 _ 1 24 rfl Try.underlying79 info_pls rfl (by omega) (by omega) rfl (ow_alloc O2.out (.cells #[.slice a2 m2 c2'] 45)) ⟨w2.heap.size, 0, none⟩ 1 1 [.slice a2 m2 c2'] rfl rfl NW.out (fun u hu => by simp at hu; subst hu; rfl) (by have := HNR.out; omega) (by simp; omega) ?_; intro v5 w5 hO5 hg5))
          have OA := ow_alloc O2.out (.cells #[.slice a2 m2 c2'] 45)
          have z5 := hg5.size
          simp only [World.size_alloc] at z5
          have R5 := Lib.hid ((((R2.out.bel ((Below.refl _ w2).alloc (Nat.le_refl _) (.cells #[.slice a2 m2 c2'] 45)) (Nat.le_refl _)).ty hg5 (ow_nosi OA (by decide) (by decide)) (ow_nop OA (by decide)))).more (hi' := w5.heap.size) (by omega))
          have OI := fun b e => (ow_in OA b e).1
          have V5 := Lib.hid (row_by (V2.out.alloc (.cells #[.slice a2 m2 c2'] 45)) hg5 (fun e => by have := OI _ e; omega))
          have B5 := Lib.hid (grown_below' (B2.out.alloc B2.out.size (.cells #[.slice a2 m2 c2'] 45)) hg5 (fun b e => by have := OI b e; omega) (by simp; omega))
          have VL := Lib.hid (show (vs ++ [Value.slice a2 m2 c2']).getD (j + 1) undef = Value.slice a2 nxt.length c2' by
            have := O2.out.1
            rw [Nat.mul_one] at this
            rw [List.getD_eq_getElem?_getD, List.getElem?_append_right (by have := HNR.out; omega), show j + 1 - vs.length = 0 from by have := HNR.out; omega, HM2.out]; rfl)
          have O5 := Lib.hid (show w5.ownsRow (w.heap.size + 2) 45 1 v5 (j + 1 + 1) (vs ++ [Value.slice a2 m2 c2']) by rw [HNR.out]; exact hO5)
          clear hO5 hg5 OA OI
          go_roundw
          case rel => exact ⟨j + 1, nxt, _, _, a2, c2', _, rfl, by omega, by go_num, rfl, HS, O5, VL, Lib.hid (by rw [HM2.out]; exact R5.out), NK, NLE, V5, B5, by omega⟩
          case measure => (simp [intOf]; try omega)
    · obtain rfl : j = on := by omega
      have HE := Lib.hid (HLg.out.fin DL.out.symm)
      go_wp2_with fail
      go_ret2
      refine ⟨.slice (some ⟨gR, 0, none⟩) nR cR, ?_, ?_, HB.out⟩
      · rw [HE.out]; rfl
      · rw [HE.out, ← HNR.out]
        exact ⟨gR, cR, lA, lc, _, rfl, RW.out, HVS.out, HPL.out⟩
end Go.Proofs.Ytjfmpnkbocilpaa
