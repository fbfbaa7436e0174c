/-
  goOn of the program: the sequences with one step more, each board once.
-/
import Derived.Test.YtjfmpnkbocilpaaHwJ
import Derived.Deep.Cut
import Derived.Deep.CutRange
import Derived.Deep.DeepCutAuto
import Derived.Deep.RegionHeld3
namespace Go.Proofs.Ytjfmpnkbocilpaa
open Go.ChangeShapes Go.WideShapes Go.ChangeAt Go.RowKit
set_option linter.unusedVariables false

theorem take_snocP {l : List Pl} {k : Nat} (hk : k < l.length) : l.take (k + 1) = l.take k ++ [l.getD k pl0] := by
  rw [List.take_succ_eq_append_getElem hk, List.getD_eq_getElem?_getD, List.getElem?_eq_getElem hk]; rfl
theorem take_snocS {l : List St} {k : Nat} (hk : k < l.length) : l.take (k + 1) = l.take k ++ [l.getD k st0] := by
  rw [List.take_succ_eq_append_getElem hk, List.getD_eq_getElem?_getD, List.getElem?_eq_getElem hk]; rfl
theorem getD_memP {l : List Pl} {k : Nat} (hk : k < l.length) : l.getD k pl0 ∈ l := by
  rw [List.getD_eq_getElem?_getD, List.getElem?_eq_getElem hk]; exact List.getElem_mem hk
theorem getD_memS {l : List St} {k : Nat} (hk : k < l.length) : l.getD k st0 ∈ l := by
  rw [List.getD_eq_getElem?_getD, List.getElem?_eq_getElem hk]; exact List.getElem_mem hk
theorem below_dr {w w' : World} {B : Nat} (h : Below B w w') : Below B w w'.drew := below_drewN h 1
theorem vr4_new' (w : World) (p q r s : Value) (t : TypeId) (b : Nat) (hb : w.heap.size = b) : (w.alloc (.cells #[p, q, r, s] t)).rowIs b t 4 (vr4 p q r s) := by subst hb; exact vr4_new w p q r s t
theorem made_st' (w : World) (base n b : Nat) (hb : base ≤ w.heap.size) (hn : n ≤ 1048576) (he : w.heap.size = b) : (w.alloc (.cells (madeCells #[.int .i64 0, .int .i64 0, .int .i64 0, .bool false] (n * 4)) 72)).ownsRow base 72 4 (.slice (some ⟨b, 0, none⟩) 0 n) 0 [] := by subst he; exact made_st w base n hb hn
def PlPost (N : Nat) (l : List Pl) (w : World) (e : Ending) (w' : World) : Prop := ∃ v, e = .returned v ∧ PlsO w' w.heap.size N v l ∧ Below w.heap.size w w'
theorem StsO.rd {w : World} {base : Nat} {a : Option Addr} {n c : Nat} {l : List St} (h : StsO w base (.slice a n c) l) : StsR w w.heap.size a n l := by
  obtain ⟨a', c', e, h⟩ := h.out
  injection e with e1 e2 e3
  rw [e1, e2]
  exact h
set_option maxRecDepth 16000 in
set_option maxHeartbeats 6400000 in
theorem goOn_any (P N : Nat) (c H s : Int) (pa : Option Addr) (n pc : Nat) (l : List Pl) (die : Int) (k : Nat) (w : World) (hl : PlsR w w.heap.size N pa n l) (hP0 : 1 ≤ P) (hP : P ≤ 24) (hN : N = P + 1) (hc : c ≤ 15) (d0 : 1 ≤ die) (d1 : die ≤ 6) (hn : n ≤ 15625) (hok : PlsOk P c k l) (hk : k ≤ 4) :
    Calls Try.prog 68 #[vrV P c H s, .slice pa n pc, .int .i64 die] w fun e w' => PlPost N (nxL P H die l) w e w' := by
  have hmm := @run_makeMap Try.prog
  have HB0 := Lib.hid (((Below.refl w.heap.size w).alloc (Nat.le_refl _) (.cells #[.int .i64 P, .int .i64 c, .int .i64 H, .int .i64 s] 30)).alloc (by simp) (.map #[] 0))
  have V0 := Lib.hid ((vr4_new w (.int .i64 P) (.int .i64 c) (.int .i64 H) (.int .i64 s) 30).alloc (.map #[] 0))
  have m0 := Ms.made (w.alloc (.cells #[.int .i64 P, .int .i64 c, .int .i64 H, .int .i64 s] 30))
  rw [World.size_alloc] at m0
  have M0 := Lib.hid m0
  clear m0
  have HL := Lib.hid hl
  have HOK := Lib.hid hok
  have LEN := Lib.hid hl.len
  have HN := Lib.hid hN
  have hN1 : P < N := by omega
  have hN2 : N ≤ P + 1 := by omega
  have GL := Lib.hid (fun i => foldl_len (nxP P H die) (P + 1) (fun out p => by have := nxP_len P H die out p; rwa [Int.toNat_natCast] at this) (l.take i) [])
  clear hl hok hN
  go_enter Try.func68, Try.ntmps68
  go_wp2_with fail
  go_loopw [8, 19] (fun ov ix wr => ∃ (i : Nat) (v : Value) (M : Nat) (f : ByteArray → Bool), v = ov ∧ i ≤ n ∧ ix = .int .i64 i ∧ Hid (PlsO wr (w.heap.size + 2) N v ((l.take i).foldl (nxP P H die) [])) ∧ Hid (Ms wr (w.heap.size + 1) M f) ∧ Hid (KmOk P c f ((l.take i).foldl (nxP P H die) [])) ∧ M ≤ i * 25 ∧ Hid (wr.rowIs w.heap.size 30 4 (vr4 (.int .i64 P) (.int .i64 c) (.int .i64 H) (.int .i64 s))) ∧ Hid (Below w.heap.size w wr) ∧ w.heap.size + 2 ≤ wr.heap.size) (fun _ ix _ => n - (intOf ix).toNat)
  case atStart => exact ⟨0, _, 0, _, rfl, Nat.zero_le _, rfl, Lib.hid (PlsO.nil _ _ _), M0, Lib.hid (KmOk.nil P c), by omega, V0, HB0, by simp⟩
  case round =>
    obtain ⟨i, v, M, f, rfl, hi, rfl, HO, HM, HK, hM, HV, HB, hz⟩ := hrel
    by_cases hlt : i < n
    · obtain ⟨g, x, hpa, hg, hgz, c0', c1', c2', hx⟩ := HL.out.at hlt
      have c0 := (HB.out.cell (p := ⟨g, i * 3, none⟩) hg).trans c0'
      have c1 := (HB.out.cell (p := ⟨g, i * 3 + 1, none⟩) hg).trans c1'
      have c2 := (HB.out.cell (p := ⟨g, i * 3 + 2, none⟩) hg).trans c2'
      clear c0' c1' c2'
      subst hpa
      obtain ⟨p, hp⟩ : ∃ p, l.getD i pl0 = p := ⟨_, rfl⟩
      rw [hp] at hx
      have HP := Lib.hid (show PlOk P c k p by rw [← hp]; exact HOK.out _ (getD_memP (by have := LEN.out; omega)))
      have GS := Lib.hid (show (l.take (i + 1)).foldl (nxP P H die) [] = nxP P H die ((l.take i).foldl (nxP P H die) []) p by rw [take_snocP (by have := LEN.out; omega), List.foldl_append, hp]; rfl)
      have GB : ((l.take i).foldl (nxP P H die) []).length ≤ i * 25 := by
        have h1 := GL.out i
        rw [List.length_take, Nat.min_eq_left (by have := LEN.out; omega)] at h1
        have h2 : i * (P + 1) ≤ i * 25 := Nat.mul_le_mul_left _ (by omega)
        simp only [List.length_nil, Nat.zero_add] at h1
        omega
      obtain ⟨GI, hGI⟩ : ∃ GI, (l.take i).foldl (nxP P H die) [] = GI := ⟨_, rfl⟩
      rw [hGI] at HO HK GS GB
      clear hp hGI
      have HX := Lib.hid hx
      have KL := Lib.hid (fun (W : World) (hb : Below w.heap.size w W) => legalSteps_any P c H s x.oa N x.oc p.own x.ta N x.tc p.oth die w.heap.size W (hx.own.below hb) (hx.oth.below hb) (by have := hb.size; omega) hP0 hP HN.out HN.out d0 d1 (sv_bd HP.out.1 hc hx.ol) (sv_bd HP.out.2.1 hc hx.tl))
      obtain ⟨sa, sn, sc, oa, oc, ta, tc⟩ := x
      obtain ⟨pst, pown, poth⟩ := p
      have HSN := Lib.hid (show sn = pst.length from hx.s.1)
      have HKL := Lib.hid (show pst.length = k from HP.out.2.2)
      have sn1 : sn ≤ 4 := by have := HSN.out; have := HKL.out; omega
      have HSR := Lib.hid (show StsR w w.heap.size sa sn pst from hx.s)
      have HOW := Lib.hid (show Ints w w.heap.size .i64 oa N pown from hx.own)
      have HOT := Lib.hid (show Ints w w.heap.size .i64 ta N poth from hx.oth)
      have HX1 := Lib.hid (show SV P c pown from HP.out.1)
      have HX2 := Lib.hid (show SV P c poth from HP.out.2.1)
      have HX3 := Lib.hid (show pown.length = N from hx.ol)
      have HX4 := Lib.hid (show poth.length = N from hx.tl)
      simp only at c0 c1 c2 KL
      have hb1 := (Below.refl w.heap.size wr).alloc (by omega) (.cells #[.slice sa sn sc, .slice oa N oc, .slice ta N tc] 70)
      have KL1 := Lib.hid (KL.out _ (HB.out.trans hb1))
      have V1 := Lib.hid (HV.out.alloc (.cells #[.slice sa sn sc, .slice oa N oc, .slice ta N tc] 70))
      have B1 := Lib.hid (HB.out.trans hb1)
      have Q1 := Lib.hid (th3_new wr (.slice sa sn sc) (.slice oa N oc) (.slice ta N tc) 70)
      have O1 := Lib.hid (HO.out.alloc (.cells #[.slice sa sn sc, .slice oa N oc, .slice ta N tc] 70))
      have M1 := Lib.hid (HM.out.alloc (.cells #[.slice sa sn sc, .slice oa N oc, .slice ta N tc] 70))
      have OI := Lib.hid HO.out.in
      clear hx KL HO HM hb1
      obtain ⟨v0, v1, v2, v3⟩ := vr4_cells V1.out
      obtain ⟨q0, q1, q2⟩ := th3_cells Q1.out
      go_wp2_with fail
      refine KL1.out.mono ?_
      rintro e w2 ⟨v2, rfl, hs2, hb2⟩
      obtain ⟨a2, c2', hv2, hr2⟩ := hs2.out
      subst hv2
      obtain ⟨L, hL⟩ : ∃ L, lgF P H pown poth die = L := ⟨_, rfl⟩
      have HLM := Lib.hid (fun s (hs : s ∈ L) => lgF_ok (P := (P : Int)) (H := H) (by omega) d0 HX1.out (by rw [hL]; exact hs))
      have HLT := Lib.hid (fun s (hs : s ∈ L) (e : s.to = -1) => show s.hit = false by
        rcases hq : s.hit with _ | _
        · rfl
        · have := ((HLM.out s hs).hit hq).1; omega)
      have HNX := Lib.hid (show nxP P H die GI ⟨pst, pown, poth⟩ = L.foldl (nxS P ⟨pst, pown, poth⟩) GI by unfold nxP; rw [hL])
      have LL := lgF_len P H pown poth die
      rw [hL, Int.toNat_natCast] at LL
      rw [hL] at hr2
      obtain ⟨m, hm⟩ : ∃ m, L.length = m := ⟨_, rfl⟩
      have HML := Lib.hid hm
      rw [hm] at hr2 LL
      have m25 : m ≤ 25 := by omega
      have SL := Lib.hid (fun j => foldl_len (nxS P ⟨pst, pown, poth⟩) 1 (nxS_len P ⟨pst, pown, poth⟩) (L.take j) GI)
      have z2 := hb2.size
      simp only [World.size_alloc] at z2
      have R2 := Lib.hid hr2
      have V2 := Lib.hid (rowIs_below V1.out hb2 V1.out.lt)
      have Q2 := Lib.hid (rowIs_below Q1.out hb2 Q1.out.lt)
      have B2 := Lib.hid (B1.out.trans (hb2.mono B1.out.size))
      have O2 := Lib.hid (O1.out.below hb2)
      have M2 := Lib.hid (M1.out.below hb2)
      have OQ := Lib.hid (show v.ownBlock ≠ some wr.heap.size from fun e => by have := (OI.out _ e).2; omega)
      rw [hL, hm]
      clear v0 v1 v2 v3 q0 q1 q2 hs2 hb2 hr2 hL hm V1 B1 Q1 O1 M1 KL1
      obtain ⟨wo, hwo⟩ : ∃ wo, wo = wr := ⟨_, rfl⟩
      subst hwo
      go_wp2_with fail
      go_loopw [8, 29] (fun ov ix wr => ∃ (j : Nat) (v : Value) (M : Nat) (f : ByteArray → Bool), v = ov ∧ j ≤ m ∧ ix = .int .i64 j ∧ Hid (PlsO wr (w.heap.size + 2) N v ((L.take j).foldl (nxS P ⟨pst, pown, poth⟩) GI)) ∧ Hid (Ms wr (w.heap.size + 1) M f) ∧ Hid (KmOk P c f ((L.take j).foldl (nxS P ⟨pst, pown, poth⟩) GI)) ∧ M ≤ i * 25 + j ∧ Hid (wr.rowIs w.heap.size 30 4 (vr4 (.int .i64 P) (.int .i64 c) (.int .i64 H) (.int .i64 s))) ∧ Hid (wr.rowIs wo.heap.size 70 3 (th3 (.slice sa sn sc) (.slice oa N oc) (.slice ta N tc))) ∧ Hid (v.ownBlock ≠ some wo.heap.size) ∧ Hid (StsR wr w2.heap.size a2 m L) ∧ Hid (Below w.heap.size w wr) ∧ w2.heap.size ≤ wr.heap.size) (fun _ ix _ => m - (intOf ix).toNat)
      case atStart => exact ⟨0, v, M, f, rfl, Nat.zero_le _, rfl, O2, M2, HK, by omega, V2, Q2, OQ, R2, B2, Nat.le_refl _⟩
      case round =>
        obtain ⟨j, v', M', f', rfl, hj, rfl, HO, HM, HK', hM', HV, HQ, HOQ, HR, HBI, hzi⟩ := hrel
        by_cases hlt : j < m
        · obtain ⟨gs, ha2, hgs, hgsz, s0, s1, s2, s3⟩ := HR.out.at hlt
          subst ha2
          obtain ⟨st, hst⟩ : ∃ st, L.getD j st0 = st := ⟨_, rfl⟩
          rw [hst] at s0 s1 s2 s3
          have HSO := Lib.hid (show StOk P pown poth st by rw [← hst]; exact HLM.out _ (getD_memS (by have := HML.out; omega)))
          have HST := Lib.hid (show st.to = -1 → st.hit = false by rw [← hst]; exact HLT.out _ (getD_memS (by have := HML.out; omega)))
          have GS2 := Lib.hid (show (L.take (j + 1)).foldl (nxS P ⟨pst, pown, poth⟩) GI = nxS P ⟨pst, pown, poth⟩ ((L.take j).foldl (nxS P ⟨pst, pown, poth⟩) GI) st by rw [take_snocS (by have := HML.out; omega), List.foldl_append, hst]; rfl)
          have GB2 : ((L.take j).foldl (nxS P ⟨pst, pown, poth⟩) GI).length ≤ i * 25 + j := by
            have h1 := SL.out j
            rw [List.length_take, Nat.min_eq_left (by have := HML.out; omega)] at h1
            omega
          obtain ⟨GJ, hGJ⟩ : ∃ GJ, (L.take j).foldl (nxS P ⟨pst, pown, poth⟩) GI = GJ := ⟨_, rfl⟩
          rw [hGJ] at HO HK' GS2 GB2
          have HA1 := Lib.hid (ownA_sv (by omega) HX1.out HSO.out)
          have HA2 := Lib.hid (othA_sv (by omega) HX2.out HSO.out)
          have HA3 := Lib.hid (show (ownA pown st).length = N by rw [ownA_len]; exact HX3.out)
          have HA4 := Lib.hid (show (othA P poth st).length = N by rw [othA_len]; exact HX4.out)
          have KY := Lib.hid (HK'.out _ _ HA1.out HA2.out)
          have KA := Lib.hid (HK'.out.add hc (p := ⟨pst ++ [st], ownA pown st, othA P poth st⟩) HA1.out HA2.out)
          have HYES := Lib.hid (fun h => GS2.out.trans (nxS_yes (P := P) (p := ⟨pst, pown, poth⟩) (out := GJ) (s := st) h))
          have HNO := Lib.hid (fun h => GS2.out.trans (nxS_no (P := P) (p := ⟨pst, pown, poth⟩) (out := GJ) (s := st) h))
          simp only at HYES HNO KA
          have AFT := Lib.hid (fun (W : World) (hb : Below w.heap.size w W) => afterStep_any P c H s oa N oc pown ta N tc poth st W ((HOW.out.below hb).more hb.size) ((HOT.out.below hb).more hb.size) hP0 hP HN.out HN.out hc HX1.out HX2.out HSO.out HST.out)
          obtain ⟨A', hA'⟩ : ∃ A', ownA pown st = A' := ⟨_, rfl⟩
          obtain ⟨B', hB'⟩ : ∃ B', othA P poth st = B' := ⟨_, rfl⟩
          rw [hA', hB'] at KY KA HYES HNO AFT
          rw [hA'] at HA1 HA3
          rw [hB'] at HA2 HA4
          obtain ⟨ks, hks⟩ : ∃ ks, kyS A' B' = ks := ⟨_, rfl⟩
          have HKS := Lib.hid hks
          have ksz : ks.size ≤ maxLen := by rw [← hks, kyS_size, HA3.out, HA4.out]; unfold maxLen; omega
          rw [hks] at KY KA
          clear hst hGJ hA' hB' hks GS2 HSO HST
          obtain ⟨sf, sx, sd, sh⟩ := st
          simp only at s0 s1 s2 s3
          have BA := HBI.out.alloc HBI.out.size (.cells #[.int .i64 sf, .int .i64 sx, .int .i64 sd, .bool sh] 72)
          have AFT1 := Lib.hid (AFT.out _ BA)
          have V1 := Lib.hid (HV.out.alloc (.cells #[.int .i64 sf, .int .i64 sx, .int .i64 sd, .bool sh] 72))
          have Q1 := Lib.hid (HQ.out.alloc (.cells #[.int .i64 sf, .int .i64 sx, .int .i64 sd, .bool sh] 72))
          have S1 := Lib.hid (vr4_new wr (.int .i64 sf) (.int .i64 sx) (.int .i64 sd) (.bool sh) 72)
          have R1 := Lib.hid (HR.out.bel ((Below.refl _ wr).alloc (Nat.le_refl _) (.cells #[.int .i64 sf, .int .i64 sx, .int .i64 sd, .bool sh] 72)) hzi)
          have O1 := Lib.hid (HO.out.alloc (.cells #[.int .i64 sf, .int .i64 sx, .int .i64 sd, .bool sh] 72))
          have M1 := Lib.hid (HM.out.alloc (.cells #[.int .i64 sf, .int .i64 sx, .int .i64 sd, .bool sh] 72))
          have B1 := Lib.hid BA
          have hzo : w.heap.size ≤ wr.heap.size := HBI.out.size
          have qlt := HQ.out.lt
          clear AFT BA HV HQ HR HO HM HBI
          obtain ⟨v0, v1, v2, v3⟩ := vr4_cells V1.out
          obtain ⟨q0, q1, q2⟩ := th3_cells Q1.out
          obtain ⟨t0, t1, t2, t3⟩ := vr4_cells S1.out
          go_wp2_with fail
          refine AFT1.out.mono ?_
          rintro e w3 ⟨gA, cA, gB, cB, rfl, hbd, hb3⟩
          have z3 := hb3.size
          simp only [World.size_alloc] at z3 hbd
          have hb4 := hb3.alloc hb3.size (.cells #[.slice (some ⟨gA, 0, none⟩) N cA, .slice (some ⟨gB, 0, none⟩) N cB] 32)
          have V4 := Lib.hid (rowIs_below V1.out hb4 V1.out.lt)
          have Q4 := Lib.hid (rowIs_below Q1.out hb4 Q1.out.lt)
          have S4 := Lib.hid (rowIs_below S1.out hb4 S1.out.lt)
          have R4 := Lib.hid (R1.out.bel hb4 (by simp; omega))
          have O4 := Lib.hid (O1.out.below hb4)
          have M4 := Lib.hid (M1.out.below hb4)
          have B4 := Lib.hid (B1.out.trans (hb4.mono B1.out.size))
          have D4 := Lib.hid (pr_new w3 (.slice (some ⟨gA, 0, none⟩) N cA) (.slice (some ⟨gB, 0, none⟩) N cB) 32)
          have E4 := Lib.hid (hbd.al (.cells #[.slice (some ⟨gA, 0, none⟩) N cA, .slice (some ⟨gB, 0, none⟩) N cB] 32))
          have BK := Lib.hid (boardKey_any (some ⟨gA, 0, none⟩) N cA A' (some ⟨gB, 0, none⟩) N cB B' _ _ (E4.out.a.ints HA3.out) (E4.out.b.ints HA4.out) (Nat.le_refl _) (by omega) (by omega) (by omega) (by omega) (sv_bd HA1.out hc HA3.out) (sv_bd HA2.out hc HA4.out))
          rw [HKS.out] at BK
          clear v0 v1 v2 v3 q0 q1 q2 t0 t1 t2 t3 V1 Q1 S1 R1 O1 M1 B1 hb3 hb4 hbd AFT1
          obtain ⟨d0', d1'⟩ := pr_cells D4.out
          go_wp2_with fail
          refine BK.out.mono ?_
          rintro e w5 ⟨rfl, hb5⟩
          have z5 := hb5.size
          simp only [World.size_alloc] at z5
          have V5 := Lib.hid (rowIs_below V4.out hb5 V4.out.lt)
          have Q5 := Lib.hid (rowIs_below Q4.out hb5 Q4.out.lt)
          have S5 := Lib.hid (rowIs_below S4.out hb5 S4.out.lt)
          have R5 := Lib.hid (R4.out.bel hb5 (by simp; omega))
          have O5 := Lib.hid (O4.out.below hb5)
          have M5 := Lib.hid (M4.out.below hb5)
          have B5 := Lib.hid (B4.out.trans (hb5.mono B4.out.size))
          have D5 := Lib.hid (rowIs_below D4.out hb5 D4.out.lt)
          have E5 := Lib.hid (show Bd2 w5 (wr.heap.size + 1) gA gB N N A' B' from ⟨E4.out.a.below hb5, E4.out.b.below hb5, E4.out.ga, E4.out.gb, E4.out.ne⟩)
          have hget := M5.out.get ksz
          clear d0' d1' V4 Q4 S4 R4 O4 M4 B4 D4 E4 hb5 BK
          cases hf : f' ks
          · obtain ⟨w6, hput, m6, hg6⟩ := M5.out.put ksz (by unfold maxLen; omega)
            have z6 := hg6.size
            have NS := M5.out.nosi
            have V6 := Lib.hid (row_by V5.out hg6 (by simp))
            have Q6 := Lib.hid (row_by Q5.out hg6 (by simp; omega))
            have S6 := Lib.hid (row_by S5.out hg6 (by simp; omega))
            have D6 := Lib.hid (row_by D5.out hg6 (by simp; omega))
            have R6 := Lib.hid ((R5.out.ty hg6 fun b e cs fz => (NS b e cs fz).1))
            have O6 := Lib.hid (O5.out.grown hg6 (fun b e => by injection e with e; omega) NS)
            have M6 := Lib.hid m6
            have B6 := Lib.hid (grown_below' B5.out hg6 (fun b e => by injection e with e; omega) (by have := B5.out.size; exact this))
            have E6 := Lib.hid (show Bd2 w6 (wr.heap.size + 1) gA gB N N A' B' from ⟨rown_ty E5.out.a hg6 fun b e cs fz => (NS b e cs fz).2, rown_ty E5.out.b hg6 fun b e cs fz => (NS b e cs fz).2, E5.out.ga, E5.out.gb, E5.out.ne⟩)
            rw [hf] at hget KY
            have HE := Lib.hid (HNO.out KY.out.symm)
            have HSR6 := Lib.hid (HSR.out.bel B6.out (Nat.le_refl _))
            have hwn : IntKind.i64.wrap ((sn : Int) + 1) = (sn : Int) + 1 := IntWalk.i64_in _ (by omega)
            have hmk := fun W => make_st (sn + 1) (by omega) ((sn : Int) + 1) (by omega) W
            have zz6 : wo.heap.size < w6.heap.size := by omega
            have zr6 : wr.heap.size < w6.heap.size := by omega
            clear hf KY HYES HNO V5 Q5 S5 D5 R5 O5 M5 B5 E5 NS m6 hg6
            go_upto_region 13 with fail
            go_cut [15] (fun t wx => ∃ (g cap : Nat), t = .slice (some ⟨g, 0, none⟩) (sn + 1) cap ∧ StsO wx w6.heap.size t (pst ++ [⟨sf, sx, sd, sh⟩]) ∧ Below w6.heap.size w6 wx)
            case first =>
              have KB := Lib.hid (fun (W : World) (hb : Below w6.heap.size w6 W) => show W.cell? ⟨wo.heap.size, 0, none⟩ = some (.slice sa sn sc) ∧ W.cell? ⟨wr.heap.size, 0, none⟩ = some (.int .i64 sf) ∧ W.cell? ⟨wr.heap.size, 1, none⟩ = some (.int .i64 sx) ∧ W.cell? ⟨wr.heap.size, 2, none⟩ = some (.int .i64 sd) ∧ W.cell? ⟨wr.heap.size, 3, none⟩ = some (.bool sh) from by
                obtain ⟨a0, _, _⟩ := th3_cells (rowIs_below Q6.out hb Q6.out.lt)
                obtain ⟨b0, b1, b2, b3⟩ := vr4_cells (rowIs_below S6.out hb S6.out.lt)
                exact ⟨a0, b0, b1, b2, b3⟩)
              obtain ⟨q0, q1, q2⟩ := th3_cells Q6.out
              obtain ⟨t0, t1, t2, t3⟩ := vr4_cells S6.out
              go_region_held3 (fun w' => w'.cell? ⟨wo.heap.size, 0, none⟩ = some (.slice sa sn sc) ∧ w'.cell? ⟨wr.heap.size, 0, none⟩ = some (.int .i64 sf) ∧ w'.cell? ⟨wr.heap.size, 1, none⟩ = some (.int .i64 sx) ∧ w'.cell? ⟨wr.heap.size, 2, none⟩ = some (.int .i64 sd) ∧ w'.cell? ⟨wr.heap.size, 3, none⟩ = some (.bool sh))
                ((refine KB.out _ ?_; repeat' (first | exact Below.refl _ _ | (with_reducible exact hb8) | (with_reducible exact hb7) | (with_reducible refine below_dr ?_) | refine Below.alloc ?_ (by first | omega | (simp; done) | (simp; omega)) _)))
                (first
                  | (refine step_copy_st (hi := w.heap.size) (base := w6.heap.size) rfl (.tmp 49) (.tmp 51) rfl rfl ?_ sa sn sc pst rfl ?_ (by omega) ?_ ?_
                     · (repeat' (first | (with_reducible refine made_st' _ w6.heap.size (sn + 1) _ ?_ (by omega) ?_) | (with_reducible refine ow_drew ?_) | (with_reducible refine ow_alloc ?_ _) | omega | (simp; done) | (simp; omega))); done
                     · (refine HSR6.out.bel (B := w6.heap.size) ?_ (by omega); repeat' (first | exact Below.refl _ _ | (with_reducible refine below_dr ?_) | refine Below.alloc ?_ (by first | omega | (simp; done) | (simp; omega)) _)); done
                     · (first | omega | (simp; done) | (simp; omega))
                     intro g7 cap7 w7 ho7 hg7
                     have hb7 : Below w6.heap.size w6 w7 := by
                       refine Below.grown ?_ hg7 (by first | (simp; done) | (simp; omega)) ?_
                       · repeat' (first | exact Below.refl _ _ | (with_reducible refine below_dr ?_) | refine Below.alloc ?_ (by first | omega | (simp; done) | (simp; omega)) _)
                       · intro k e
                         injection e with e
                         first | omega | (simp at e; omega)
                     have z7 := hg7.size
                     simp at z7)
                  | (refine step_app_st (base := w6.heap.size) rfl (.tmp 52) (.tmp 54) rfl rfl ?_ (by first | omega | exact HSN.out) _ rfl ⟨sf, sx, sd, sh⟩ ?_ (by omega) ?_ ?_
                     · (repeat' (first | (with_reducible exact ho7) | (with_reducible refine sts_drew ?_) | (with_reducible refine sts_alloc ?_ _))); done
                     · (repeat' (first | (with_reducible refine vr4_new' _ _ _ _ _ _ _ ?_) | (with_reducible refine World.rowIs.alloc ?_ _) | (with_reducible refine World.rowIs.drew ?_) | (with_reducible refine row_by ?_ hg7 ?_) | omega | (simp; done) | (simp; omega))); done
                     · (first | omega | (simp; done) | (simp; omega))
                     intro g8 cap8 w8 ho8 hg8
                     have hb8 : Below w6.heap.size w6 w8 := by
                       refine Below.grown ?_ hg8 (by first | omega | (simp; done) | (simp; omega)) ?_
                       · repeat' (first | exact Below.refl _ _ | (with_reducible exact hb7) | (with_reducible refine below_dr ?_) | refine Below.alloc ?_ (by first | omega | (simp; done) | (simp; omega)) _)
                       · intro k e
                         injection e with e
                         have := (ow_in ho7 g7 rfl).1
                         omega))
              all_goals
                go_wp2_with fail
                go_meet
                exact ⟨g8, cap8, rfl, ho8, hb8⟩
            case rest =>
              obtain ⟨g9, cap9, rfl, ho9, hb9⟩ := hcut
              have z9 := hb9.size
              have ha9 := hb9.alloc hb9.size (.cells #[.slice (some ⟨g9, 0, none⟩) (sn + 1) cap9, .slice (some ⟨gA, 0, none⟩) N cA, .slice (some ⟨gB, 0, none⟩) N cB] 70)
              have V9 := Lib.hid (rowIs_below V6.out ha9 V6.out.lt)
              have Q9 := Lib.hid (rowIs_below Q6.out ha9 Q6.out.lt)
              have D9 := Lib.hid (rowIs_below D6.out hb9 D6.out.lt)
              have R9 := Lib.hid (R6.out.bel ha9 (by omega))
              have O9 := Lib.hid (O6.out.below ha9)
              have M9 := Lib.hid (M6.out.below ha9)
              have B9 := Lib.hid (B6.out.trans (ha9.mono B6.out.size))
              have la := rown_lt E6.out.a (by omega)
              have lb := rown_lt E6.out.b (by omega)
              have HPV := Lib.hid (show PvOk (wc.alloc (.cells #[.slice (some ⟨g9, 0, none⟩) (sn + 1) cap9, .slice (some ⟨gA, 0, none⟩) N cA, .slice (some ⟨gB, 0, none⟩) N cB] 70)) (wc.alloc (.cells #[.slice (some ⟨g9, 0, none⟩) (sn + 1) cap9, .slice (some ⟨gA, 0, none⟩) N cA, .slice (some ⟨gB, 0, none⟩) N cB] 70)).heap.size N ⟨some ⟨g9, 0, none⟩, sn + 1, cap9, some ⟨gA, 0, none⟩, cA, some ⟨gB, 0, none⟩, cB⟩ ⟨pst ++ [⟨sf, sx, sd, sh⟩], A', B'⟩ from
                ⟨(ho9.rd.bel ((Below.refl _ wc).alloc (Nat.le_refl _) _) (Nat.le_refl _)).more (by simp), (E6.out.a.below ha9).wide (Nat.zero_le _) (by simp; omega), HA3.out, (E6.out.b.below ha9).wide (Nat.zero_le _) (by simp; omega), HA4.out⟩)
              have T9 := Lib.hid (th3_new wc (.slice (some ⟨g9, 0, none⟩) (sn + 1) cap9) (.slice (some ⟨gA, 0, none⟩) N cA) (.slice (some ⟨gB, 0, none⟩) N cB) 70)
              obtain ⟨e0, e1, e2⟩ := th3_cells T9.out
              have E0 := Lib.hid e0
              have E1 := Lib.hid e1
              have E2 := Lib.hid e2
              have OI9 := Lib.hid O9.out.in
              have NS9 := Lib.hid O9.out.nosi
              clear ho9 hb9 ha9 e0 e1 e2 hget hput hmk V6 Q6 S6 D6 R6 O6 M6 B6 E6
              obtain ⟨d0', d1'⟩ := pr_cells D9.out
              go_wp2_with (first | (at_builtin; refine app_pl_at rfl (.tmp 56) (.tmp 60) rfl rfl O9.out wc.heap.size rfl ⟨some ⟨g9, 0, none⟩, sn + 1, cap9, some ⟨gA, 0, none⟩, cA, some ⟨gB, 0, none⟩, cB⟩ ⟨pst ++ [⟨sf, sx, sd, sh⟩], A', B'⟩ HPV.out E0.out E1.out E2.out (by omega) (by simp; omega) ?_; intro gX capX wX hoX hgX hlX))
              have zX := hgX.size
              simp only [World.size_alloc] at zX hlX
              have OX : ∀ b, v'.ownBlock = some b → w.heap.size + 2 ≤ b := fun b e => (OI9.out b e).1
              go_roundw
              case rel =>
                refine ⟨j + 1, _, M' + 1, _, rfl, by omega, by go_num, Lib.hid (by rw [HE.out]; exact hoX), Lib.hid (M9.out.grown hgX (fun e => by have := OX _ e; omega)), Lib.hid (by rw [HE.out]; exact KA.out), by omega, Lib.hid (row_by V9.out hgX (fun e => by have := OX _ e; omega)), Lib.hid (row_by Q9.out hgX HOQ.out), Lib.hid (fun e => ?_), Lib.hid (R9.out.ty hgX fun b e cs fz => (NS9.out b e cs fz).1), Lib.hid (grown_below' B9.out hgX (fun b e => by have := OX b e; omega) (by simp; omega)), by omega⟩
                have e' : gX = wo.heap.size := by simpa [Value.ownBlock] using e
                rcases hlX with h | h
                · exact HOQ.out ((show v'.ownBlock = some gX from h).trans (by rw [e']))
                · omega
              case measure => (simp [intOf]; try omega)
          · rw [hf] at hget KY
            have HE := Lib.hid (HYES.out KY.out.symm)
            clear hf KY HYES HNO KA
            go_wp2_with fail
            go_roundw
            case rel => exact ⟨j + 1, v', M', f', rfl, by omega, by go_num, Lib.hid (by rw [HE.out]; exact O5.out), M5, Lib.hid (by rw [HE.out]; exact HK'.out), by omega, V5, Q5, HOQ, R5, B5, by omega⟩
            case measure => (simp [intOf]; try omega)
        · obtain rfl : j = m := by omega
          have HF := Lib.hid (show (L.take j).foldl (nxS P ⟨pst, pown, poth⟩) GI = (l.take (i + 1)).foldl (nxP P H die) [] by
            rw [List.take_of_length_le (by have := HML.out; omega), GS.out, HNX.out])
          go_wp2_with fail
          go_roundw
          case rel => exact ⟨i + 1, v', M', f', rfl, by omega, by go_num, Lib.hid (by rw [← HF.out]; exact HO.out), HM, Lib.hid (by rw [← HF.out]; exact HK'.out), by omega, HV, HBI, by have := HBI.out.size; omega⟩
          case measure => (simp [intOf]; try omega)
    · obtain rfl : i = n := by omega
      have HF := Lib.hid (show (l.take i).foldl (nxP P H die) [] = nxL P H die l by rw [List.take_of_length_le (by have := LEN.out; omega)]; rfl)
      go_wp2_with fail
      go_ret
      exact ⟨_, rfl, by rw [← HF.out]; exact HO.out.lower (by omega), HB.out⟩
end Go.Proofs.Ytjfmpnkbocilpaa
