/-
  l05Next of the reference: the kept sequences with one step more.
-/
import Derived.Test.YtjfmpnkbocilpaaHwF
import Derived.Test.YtjfmpnkbocilpaaHwG
import Derived.Test.YtjfmpnkbocilpaaHwAS
import Derived.Deep.Cut
import Derived.Deep.CutRange
import Derived.Deep.DeepCutAuto
import Derived.Deep.RegionHeld3
namespace Go.Proofs.Ytjfmpnkbocilpaa
open Go.ChangeShapes Go.WideShapes Go.ChangeAt Go.RowKit
set_option linter.unusedVariables false

theorem pr_new' (w : World) (p q : Value) (t : TypeId) (b : Nat) (hb : w.heap.size = b) : (w.alloc (.cells #[p, q] t)).rowIs b t 2 (pr p q) := by subst hb; exact pr_new w p q t
theorem withQ {W W' : World} {q : Nat} {t : TypeId} {G : Prop} (hb : Below W.heap.size W W') (h : W.rowIs q t 2 (pr (.slice none 0 0) (.slice none 0 0)))
    (H : W'.rowIs q t 2 (pr (.slice none 0 0) (.slice none 0 0)) → W'.frozen? ⟨q, 0, none⟩ = false → W'.frozen? ⟨q, 1, none⟩ = false → W'.cell? ⟨q, 0, none⟩ = some (.slice none 0 0) → W'.cell? ⟨q, 1, none⟩ = some (.slice none 0 0) → q < W'.heap.size → G) : G := by
  have h' := rowIs_below h hb h.lt
  obtain ⟨c0, c1⟩ := pr_cells h'
  exact H h' (h'.frozen 0) (h'.frozen 1) c0 c1 h'.lt
theorem th3_new' (w : World) (p q r : Value) (t : TypeId) (b : Nat) (hb : w.heap.size = b) : (w.alloc (.cells #[p, q, r] t)).rowIs b t 3 (th3 p q r) := by subst hb; exact th3_new w p q r t
theorem ow_new' (w : World) (base : Nat) (t : TypeId) (sz b : Nat) (hb : base ≤ w.heap.size) (he : w.heap.size = b) : (w.alloc (.cells #[] t)).ownsRow base t sz (.slice (some ⟨b, 0, none⟩) 0 0) 0 [] := by subst he; exact ow_new w base t sz hb
theorem PvOk.to {w w' : World} {N : Nat} {v : Pv} {p : Pl} (h : PvOk w w.heap.size N v p) (hb : Below w.heap.size w w') : PvOk w' w'.heap.size N v p := (h.bel hb (Nat.le_refl _)).more hb.size
theorem ow_ne {w : World} {base : Nat} {t t' : TypeId} {sz : Nat} {v : Value} {n n' q : Nat} {vs : List Value} {f : Nat → Value} (h : w.ownsRow base t sz v n vs) (hr : w.rowIs q t' n' f) (ht : t ≠ t') : v.ownBlock ≠ some q := by
  intro e
  obtain ⟨_, _, cs, hc⟩ := ow_in h q e
  obtain ⟨cs', hb, _⟩ := hr
  rw [hc] at hb
  injection hb with hb
  injection hb with _ hb
  exact ht hb
theorem kX {w5 W wX : World} {r : Option Nat} {g gs q i j sn sc N cA cB gA gB : Nat} {sa : Option Addr} {sf sx sd : Int} {sh : Bool} (hg : W.grownBy wX r) (hb : Below w5.heap.size w5 W) (K : ∀ W : World, Below w5.heap.size w5 W → W.cell? ⟨g, i * 3, none⟩ = some (.slice sa sn sc) ∧ W.cell? ⟨gs, j * 4, none⟩ = some (.int .i64 sf) ∧ W.cell? ⟨gs, j * 4 + 1, none⟩ = some (.int .i64 sx) ∧ W.cell? ⟨gs, j * 4 + 2, none⟩ = some (.int .i64 sd) ∧ W.cell? ⟨gs, j * 4 + 3, none⟩ = some (.bool sh) ∧ W.cell? ⟨q, 0, none⟩ = some (.slice (some ⟨gA, 0, none⟩) N cA) ∧ W.cell? ⟨q, 1, none⟩ = some (.slice (some ⟨gB, 0, none⟩) N cB)) (n1 : r ≠ some g) (n2 : r ≠ some gs) (n3 : r ≠ some q) :
    wX.cell? ⟨g, i * 3, none⟩ = some (.slice sa sn sc) ∧ wX.cell? ⟨gs, j * 4, none⟩ = some (.int .i64 sf) ∧ wX.cell? ⟨gs, j * 4 + 1, none⟩ = some (.int .i64 sx) ∧ wX.cell? ⟨gs, j * 4 + 2, none⟩ = some (.int .i64 sd) ∧ wX.cell? ⟨gs, j * 4 + 3, none⟩ = some (.bool sh) ∧ wX.cell? ⟨q, 0, none⟩ = some (.slice (some ⟨gA, 0, none⟩) N cA) ∧ wX.cell? ⟨q, 1, none⟩ = some (.slice (some ⟨gB, 0, none⟩) N cB) := by
  obtain ⟨y0, y1, y2, y3, y4, y5, y6⟩ := K W hb
  exact ⟨hg.cell y0 (fun e => n1 e.symm), hg.cell y1 (fun e => n2 e.symm), hg.cell y2 (fun e => n2 e.symm), hg.cell y3 (fun e => n2 e.symm), hg.cell y4 (fun e => n2 e.symm), hg.cell y5 (fun e => n3 e.symm), hg.cell y6 (fun e => n3 e.symm)⟩
theorem finX {w0 w5 W wX : World} {v : Value} {h hi m N : Nat} {a : Option Addr} {L : List St} {GJ : List Pl} {f : Nat → Value} {t : TypeId} (hg : W.grownBy wX v.ownBlock) (hb : Below w5.heap.size w5 W) (O5 : PlsO w5 (h + 1) N v GJ) (V5 : w5.rowIs h t 4 f) (R5 : StsR w5 hi a m L) (hhi : hi ≤ w5.heap.size) (B5 : Below h w0 w5) (hh : h ≤ w5.heap.size) :
    wX.rowIs h t 4 f ∧ StsR wX hi a m L ∧ Below h w0 wX ∧ w5.heap.size ≤ wX.heap.size := by
  have OI := O5.in
  have OW := O5.below hb
  have NS := OW.nosi
  have z := hb.size
  have z2 := hg.size
  refine ⟨row_by (rowIs_below V5 hb V5.lt) hg (fun e => by have := (OI _ e).1; omega), (R5.bel hb hhi).ty hg fun b e cs fz => (NS b e cs fz).1, grown_below' (B5.trans (hb.mono hh)) hg (fun b e => by have := (OI b e).1; omega) (by omega), by omega⟩
set_option maxRecDepth 16000 in
set_option maxHeartbeats 6400000 in
theorem l05Next_any (P N : Nat) (c H s : Int) (pa : Option Addr) (n pc : Nat) (l : List Pl) (die : Int) (k : Nat) (w : World) (hl : PlsR w w.heap.size N pa n l) (hP0 : 1 ≤ P) (hP : P ≤ 24) (hN : N = P + 1) (hc : c ≤ 15) (d0 : 1 ≤ die) (d1 : die ≤ 6) (hn : n ≤ 15625) (hok : PlsOk P c k l) (hk : k ≤ 4) :
    Calls Try.prog 57 #[vrV P c H s, .slice pa n pc, .int .i64 die] w fun e w' => PlPost N (nxL P H die l) w e w' := by
  have HB0 := Lib.hid (((Below.refl w.heap.size w).alloc (Nat.le_refl _) (.cells #[.int .i64 P, .int .i64 c, .int .i64 H, .int .i64 s] 30)).alloc (by simp) (.cells #[] 70))
  have V0 := Lib.hid ((vr4_new w (.int .i64 P) (.int .i64 c) (.int .i64 H) (.int .i64 s) 30).alloc (.cells #[] 70))
  have o0 := PlsO.new (w.alloc (.cells #[.int .i64 P, .int .i64 c, .int .i64 H, .int .i64 s] 30)) (w.heap.size + 1) N (by simp)
  rw [World.size_alloc] at o0
  have O0 := Lib.hid o0
  clear o0
  have HL := Lib.hid hl
  have HOK := Lib.hid hok
  have LEN := Lib.hid hl.len
  have HN := Lib.hid hN
  have hN1 : P < N := by omega
  have hN2 : N ≤ P + 1 := by omega
  have GL := Lib.hid (fun i => foldl_len (nxP P H die) (P + 1) (fun out p => by have := nxP_len P H die out p; rwa [Int.toNat_natCast] at this) (l.take i) [])
  clear hl hok hN
  go_enter Try.func57, Try.ntmps57
  go_wp2_with fail
  go_loopw [7, 8] (fun ov ix wr => ∃ (i : Nat) (v : Value), v = ov ∧ i ≤ n ∧ ix = .int .i64 i ∧ Hid (PlsO wr (w.heap.size + 1) N v ((l.take i).foldl (nxP P H die) [])) ∧ Hid (wr.rowIs w.heap.size 30 4 (vr4 (.int .i64 P) (.int .i64 c) (.int .i64 H) (.int .i64 s))) ∧ Hid (Below w.heap.size w wr) ∧ w.heap.size + 2 ≤ wr.heap.size) (fun _ ix _ => n - (intOf ix).toNat)
  case atStart => exact ⟨0, _, rfl, Nat.zero_le _, rfl, O0, V0, HB0, by simp⟩
  case round =>
    obtain ⟨i, v, rfl, hi, rfl, HO, HV, HB, hz⟩ := hrel
    by_cases hlt : i < n
    · obtain ⟨g, x, hpa, hg, hgz, c0', c1', c2', hx⟩ := HL.out.at hlt
      have CE := Lib.hid (fun (W : World) (hb : Below w.heap.size w W) => show W.cell? ⟨g, i * 3, none⟩ = some (.slice x.sa x.sn x.sc) ∧ W.cell? ⟨g, i * 3 + 1, none⟩ = some (.slice x.oa N x.oc) ∧ W.cell? ⟨g, i * 3 + 1 + 1, none⟩ = some (.slice x.ta N x.tc) from ⟨(hb.cell (p := ⟨g, i * 3, none⟩) hg).trans c0', (hb.cell (p := ⟨g, i * 3 + 1, none⟩) hg).trans c1', (hb.cell (p := ⟨g, i * 3 + 2, none⟩) hg).trans c2'⟩)
      clear c0' c1' c2'
      subst hpa
      obtain ⟨p, hp⟩ : ∃ p, l.getD i pl0 = p := ⟨_, rfl⟩
      rw [hp] at hx
      have HP := Lib.hid (show PlOk P c k p by rw [← hp]; exact HOK.out _ (getD_memP (by have := LEN.out; omega)))
      have GS := Lib.hid (show (l.take (i + 1)).foldl (nxP P H die) [] = nxP P H die ((l.take i).foldl (nxP P H die) []) p by rw [take_snocP (by have := LEN.out; omega), List.foldl_append, hp]; rfl)
      have GB : ((l.take i).foldl (nxP P H die) []).length ≤ i * 25 := by
        have h1 := GL.out i
        rw [List.length_take, Nat.min_eq_left (by have := LEN.out; omega)] at h1
        have h2 : i * (P + 1) ≤ i * 25 := Nat.mul_le_mul_left _ (by omega)
        simp only [List.length_nil, Nat.zero_add] at h1
        omega
      obtain ⟨GI, hGI⟩ : ∃ GI, (l.take i).foldl (nxP P H die) [] = GI := ⟨_, rfl⟩
      rw [hGI] at HO GS GB
      clear hp hGI
      have KL := Lib.hid (fun (W : World) (hb : Below w.heap.size w W) => l04Legal_any P c H s x.oa N x.oc p.own x.ta N x.tc p.oth die w.heap.size W (hx.own.below hb) (hx.oth.below hb) (by have := hb.size; omega) hP0 hP HN.out HN.out d0 d1 (sv_bd HP.out.1 hc hx.ol) (sv_bd HP.out.2.1 hc hx.tl))
      obtain ⟨sa, sn, sc, oa, oc, ta, tc⟩ := x
      obtain ⟨pst, pown, poth⟩ := p
      have HSN := Lib.hid (show sn = pst.length from hx.s.1)
      have HKL := Lib.hid (show pst.length = k from HP.out.2.2)
      have sn1 : sn ≤ 4 := by have := HSN.out; have := HKL.out; omega
      have HSR := Lib.hid (show StsR w w.heap.size sa sn pst from hx.s)
      have HOW := Lib.hid (show Ints w w.heap.size .i64 oa N pown from hx.own)
      have HOT := Lib.hid (show Ints w w.heap.size .i64 ta N poth from hx.oth)
      have HX1 := Lib.hid (show SV P c pown from HP.out.1)
      have HX2 := Lib.hid (show SV P c poth from HP.out.2.1)
      have HX3 := Lib.hid (show pown.length = N from hx.ol)
      have HX4 := Lib.hid (show poth.length = N from hx.tl)
      simp only at CE KL
      have Bd := Lib.hid (show Below w.heap.size w wr.drew from below_drewN HB.out 1)
      have KL1 := Lib.hid (KL.out _ Bd.out)
      have Vd := Lib.hid (show wr.drew.rowIs w.heap.size 30 4 (vr4 (.int .i64 P) (.int .i64 c) (.int .i64 H) (.int .i64 s)) from HV.out)
      have Od := Lib.hid HO.out.drew
      have OI := Lib.hid HO.out.in
      obtain ⟨L, hL⟩ : ∃ L, lgF P H pown poth die = L := ⟨_, rfl⟩
      have HLM := Lib.hid (fun s (hs : s ∈ L) => lgF_ok (P := (P : Int)) (H := H) (by omega) d0 HX1.out (by rw [hL]; exact hs))
      have HLT := Lib.hid (fun s (hs : s ∈ L) (e : s.to = -1) => show s.hit = false by
        rcases hq : s.hit with _ | _
        · rfl
        · have := ((HLM.out s hs).hit hq).1; omega)
      have HNX := Lib.hid (show nxP P H die GI ⟨pst, pown, poth⟩ = L.foldl (nxS P ⟨pst, pown, poth⟩) GI by unfold nxP; rw [hL])
      have LL := lgF_len P H pown poth die
      rw [hL, Int.toNat_natCast] at LL
      rw [hL] at KL1
      obtain ⟨m, hm⟩ : ∃ m, L.length = m := ⟨_, rfl⟩
      have HML := Lib.hid hm
      rw [hm] at LL
      have m25 : m ≤ 25 := by omega
      have SL := Lib.hid (fun j => foldl_len (nxS P ⟨pst, pown, poth⟩) 1 (nxS_len P ⟨pst, pown, poth⟩) (L.take j) GI)
      clear hx KL HO hL hm
      obtain ⟨v0, v1, v2, v3⟩ := vr4_cells HV.out
      obtain ⟨c0, c1, c2⟩ := CE.out _ HB.out
      go_wp2_with fail
      go_region_held3 (fun w' => w'.cell? ⟨w.heap.size, 0, none⟩ = some (.int .i64 P) ∧ w'.cell? ⟨w.heap.size, 1, none⟩ = some (.int .i64 c) ∧ w'.cell? ⟨w.heap.size, 2, none⟩ = some (.int .i64 H) ∧ w'.cell? ⟨w.heap.size, 3, none⟩ = some (.int .i64 s) ∧ w'.cell? ⟨g, i * 3 + 1, none⟩ = some (.slice oa N oc) ∧ w'.cell? ⟨g, i * 3 + 1 + 1, none⟩ = some (.slice ta N tc))
        (first | go_keep)
        (first
          | (go_at_call 66; (with_reducible refine KL1.out.mono ?_); rintro e w2 ⟨v2, rfl, hs2, hb2⟩; obtain ⟨a2, c2', hv2, hr2⟩ := hs2.out; rw [HML.out] at hv2 hr2; have R2 := Lib.hid hr2; have V2 := Lib.hid (rowIs_below Vd.out hb2 Vd.out.lt); have B2 := Lib.hid (Bd.out.trans (hb2.mono Bd.out.size)); have O2 := Lib.hid (Od.out.below hb2); have z2 : wr.heap.size ≤ w2.heap.size := hb2.size; obtain ⟨x0, x1, x2, x3⟩ := vr4_cells V2.out; obtain ⟨x4, x5, x6⟩ := CE.out _ B2.out; clear hs2 hb2 hr2; subst hv2))
      have OQ := Lib.hid OI
      obtain ⟨wo, hwo⟩ : ∃ wo, wo = wr := ⟨_, rfl⟩
      subst hwo
      clear v0 v1 v2 v3 c0 c1 c2 x0 x1 x2 x3 x4 x5 x6 Bd Vd Od KL1 HV HB
      go_wp2_with fail
      go_loopw [7, 10] (fun ov ix wr => ∃ (j : Nat) (v : Value), v = ov ∧ j ≤ m ∧ ix = .int .i64 j ∧ Hid (PlsO wr (w.heap.size + 1) N v ((L.take j).foldl (nxS P ⟨pst, pown, poth⟩) GI)) ∧ Hid (wr.rowIs w.heap.size 30 4 (vr4 (.int .i64 P) (.int .i64 c) (.int .i64 H) (.int .i64 s))) ∧ Hid (StsR wr w2.heap.size a2 m L) ∧ Hid (Below w.heap.size w wr) ∧ w2.heap.size ≤ wr.heap.size) (fun _ ix _ => m - (intOf ix).toNat)
      case atStart => exact ⟨0, v, rfl, Nat.zero_le _, rfl, O2, V2, R2, B2, Nat.le_refl _⟩
      case round =>
        obtain ⟨j, v', rfl, hj, rfl, HO, HV, HR, HBI, hzi⟩ := hrel
        by_cases hlt : j < m
        · obtain ⟨gs, ha2, hgs, hgsz, s0, s1, s2, s3⟩ := HR.out.at hlt
          subst ha2
          obtain ⟨st, hst⟩ : ∃ st, L.getD j st0 = st := ⟨_, rfl⟩
          rw [hst] at s0 s1 s2 s3
          have HSO := Lib.hid (show StOk P pown poth st by rw [← hst]; exact HLM.out _ (getD_memS (by have := HML.out; omega)))
          have HST := Lib.hid (show st.to = -1 → st.hit = false by rw [← hst]; exact HLT.out _ (getD_memS (by have := HML.out; omega)))
          have GS2 := Lib.hid (show (L.take (j + 1)).foldl (nxS P ⟨pst, pown, poth⟩) GI = nxS P ⟨pst, pown, poth⟩ ((L.take j).foldl (nxS P ⟨pst, pown, poth⟩) GI) st by rw [take_snocS (by have := HML.out; omega), List.foldl_append, hst]; rfl)
          have GB2 : ((L.take j).foldl (nxS P ⟨pst, pown, poth⟩) GI).length ≤ i * 25 + j := by
            have h1 := SL.out j
            rw [List.length_take, Nat.min_eq_left (by have := HML.out; omega)] at h1
            omega
          obtain ⟨GJ, hGJ⟩ : ∃ GJ, (L.take j).foldl (nxS P ⟨pst, pown, poth⟩) GI = GJ := ⟨_, rfl⟩
          rw [hGJ] at HO GS2 GB2
          have HA1 := Lib.hid (ownA_sv (by omega) HX1.out HSO.out)
          have HA2 := Lib.hid (othA_sv (by omega) HX2.out HSO.out)
          have HA3 := Lib.hid (show (ownA pown st).length = N by rw [ownA_len]; exact HX3.out)
          have HA4 := Lib.hid (show (othA P poth st).length = N by rw [othA_len]; exact HX4.out)
          have HYES := Lib.hid (fun h => GS2.out.trans (nxS_yes (P := P) (p := ⟨pst, pown, poth⟩) (out := GJ) (s := st) h))
          have HNO := Lib.hid (fun h => GS2.out.trans (nxS_no (P := P) (p := ⟨pst, pown, poth⟩) (out := GJ) (s := st) h))
          simp only at HYES HNO
          have AFT := Lib.hid (fun (W : World) (hb : Below w.heap.size w W) => l04Apply_any P c H s oa N oc pown ta N tc poth st W ((HOW.out.below hb).more hb.size) ((HOT.out.below hb).more hb.size) hP0 hP HN.out HN.out hc HX1.out HX2.out HSO.out HST.out)
          obtain ⟨A', hA'⟩ : ∃ A', ownA pown st = A' := ⟨_, rfl⟩
          obtain ⟨B', hB'⟩ : ∃ B', othA P poth st = B' := ⟨_, rfl⟩
          rw [hA', hB'] at HYES HNO AFT
          rw [hA'] at HA1 HA3
          rw [hB'] at HA2 HA4
          have HGS := Lib.hid hst
          clear hst hGJ hA' hB' GS2 HSO HST
          obtain ⟨sf, sx, sd, sh⟩ := st
          simp only at s0 s1 s2 s3
          obtain ⟨aO, cO, hvO, hPO⟩ := HO.out.out
          subst hvO
          have PO := Lib.hid hPO
          obtain ⟨nO, hnO⟩ : ∃ nO, GJ.length = nO := ⟨_, rfl⟩
          rw [hnO] at PO GB2 HO ⊢
          have HNO2 := Lib.hid hnO
          have i25 : i * 25 ≤ 390625 := by omega
          clear hPO hnO
          have KB := Lib.hid (fun (W : World) (hb : Below wr.heap.size wr W) => show W.cell? ⟨w.heap.size, 0, none⟩ = some (.int .i64 P) ∧ W.cell? ⟨w.heap.size, 1, none⟩ = some (.int .i64 c) ∧ W.cell? ⟨w.heap.size, 2, none⟩ = some (.int .i64 H) ∧ W.cell? ⟨w.heap.size, 3, none⟩ = some (.int .i64 s) ∧ W.cell? ⟨g, i * 3 + 1, none⟩ = some (.slice oa N oc) ∧ W.cell? ⟨g, i * 3 + 1 + 1, none⟩ = some (.slice ta N tc) ∧ W.cell? ⟨gs, j * 4, none⟩ = some (.int .i64 sf) ∧ W.cell? ⟨gs, j * 4 + 1, none⟩ = some (.int .i64 sx) ∧ W.cell? ⟨gs, j * 4 + 2, none⟩ = some (.int .i64 sd) ∧ W.cell? ⟨gs, j * 4 + 3, none⟩ = some (.bool sh) from by
            obtain ⟨a0, a1, a2, a3⟩ := vr4_cells (rowIs_below HV.out hb HV.out.lt)
            obtain ⟨b0, b1, b2⟩ := CE.out _ (HBI.out.trans (hb.mono HBI.out.size))
            exact ⟨a0, a1, a2, a3, b1, b2, (hb.cell (p := ⟨gs, j * 4, none⟩) hgsz).trans s0, (hb.cell (p := ⟨gs, j * 4 + 1, none⟩) hgsz).trans s1, (hb.cell (p := ⟨gs, j * 4 + 2, none⟩) hgsz).trans s2, (hb.cell (p := ⟨gs, j * 4 + 3, none⟩) hgsz).trans s3⟩)
          have hzo : w.heap.size ≤ wr.heap.size := HBI.out.size
          obtain ⟨v0, v1, v2, v3, c1, c2, s0', s1', s2', s3'⟩ := KB.out _ (Below.refl _ _)
          go_upto_region 9 with fail
          go_cut [11] (fun t wx => ∃ (q gA cA gB cB : Nat), t = .pointer (some ⟨q, 0, none⟩) ∧ wx.rowIs q 32 2 (pr (.slice (some ⟨gA, 0, none⟩) N cA) (.slice (some ⟨gB, 0, none⟩) N cB)) ∧ Bd2 wx wr.heap.size gA gB N N A' B' ∧ Below wr.heap.size wr wx ∧ wr.heap.size ≤ q)
          case first =>
            go_region_held3 (fun w' => w'.cell? ⟨w.heap.size, 0, none⟩ = some (.int .i64 P) ∧ w'.cell? ⟨w.heap.size, 1, none⟩ = some (.int .i64 c) ∧ w'.cell? ⟨w.heap.size, 2, none⟩ = some (.int .i64 H) ∧ w'.cell? ⟨w.heap.size, 3, none⟩ = some (.int .i64 s) ∧ w'.cell? ⟨g, i * 3 + 1, none⟩ = some (.slice oa N oc) ∧ w'.cell? ⟨g, i * 3 + 1 + 1, none⟩ = some (.slice ta N tc) ∧ w'.cell? ⟨gs, j * 4, none⟩ = some (.int .i64 sf) ∧ w'.cell? ⟨gs, j * 4 + 1, none⟩ = some (.int .i64 sx) ∧ w'.cell? ⟨gs, j * 4 + 2, none⟩ = some (.int .i64 sd) ∧ w'.cell? ⟨gs, j * 4 + 3, none⟩ = some (.bool sh))
              ((refine KB.out _ ?_; repeat' (first | exact Below.refl _ _ | (with_reducible exact hb3) | (with_reducible refine below_dr ?_) | refine Below.alloc ?_ (by first | omega | (simp; done) | (simp; omega)) _ | refine Below.setCell ?_ (by first | omega | (simp; done) | (simp; omega)) _)))
              ((go_at_call 67; refine (AFT.out _ ?_).mono ?_
                · (refine HBI.out.trans (Below.mono (B := wr.heap.size) ?_ hzo); repeat' (first | exact Below.refl _ _ | (with_reducible refine below_dr ?_) | refine Below.alloc ?_ (by first | omega | (simp; done) | (simp; omega)) _)); done
                rintro e w3 ⟨gA, cA, gB, cB, rfl, hbd, hb3'⟩
                have hb3 : Below wr.heap.size wr w3 := by
                  refine Below.trans (b := _) ?_ (hb3'.mono (by first | omega | (simp; done) | (simp; omega)))
                  repeat' (first | exact Below.refl _ _ | (with_reducible refine below_dr ?_) | refine Below.alloc ?_ (by first | omega | (simp; done) | (simp; omega)) _)
                have z3 := hb3'.size
                simp at z3
                first
                  | (refine withQ (q := wr.heap.size) (t := 32) hb3' ?_ ?_
                     · (repeat' (first | (with_reducible refine pr_new' _ _ _ _ _ ?_) | (with_reducible refine World.rowIs.drew ?_) | (simp; done))); done
                     intro rq f0 f1 g0 g1 gl)
                  | skip))
            all_goals
              go_wp2_with fail
              go_meet
              first
                | exact ⟨w3.heap.size, gA, cA, gB, cB, rfl, pr_new w3 _ _ _, (hbd.al _).lower (Nat.le_refl _), hb3.alloc hb3.size _, hb3.size⟩
                | exact ⟨wr.heap.size, gA, cA, gB, cB, rfl, pr_set rq _ _, ((hbd.ne' (by simp) _ _).ne' (by simp) _ _).lower (by simp), (hb3.setCell (Nat.le_refl _) _).setCell (Nat.le_refl _) _, Nat.le_refl _⟩
          case rest =>
            obtain ⟨q, gA, cA, gB, cB, rfl, hq, hbd, hbc, hqz⟩ := hcut
            have zc := hbc.size
            have VC := Lib.hid (rowIs_below HV.out hbc HV.out.lt)
            have RC := Lib.hid (HR.out.bel hbc hzi)
            have OC := Lib.hid (HO.out.below hbc)
            have BC := Lib.hid (HBI.out.trans (hbc.mono hzo))
            have QC := Lib.hid hq
            have EC := Lib.hid hbd
            have FD := Lib.hid (l05Find_any N aO nO cO GJ (some ⟨gA, 0, none⟩) cA A' (some ⟨gB, 0, none⟩) cB B' wc.heap.size wc ((PO.out.bel hbc (Nat.le_refl _)).more zc) (hbd.a.ints HA3.out) (hbd.b.ints HA4.out) (Nat.le_refl _) (by omega) (by omega) (by omega))
            clear hq hbd hbc HV HR HO HBI PO KB v0 v1 v2 v3 c1 c2 s0 s1 s2 s3 s0' s1' s2' s3' AFT
            obtain ⟨q0, q1⟩ := pr_cells QC.out
            go_wp2_with fail
            refine FD.out.mono ?_
            rintro e w5 ⟨r, rfl, r0, r1, hr, hb5⟩
            have z5 := hb5.size
            have V5 := Lib.hid (rowIs_below VC.out hb5 VC.out.lt)
            have R5 := Lib.hid (RC.out.bel hb5 (by omega))
            have O5 := Lib.hid (OC.out.below hb5)
            have B5 := Lib.hid (BC.out.trans (hb5.mono BC.out.size))
            have Q5 := Lib.hid (rowIs_below QC.out hb5 QC.out.lt)
            have E5 := Lib.hid (show Bd2 w5 wr.heap.size gA gB N N A' B' from ⟨EC.out.a.below hb5, EC.out.b.below hb5, EC.out.ga, EC.out.gb, EC.out.ne⟩)
            clear hb5 VC RC OC BC QC EC FD q0 q1
            cases hs : hasB GJ A' B'
            · rw [hs] at hr
              have hr2 : decide (r < 0) = true := hr
              have hr3 : r < 0 := of_decide_eq_true hr2
              have HE := Lib.hid (HNO.out hs)
              have HSR5 := Lib.hid (HSR.out.bel B5.out (Nat.le_refl _))
              have KB5 := Lib.hid (fun (W : World) (hb : Below w5.heap.size w5 W) => show W.cell? ⟨g, i * 3, none⟩ = some (.slice sa sn sc) ∧ W.cell? ⟨gs, j * 4, none⟩ = some (.int .i64 sf) ∧ W.cell? ⟨gs, j * 4 + 1, none⟩ = some (.int .i64 sx) ∧ W.cell? ⟨gs, j * 4 + 2, none⟩ = some (.int .i64 sd) ∧ W.cell? ⟨gs, j * 4 + 3, none⟩ = some (.bool sh) ∧ W.cell? ⟨q, 0, none⟩ = some (.slice (some ⟨gA, 0, none⟩) N cA) ∧ W.cell? ⟨q, 1, none⟩ = some (.slice (some ⟨gB, 0, none⟩) N cB) from by
                obtain ⟨a0, _, _⟩ := CE.out _ (B5.out.trans (hb.mono B5.out.size))
                obtain ⟨g', e', _, hz', b0, b1, b2, b3⟩ := R5.out.at hlt
                injection e' with e'
                injection e' with e'
                subst e'
                obtain ⟨d0, d1⟩ := pr_cells (rowIs_below Q5.out hb Q5.out.lt)
                exact ⟨a0, (hb.cell (p := ⟨gs, j * 4, none⟩) hz').trans (b0.trans (by rw [HGS.out])), (hb.cell (p := ⟨gs, j * 4 + 1, none⟩) hz').trans (b1.trans (by rw [HGS.out])), (hb.cell (p := ⟨gs, j * 4 + 2, none⟩) hz').trans (b2.trans (by rw [HGS.out])), (hb.cell (p := ⟨gs, j * 4 + 3, none⟩) hz').trans (b3.trans (by rw [HGS.out])), d0, d1⟩)
              have HGG := Lib.hid (show (Value.slice aO nO cO).ownBlock ≠ some g from fun e => by have := (O5.out.in _ e).1; omega)
              have HQN := Lib.hid (show (Value.slice aO nO cO).ownBlock ≠ some q from by obtain ⟨_, _, h, _⟩ := O5.out; exact ow_ne h Q5.out (by decide))
              have HGN := Lib.hid (show (Value.slice aO nO cO).ownBlock ≠ some gs from by
                obtain ⟨_, _, h, _⟩ := O5.out
                rcases R5.out.2 with h0 | ⟨g', e', _, _, M, F, _, hrow, _⟩
                · omega
                · injection e' with e'
                  injection e' with e'
                  subst e'
                  exact ow_ne h hrow (by decide))
              have la := rown_lt E5.out.a (by omega)
              have lb := rown_lt E5.out.b (by omega)
              have hz5 : w.heap.size ≤ w5.heap.size := B5.out.size
              clear hr hs HYES HNO
              obtain ⟨u0, u1, u2, u3, u4, u5, u6⟩ := KB5.out _ (Below.refl _ _)
              go_wp2_with fail
              go_region_held3 (fun w' => w'.cell? ⟨g, i * 3, none⟩ = some (.slice sa sn sc) ∧ w'.cell? ⟨gs, j * 4, none⟩ = some (.int .i64 sf) ∧ w'.cell? ⟨gs, j * 4 + 1, none⟩ = some (.int .i64 sx) ∧ w'.cell? ⟨gs, j * 4 + 2, none⟩ = some (.int .i64 sd) ∧ w'.cell? ⟨gs, j * 4 + 3, none⟩ = some (.bool sh) ∧ w'.cell? ⟨q, 0, none⟩ = some (.slice (some ⟨gA, 0, none⟩) N cA) ∧ w'.cell? ⟨q, 1, none⟩ = some (.slice (some ⟨gB, 0, none⟩) N cB))
                (first | (with_reducible exact KX.out) | (refine KB5.out _ ?_; repeat' (first | exact Below.refl _ _ | (with_reducible exact hb8) | (with_reducible exact hb7) | (with_reducible refine below_dr ?_) | refine Below.alloc ?_ (by first | omega | (simp; done) | (simp; omega)) _)))
                (first
                  | (refine step_copy_st (hi := w.heap.size) (base := w5.heap.size) rfl (.tmp 49) (.tmp 54) rfl rfl ?_ sa sn sc pst rfl ?_ (by omega) ?_ ?_
                     · (repeat' (first | (with_reducible refine ow_new' _ w5.heap.size _ 4 _ ?_ ?_) | (with_reducible refine ow_drew ?_) | (with_reducible refine ow_alloc ?_ _) | omega | (simp; done) | (simp; omega))); done
                     · (refine HSR5.out.bel (B := w5.heap.size) ?_ (by omega); repeat' (first | exact Below.refl _ _ | (with_reducible refine below_dr ?_) | refine Below.alloc ?_ (by first | omega | (simp; done) | (simp; omega)) _)); done
                     · (first | omega | (simp; done) | (simp; omega))
                     intro g7 cap7 w7 ho7 hg7
                     have hb7 : Below w5.heap.size w5 w7 := by
                       refine Below.grown ?_ hg7 (by first | (simp; done) | (simp; omega)) ?_
                       · repeat' (first | exact Below.refl _ _ | (with_reducible refine below_dr ?_) | refine Below.alloc ?_ (by first | omega | (simp; done) | (simp; omega)) _)
                       · intro k e
                         injection e with e
                         first | omega | (simp at e; omega)
                     have z7 := hg7.size
                     simp at z7)
                  | (refine step_app_st (base := w5.heap.size) rfl (.tmp 55) (.tmp 60) rfl rfl ?_ (by first | omega | exact HSN.out) _ rfl ⟨sf, sx, sd, sh⟩ ?_ (by omega) ?_ ?_
                     · (repeat' (first | (with_reducible exact ho7) | (with_reducible refine sts_drew ?_) | (with_reducible refine sts_alloc ?_ _))); done
                     · (repeat' (first | (with_reducible refine vr4_new' _ _ _ _ _ _ _ ?_) | (with_reducible refine World.rowIs.alloc ?_ _) | (with_reducible refine World.rowIs.drew ?_) | (with_reducible refine row_by ?_ hg7 ?_) | omega | (simp; done) | (simp; omega))); done
                     · (first | omega | (simp; done) | (simp; omega))
                     intro g8 cap8 w8 ho8 hg8
                     have hb8 : Below w5.heap.size w5 w8 := by
                       refine Below.grown ?_ hg8 (by first | omega | (simp; done) | (simp; omega)) ?_
                       · repeat' (first | exact Below.refl _ _ | (with_reducible exact hb7) | (with_reducible refine below_dr ?_) | refine Below.alloc ?_ (by first | omega | (simp; done) | (simp; omega)) _)
                       · intro k e
                         injection e with e
                         have := (ow_in ho7 g7 rfl).1
                         omega
                     have z8 := hb8.size
                     have HPV := Lib.hid (show PvOk w8 w8.heap.size N ⟨some ⟨g8, 0, none⟩, sn + 1, cap8, some ⟨gA, 0, none⟩, cA, some ⟨gB, 0, none⟩, cB⟩ ⟨pst ++ [⟨sf, sx, sd, sh⟩], A', B'⟩ from ⟨ho8.rd, (E5.out.a.below hb8).wide (Nat.zero_le _) (by omega), HA3.out, (E5.out.b.below hb8).wide (Nat.zero_le _) (by omega), HA4.out⟩))
                  | (refine step_app_pl (base := w.heap.size + 1) (N := N) (l := GJ) rfl (.tmp 48) (.tmp 64) rfl rfl ?_ _ rfl ⟨some ⟨g8, 0, none⟩, sn + 1, cap8, some ⟨gA, 0, none⟩, cA, some ⟨gB, 0, none⟩, cB⟩ ⟨pst ++ [⟨sf, sx, sd, sh⟩], A', B'⟩ ?_ ?_ ?_ ?_ ?_ ?_ ?_
                     · (refine O5.out.below ?_; repeat' (first | exact Below.refl _ _ | (with_reducible exact hb8) | (with_reducible exact hb7) | (with_reducible refine below_dr ?_) | refine Below.alloc ?_ (by first | omega | (simp; done) | (simp; omega)) _)); done
                     · (refine HPV.out.to ?_; repeat' (first | exact Below.refl _ _ | (with_reducible refine below_dr ?_) | refine Below.alloc ?_ (by first | omega | (simp; done) | (simp; omega)) _)); done
                     · (refine (th3_cells (p := .slice (some ⟨g8, 0, none⟩) (sn + 1) cap8) (q := .slice (some ⟨gA, 0, none⟩) N cA) (r := .slice (some ⟨gB, 0, none⟩) N cB) (t := 70) ?_).1; repeat' (first | (with_reducible refine th3_new' _ _ _ _ _ _ ?_) | (with_reducible refine World.rowIs.drew ?_) | (simp; done))); done
                     · (refine (th3_cells (p := .slice (some ⟨g8, 0, none⟩) (sn + 1) cap8) (q := .slice (some ⟨gA, 0, none⟩) N cA) (r := .slice (some ⟨gB, 0, none⟩) N cB) (t := 70) ?_).2.1; repeat' (first | (with_reducible refine th3_new' _ _ _ _ _ _ ?_) | (with_reducible refine World.rowIs.drew ?_) | (simp; done))); done
                     · (refine (th3_cells (p := .slice (some ⟨g8, 0, none⟩) (sn + 1) cap8) (q := .slice (some ⟨gA, 0, none⟩) N cA) (r := .slice (some ⟨gB, 0, none⟩) N cB) (t := 70) ?_).2.2; repeat' (first | (with_reducible refine th3_new' _ _ _ _ _ _ ?_) | (with_reducible refine World.rowIs.drew ?_) | (simp; done))); done
                     · (have := HNO2.out; omega)
                     · (first | omega | (simp; done) | (simp; omega))
                     intro gX capX wX hoX hgX hzX
                     have KX := Lib.hid (kX hgX (by repeat' (first | exact Below.refl _ _ | (with_reducible exact hb8) | (with_reducible exact hb7) | (with_reducible refine below_dr ?_) | refine Below.alloc ?_ (by first | omega | (simp; done) | (simp; omega)) _)) KB5.out HGG.out HGN.out HQN.out)))
              all_goals
                obtain ⟨hvX, hrX, hbX, hzX2⟩ : wX.rowIs w.heap.size 30 4 (vr4 (.int .i64 P) (.int .i64 c) (.int .i64 H) (.int .i64 s)) ∧ StsR wX w2.heap.size (some ⟨gs, 0, none⟩) m L ∧ Below w.heap.size w wX ∧ w5.heap.size ≤ wX.heap.size := by
                  refine finX hgX ?_ O5.out V5.out R5.out (by omega) B5.out hz5
                  repeat' (first | exact Below.refl _ _ | (with_reducible exact hb8) | (with_reducible exact hb7) | (with_reducible refine below_dr ?_) | refine Below.alloc ?_ (by first | omega | (simp; done) | (simp; omega)) _)
                have OX := Lib.hid hoX
                have VX := Lib.hid hvX
                have RX := Lib.hid hrX
                have BX := Lib.hid hbX
                clear hoX hvX hrX hbX
                go_wp2_with fail
                go_roundw
                case rel => exact ⟨j + 1, _, rfl, by omega, by go_num, Lib.hid (by rw [HE.out]; exact OX.out), VX, RX, BX, by omega⟩
                case measure => (simp [intOf]; try omega)
            · rw [hs] at hr
              have hr2 : decide (r < 0) = false := hr
              have hr3 : ¬ r < 0 := of_decide_eq_false hr2
              have HE := Lib.hid (HYES.out hs)
              clear hr hs HYES HNO
              go_wp2_with fail
              go_roundw
              case rel => exact ⟨j + 1, _, rfl, by omega, by go_num, Lib.hid (by rw [HE.out]; exact O5.out), V5, R5, B5, by omega⟩
              case measure => (simp [intOf]; try omega)
        · obtain rfl : j = m := by omega
          have HF := Lib.hid (show (L.take j).foldl (nxS P ⟨pst, pown, poth⟩) GI = (l.take (i + 1)).foldl (nxP P H die) [] by
            rw [List.take_of_length_le (by have := HML.out; omega), GS.out, HNX.out])
          go_wp2_with fail
          go_roundw
          case rel => exact ⟨i + 1, v', rfl, by omega, by go_num, Lib.hid (by rw [← HF.out]; exact HO.out), HV, HBI, by have := HBI.out.size; omega⟩
          case measure => (simp [intOf]; try omega)
    · obtain rfl : i = n := by omega
      have HF := Lib.hid (show (l.take i).foldl (nxP P H die) [] = nxL P H die l by rw [List.take_of_length_le (by have := LEN.out; omega)]; rfl)
      go_wp2_with fail
      go_ret
      exact ⟨_, rfl, by rw [← HF.out]; exact HO.out.lower (by omega), HB.out⟩
end Go.Proofs.Ytjfmpnkbocilpaa
