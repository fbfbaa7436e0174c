/-
  sequences and used of the program: the rows of all orders of a roll, and how many dice are used.
-/
import Derived.Test.YtjfmpnkbocilpaaHwW
import Derived.Lib.MinMax
namespace Go.Proofs.Ytjfmpnkbocilpaa
open Go.ChangeShapes Go.WideShapes Go.ChangeAt Go.RowKit
set_option linter.unusedVariables false

abbrev Rs := List Pl × Nat × Bool
def rs0 : Rs := ([], 0, true)
theorem take_snocR {r : List Rs} {k : Nat} (hk : k < r.length) : r.take (k + 1) = r.take k ++ [r.getD k rs0] := by
  rw [List.take_succ_eq_append_getElem hk, List.getD_eq_getElem?_getD, List.getElem?_eq_getElem hk]; rfl
theorem resF_at {P H : Int} {xs ys : List Int} {a b : Int} {k : Nat} (hk : k < (ordF a b).length) : (resF P H xs ys a b).getD k rs0 = lng P H ((ordF a b).getD k []) (sq0 xs ys) := by
  unfold resF
  rw [List.getD_eq_getElem?_getD, List.getElem?_map, List.getD_eq_getElem?_getD, List.getElem?_eq_getElem hk]; rfl
theorem resF_len (P H : Int) (xs ys : List Int) (a b : Int) : (resF P H xs ys a b).length = (ordF a b).length := by unfold resF; rw [List.length_map]
theorem fitsF_take {r : List Rs} {k : Nat} (hk : k < r.length) : fitsF (r.take (k + 1)) = (fitsF (r.take k) && (r.getD k rs0).2.2) := by rw [take_snocR hk, fitsF, List.foldl_append]; rfl
theorem mostF_take {r : List Rs} {k : Nat} (hk : k < r.length) : mostF (r.take (k + 1)) = max (mostF (r.take k)) (r.getD k rs0).2.1 := by rw [take_snocR hk, mostF, List.foldl_append]; rfl
theorem lng_le {P H : Int} : ∀ {ds : List Int} {l : List Pl}, (lng P H ds l).2.1 ≤ ds.length
  | [], l => Nat.le_refl _
  | d :: ds, l => by
    unfold lng
    split
    · exact Nat.zero_le _
    · have := lng_le (P := P) (H := H) (ds := ds) (l := nxL P H d l)
      simp only [List.length_cons]; omega
/-- all orders' rows -/
def AlR (w : World) (B N : Nat) (v : Value) (r : List Rs) : Prop :=
  ∃ (g cap : Nat), v = .slice (some ⟨g, 0, none⟩) r.length cap ∧ g < B ∧ g < w.heap.size ∧ ∀ k, k < r.length → ∃ u, w.cell? ⟨g, k, none⟩ = some u ∧ SqAt w B N u (r.getD k rs0)
theorem AlR.bel {w w' : World} {B B' N : Nat} {v : Value} {r : List Rs} (h : AlR w B N v r) (hb : Below B' w w') (hB : B ≤ B') : AlR w' B N v r := by
  obtain ⟨g, cap, e, hg, hz, hc⟩ := h
  refine ⟨g, cap, e, hg, Nat.lt_of_lt_of_le hz hb.size, fun k hk => ?_⟩
  obtain ⟨u, h1, h2⟩ := hc k hk
  exact ⟨u, (hb.cell (p := ⟨g, k, none⟩) (by show g < B'; omega)).trans h1, h2.bel hb hB⟩
theorem AlR.more {w : World} {B B' N : Nat} {v : Value} {r : List Rs} (h : AlR w B N v r) (hB : B ≤ B') : AlR w B' N v r := by
  obtain ⟨g, cap, e, hg, hz, hc⟩ := h
  refine ⟨g, cap, e, by omega, hz, fun k hk => ?_⟩
  obtain ⟨u, h1, h2⟩ := hc k hk
  exact ⟨u, h1, h2.more hB⟩
def AlPost (N : Nat) (r : List Rs) (w : World) (e : Ending) (w' : World) : Prop := ∃ v, e = .returned (.tuple #[v, .bool (fitsF r)]) ∧ AlR w' w'.heap.size N v r ∧ Below w.heap.size w w'
theorem ow_nor {w : World} {base : Nat} {t : TypeId} {sz : Nat} {v : Value} {n : Nat} {vs : List Value} (h : w.ownsRow base t sz v n vs) (h1 : t ≠ 45) : ∀ b, v.ownBlock = some b → ∀ cs fz, w.heap[b]? ≠ some (.cells cs 45 fz) := by
  intro b e cs fz hb
  obtain ⟨_, _, cs', hc⟩ := ow_in h b e
  rw [hc] at hb
  injection hb with hb
  injection hb with _ hb
  exact h1 hb
theorem info_rows : (Try.prog.info? 79).map (fun i => (i.zero, i.size, i.bytes)) = some (some (.slice none 0 0), 1, 24) := by kernel_rfl
set_option maxRecDepth 16000 in
set_option maxHeartbeats 6400000 in
theorem sequences_any (P N : Nat) (c H s : Int) (a : Option Addr) (ca : Nat) (xs : List Int) (b : Option Addr) (cb : Nat) (ys : List Int) (A B : Int) (w : World) (h1 : Ints w w.heap.size .i64 a N xs) (h2 : Ints w w.heap.size .i64 b N ys) (hP0 : 1 ≤ P) (hP : P ≤ 24) (hN : N = P + 1) (hc : c ≤ 15) (hx : SV P c xs) (hy : SV P c ys) (hA1 : 1 ≤ A) (hA6 : A ≤ 6) (hB1 : 1 ≤ B) (hB6 : B ≤ 6) :
    Calls Try.prog 43 #[vrV P c H s, bdV a N ca b N cb, .agg #[.int .i64 A, .int .i64 B]] w fun e w' => AlPost N (resF P H xs ys A B) w e w' := by
  have hb0 := (((Below.refl w.heap.size w).alloc (Nat.le_refl _) (.cells #[.int .i64 P, .int .i64 c, .int .i64 H, .int .i64 s] 30)).alloc (by simp) (.cells #[.slice a N ca, .slice b N cb] 32)).alloc (by simp; omega) (.cells #[.int .i64 A, .int .i64 B] 49)
  have v0' := ((vr4_new w (.int .i64 P) (.int .i64 c) (.int .i64 H) (.int .i64 s) 30).alloc (.cells #[.slice a N ca, .slice b N cb] 32)).alloc (.cells #[.int .i64 A, .int .i64 B] 49)
  have d0' := (pr_new (w.alloc (.cells #[.int .i64 P, .int .i64 c, .int .i64 H, .int .i64 s] 30)) (.slice a N ca) (.slice b N cb) 32).alloc (.cells #[.int .i64 A, .int .i64 B] 49)
  rw [World.size_alloc] at d0'
  obtain ⟨W0, hW0⟩ : ∃ W, ((w.alloc (.cells #[.int .i64 P, .int .i64 c, .int .i64 H, .int .i64 s] 30)).alloc (.cells #[.slice a N ca, .slice b N cb] 32)).alloc (.cells #[.int .i64 A, .int .i64 B] 49) = W := ⟨_, rfl⟩
  have zW : w.heap.size + 3 ≤ W0.heap.size := by rw [← hW0]; simp
  rw [hW0] at hb0 v0' d0'
  have HW0 := Lib.hid hW0
  have HB0 := Lib.hid hb0
  have V0 := Lib.hid v0'
  have D0 := Lib.hid d0'
  have OR := Lib.hid (ordersOf_any A B W0)
  have OL := ordF_len A B
  have OM := Lib.hid (fun o (h : o ∈ ordF A B) => ordF_mem h)
  have SQ := Lib.hid (fun (W : World) (hb : Below w.heap.size w W) (oa : Option Addr) (on oc : Nat) (ds : List Int) (h3 : Ints W W.heap.size .i64 oa on ds) (hon : 0 < on) (hon4 : on ≤ 4) (hd : ∀ d ∈ ds, 1 ≤ d ∧ d ≤ 6) => sequencesOf_any P N c H s a ca xs b cb ys oa on oc ds W ((h1.below hb).more hb.size) ((h2.below hb).more hb.size) h3 hP0 hP hN hc hx hy hon hon4 hd)
  have RA := Lib.hid (fun (k : Nat) (hk : k < (ordF A B).length) => resF_at (P := (P : Int)) (H := H) (xs := xs) (ys := ys) hk)
  have RLn := Lib.hid (resF_len (P : Int) H xs ys A B)
  obtain ⟨r, hr⟩ : ∃ r, resF P H xs ys A B = r := ⟨_, rfl⟩
  rw [hr] at RA RLn
  have HR := Lib.hid hr
  obtain ⟨os, hos⟩ : ∃ os, ordF A B = os := ⟨_, rfl⟩
  rw [hos] at OR OL OM RA RLn
  obtain ⟨m, hm⟩ : ∃ m, os.length = m := ⟨_, rfl⟩
  rw [hm] at OL RLn
  have HM := Lib.hid hm
  have m1 : 0 < m := by omega
  have m2 : m ≤ 2 := by omega
  clear hr hos hm OL h1 h2 hx hy hN hb0 v0' d0' hW0
  obtain ⟨r0, r1⟩ : W0.cell? ⟨w.heap.size + 1 + 1, 0, none⟩ = some (.int .i64 A) ∧ W0.cell? ⟨w.heap.size + 1 + 1, 1, none⟩ = some (.int .i64 B) := by
    rw [← HW0.out]
    have e := fun k => new_cell ((w.alloc (.cells #[.int .i64 P, .int .i64 c, .int .i64 H, .int .i64 s] 30)).alloc (.cells #[.slice a N ca, .slice b N cb] 32)) #[.int .i64 A, .int .i64 B] 49 k
    simp only [World.size_alloc] at e
    exact ⟨e 0, e 1⟩
  go_enter Try.func43, Try.ntmps43
  go_wp2_with fail
  rw [HW0.out]
  go_wp2_with fail
  refine OR.out.mono ?_
  rintro e w1 ⟨oA, oC, rfl, hor, hb1⟩
  rw [HM.out] at hor ⊢
  have z1 := hb1.size
  have V1 := Lib.hid (rowIs_below V0.out hb1 V0.out.lt)
  have D1 := Lib.hid (rowIs_below D0.out hb1 D0.out.lt)
  have B1 := Lib.hid (HB0.out.trans (hb1.mono HB0.out.size))
  have O1 := Lib.hid hor
  clear hor hb1 r0 r1
  go_wp2_with fail
  go_loopw [8, 9, 17] (fun av fv ix wr => ∃ (i : Nat) (v : Value) (f : Bool) (vs : List Value), v = av ∧ i ≤ m ∧ ix = .int .i64 i ∧ fv = .bool f ∧ Hid (fitsF (r.take i) = f) ∧ Hid (wr.ownsRow w1.heap.size 79 1 v i vs) ∧ Hid (∀ k, k < i → SqAt wr wr.heap.size N (vs.getD k undef) (r.getD k rs0)) ∧ Hid (OrdR wr w1.heap.size oA m os) ∧ Hid (wr.rowIs w.heap.size 30 4 (vr4 (.int .i64 P) (.int .i64 c) (.int .i64 H) (.int .i64 s))) ∧ Hid (wr.rowIs (w.heap.size + 1) 32 2 (pr (.slice a N ca) (.slice b N cb))) ∧ Hid (Below w.heap.size w wr) ∧ w1.heap.size ≤ wr.heap.size) (fun _ _ ix _ => m - (intOf ix).toNat)
  case atStart => exact ⟨0, _, true, [], rfl, Nat.zero_le _, rfl, rfl, Lib.hid rfl, Lib.hid (ow_nil _ _ _ _), Lib.hid (fun k hk => absurd hk (by omega)), O1, V1, D1, B1, Nat.le_refl _⟩
  case round =>
    obtain ⟨i, v, f, vs, rfl, hi, rfl, rfl, HF, HO, HS, HOR, HV, HD, HB, hz⟩ := hrel
    by_cases hlt : i < m
    · obtain ⟨_, gO, hoA, hgO, hgOz, hoc⟩ := HOR.out
      subst hoA
      obtain ⟨ai, ci, c0, hai⟩ := hoc i hlt
      have him : os.getD i [] ∈ os := by
        rw [List.getD_eq_getElem?_getD, List.getElem?_eq_getElem (by have := HM.out; omega)]; exact List.getElem_mem _
      obtain ⟨om1, om2⟩ := OM.out _ him
      have RI := Lib.hid (RA.out i (by have := HM.out; omega))
      obtain ⟨ds, hds⟩ : ∃ ds, os.getD i [] = ds := ⟨_, rfl⟩
      rw [hds] at c0 hai om1 om2 RI
      obtain ⟨on, hon⟩ : ∃ on, ds.length = on := ⟨_, rfl⟩
      rw [hon] at c0 hai om1
      have S1 := Lib.hid (SQ.out wr HB.out ai on ci ds (hai.more hz) (by omega) (by omega) (fun d hd => by rcases om2 d hd with rfl | rfl <;> exact ⟨by omega, by omega⟩))
      clear hds hon him om2 hoc hai om1
      have HFT := Lib.hid (fitsF_take (r := r) (k := i) (by have := RLn.out; omega))
      obtain ⟨x, hx⟩ : ∃ x, r.getD i rs0 = x := ⟨_, rfl⟩
      have HX := Lib.hid hx
      have S2 := Lib.hid (show Calls Try.prog 60 #[vrV P c H s, bdV a N ca b N cb, .slice ai on ci] wr fun e w' => ∃ v, e = .returned (.tuple #[v, .bool x.2.2]) ∧ SqAt w' w'.heap.size N v x ∧ Below wr.heap.size wr w' from by have e := S1.out; simp only [SqPost, ← RI.out, hx] at e; exact e)
      rw [hx] at HFT
      clear hx S1 RI
      obtain ⟨v0, v1, v2, v3⟩ := vr4_cells HV.out
      obtain ⟨d0, d1⟩ := pr_cells HD.out
      go_wp2_with fail
      refine S2.out.mono ?_
      rintro e w2 ⟨u, rfl, hs2, hb2⟩
      obtain ⟨gR, cR, lA, lc, hu, _, _, _, _⟩ := hs2.at
      subst hu
      obtain ⟨nR, hnR⟩ : ∃ nR, x.2.1 + 1 = nR := ⟨_, rfl⟩
      rw [hnR] at hs2
      obtain ⟨f2, hf2⟩ : ∃ f2, x.2.2 = f2 := ⟨_, rfl⟩
      rw [hf2] at HFT
      rw [hnR, hf2]
      have z2 := hb2.size
      have NW := Lib.hid (one_news (new_cell w2 #[.slice (some ⟨gR, 0, none⟩) nR cR] 79 0))
      have ha2 := hb2.alloc hb2.size (.cells #[.slice (some ⟨gR, 0, none⟩) nR cR] 79)
      have V2 := Lib.hid (rowIs_below HV.out ha2 HV.out.lt)
      have D2 := Lib.hid (rowIs_below HD.out ha2 HD.out.lt)
      have B2 := Lib.hid (HB.out.trans (ha2.mono HB.out.size))
      have O2 := Lib.hid (HOR.out.bel ha2 hz)
      have W2 := Lib.hid (ow_below HO.out ha2)
      have E2 := Lib.hid (hs2.bel ((Below.refl _ w2).alloc (Nat.le_refl _) (.cells #[.slice (some ⟨gR, 0, none⟩) nR cR] 79)) (Nat.le_refl _))
      have T2 := Lib.hid (fun k (hk : k < i) => (HS.out k hk).bel ha2 (Nat.le_refl _))
      clear hs2 hb2 ha2 hnR hf2 v0 v1 v2 v3 d0 d1 HV HD HB HOR HO HS c0
      have cases4 : ∃ f' : Bool, (f && f2) = f' ∧ ((f = false ∧ f' = false) ∨ (f = true ∧ f2 = f')) := by
        cases f
        · exact ⟨false, rfl, .inl ⟨rfl, rfl⟩⟩
        · exact ⟨f2, by simp, .inr ⟨rfl, rfl⟩⟩
      obtain ⟨f', hf', hcs⟩ := cases4
      have HF2 := Lib.hid (show fitsF (r.take (i + 1)) = f' by rw [HFT.out, HF.out, hf'])
      clear hf'
      rcases hcs with ⟨rfl, rfl⟩ | ⟨rfl, rfl⟩
      all_goals
        go_wp2_with (first | (at_builtin; refine app_row rfl (.tmp 28) (.tmp 30) 73 79 _ 1 24 rfl Try.underlying73 info_rows rfl (by omega) (by omega) rfl W2.out ⟨w2.heap.size, 0, none⟩ 1 1 [.slice (some ⟨gR, 0, none⟩) nR cR] rfl rfl NW.out (fun u hu => by simp at hu; subst hu; rfl) (by omega) (by simp; omega) ?_; intro v5 w5 hO5 hg5))
        have z5 := hg5.size
        simp only [World.size_alloc] at z5
        have OI := fun b e => (ow_in W2.out b e).1
        have N1 := ow_nosi W2.out (by decide) (by decide)
        have N2 := ow_nop W2.out (by decide)
        have N3 := ow_nor W2.out (by decide)
        have V5 := Lib.hid (row_by V2.out hg5 (fun e => by have := OI _ e; omega))
        have D5 := Lib.hid (row_by D2.out hg5 (fun e => by have := OI _ e; omega))
        have B5 := Lib.hid (grown_below' B2.out hg5 (fun b e => by have := OI b e; omega) (by simp; omega))
        have OL := W2.out.1
        rw [Nat.mul_one] at OL
        have R5 := Lib.hid (show OrdR w5 w1.heap.size (some ⟨gO, 0, none⟩) m os from O2.out.bel (B' := w1.heap.size) (grown_below' (Below.refl _ _) hg5 (fun b e => OI b e) (by simp; omega)) (Nat.le_refl _))
        have T5 := Lib.hid (show ∀ k, k < i + 1 → SqAt w5 w5.heap.size N ((vs ++ [Value.slice (some ⟨gR, 0, none⟩) nR cR]).getD k undef) (r.getD k rs0) from fun k hk => by
          by_cases e : k < i
          · rw [List.getD_eq_getElem?_getD, List.getElem?_append_left (by omega), ← List.getD_eq_getElem?_getD]
            exact ((T2.out k e).more (B' := (w2.alloc (.cells #[.slice (some ⟨gR, 0, none⟩) nR cR] 79)).heap.size) (by simp; omega)).ty hg5 N1 N2 N3 |>.more (by simp; omega)
          · obtain rfl : k = i := by omega
            rw [List.getD_eq_getElem?_getD, List.getElem?_append_right (by omega), show k - vs.length = 0 from by omega, HX.out]
            exact (E2.out.ty hg5 N1 N2 N3).more (by omega))
        clear hg5 OI N1 N2 N3
        go_roundw
        case rel => exact ⟨i + 1, v5, _, _, rfl, by omega, by go_num, rfl, HF2, Lib.hid hO5, T5, R5, V5, D5, B5, by omega⟩
        case measure => (simp [intOf]; try omega)
    · obtain rfl : i = m := by omega
      have HFF := Lib.hid (show fitsF r = f by have := HF.out; rwa [List.take_of_length_le (by have := RLn.out; omega)] at this)
      obtain ⟨gV, cV, hv, hgV, hgVz, _⟩ := own_cell HO.out (i := 0) (by omega)
      have HCE := Lib.hid (fun k (hk : k < i) => own_cell HO.out hk)
      have HSI := Lib.hid HS.out
      subst hv
      clear HO HS
      go_wp2_with fail
      go_ret2
      rw [HR.out]
      refine ⟨.slice (some ⟨gV, 0, none⟩) i cV, by rw [HFF.out]; rfl, ⟨gV, cV, by rw [RLn.out], hgVz, hgVz, fun k hk => ?_⟩, HB.out⟩
      have hk' : k < i := by have := RLn.out; omega
      obtain ⟨g', c', e', _, _, hc'⟩ := HCE.out k hk'
      injection e' with e1 _ _
      injection e1 with e1
      injection e1 with e1
      subst e1
      exact ⟨_, hc', HSI.out k hk'⟩
end Go.Proofs.Ytjfmpnkbocilpaa
