/-
  FnChouette returns true for every code: the scores of a chouette add up to 0, and its order keeps all players. No condition.
-/
import Derived.Test.YtocdiflkegbffaaDrH
import Derived.Test.YtocdiflkegbffaaLike
import Derived.Test.YtocdiflkegbffaaHas
import Derived.StillTailTactics
namespace Go.Proofs.Ytocdiflkegbffaa
open Go.ChangeShapes Go.WideShapes Go.ChangeAt Go.RowKit
set_option linter.unusedVariables false

theorem okC_at {n : Nat} {X : Nat → List Int} {ln : Nat → Nat} : ∀ {N g : Nat}, okC n X ln N = true → g < N → outB n (ln g) (X g) = true
  | 0, g, _, h => absurd h (by omega)
  | N + 1, g, h, hg => by
    rw [okC, Bool.and_eq_true] at h
    by_cases e : g = N
    · subst e; exact h.2
    · exact okC_at h.1 (by omega)
theorem okC_le {n : Nat} {X : Nat → List Int} {ln : Nat → Nat} : ∀ {N g : Nat}, okC n X ln N = true → g ≤ N → okC n X ln g = true
  | 0, g, h, hg => by obtain rfl : g = 0 := by omega
                      exact h
  | N + 1, g, h, hg => by
    by_cases e : g = N + 1
    · subst e; exact h
    · rw [okC, Bool.and_eq_true] at h
      exact okC_le h.1 (by omega)
theorem chC_out {n N : Nat} {order : List Int} {X : Nat → List Int} {ln : Nat → Nat} (h : chC n order N X ln = 0) : N ≤ 60 ∧ ordB n order = true ∧ okC n X ln N = true := by
  unfold chC at h
  split at h
  · exact absurd h (by decide)
  · split at h
    · split at h
      · exact ⟨by omega, by assumption, by assumption⟩
      · exact absurd h (by decide)
    · exact absurd h (by decide)
theorem psum_bd8 {xs : List Int} {B : Int} {n : Nat} (h : ∀ i, i < n → -B ≤ xs.getD i 0 ∧ xs.getD i 0 ≤ B) : ∀ i, i ≤ n → -(i * B) ≤ psum xs i ∧ psum xs i ≤ i * B
  | 0, _ => by simp [psum]
  | i + 1, hi => by
    have ih := psum_bd8 h i (by omega)
    have hx := h i (by omega)
    rw [psum_succ]
    have e : ((i + 1 : Nat) : Int) * B = i * B + B := by push_cast; rw [Int.add_mul, Int.one_mul]
    rw [e]
    omega
/-- the results of a chouette that fits -/
def ChY (S : List Int) (m : Nat) (O : List Int) (w : World) (e : Ending) (w' : World) : Prop :=
  ∃ a1 c1 a2 c2, e = .returned (.tuple #[.slice a1 8 c1, .slice a2 m c2, .int .i64 0]) ∧ Ints w' w'.heap.size .i64 a1 8 S ∧ Ints w' w'.heap.size .i64 a2 m O ∧ Below w.heap.size w w'
def ChN (K : Int) (w : World) (e : Ending) (w' : World) : Prop :=
  ∃ a1 c1 a2 c2, e = .returned (.tuple #[.slice a1 0 c1, .slice a2 0 c2, .int .i64 K]) ∧ Below w.heap.size w w'
theorem ChsPost.toY {n N : Nat} {order : List Int} {X : Nat → List Int} {ln : Nat → Nat} {w w' : World} {e : Ending} (h : ChsPost n order N X ln w e w') (hl : order.length = n) (hK : chC n order N X ln = 0) : ChY (stC order X ln N).1 n (stC order X ln N).2 w e w' := by
  obtain ⟨a1, c1, a2, c2, l1, u1, l2, u2, he, h1, h2, _, hb⟩ := h
  have e1 : scL n order N X ln = (stC order X ln N).1 := by unfold scL; rw [if_pos hK]
  have e2 : orL n order N X ln = (stC order X ln N).2 := by unfold orL; rw [if_pos hK]
  have e3 := stC_len1 order X ln N
  have e4 := (stC_ord (X := X) (ln := ln) hl (chC_out hK).2.1 N).2
  rw [e1, e3] at h1 he
  rw [e2, e4] at h2 he
  rw [hK] at he
  exact ⟨a1, c1, a2, c2, he, h1.ints e3, h2.ints e4, hb⟩
theorem ChsPost.toN {n N : Nat} {order : List Int} {X : Nat → List Int} {ln : Nat → Nat} {w w' : World} {e : Ending} {K : Int} (h : ChsPost n order N X ln w e w') (hK : chC n order N X ln = K) (h0 : ¬ K = 0) : ChN K w e w' := by
  obtain ⟨a1, c1, a2, c2, l1, u1, l2, u2, he, h1, h2, _, hb⟩ := h
  have e1 : scL n order N X ln = [] := by unfold scL; rw [hK, if_neg h0]
  have e2 : orL n order N X ln = [] := by unfold orL; rw [hK, if_neg h0]
  rw [e1, e2, hK] at he
  exact ⟨a1, c1, a2, c2, he, hb⟩
theorem impl_ChouetteOrder_yes (a a' : Option Addr) (n c m c' : Nat) (xs ys : List Int) (w : World) (h : Ints w w.heap.size .i64 a n xs) (h' : Ints w w.heap.size .i64 a' m ys) (hnc : n ≤ c) (hm : m ≤ 1048576) (ho : ordB n xs = true) (hu : outB n m ys = true) :
    Calls Try.prog 32 #[.slice a n c, .slice a' m c'] w fun e w' => ∃ a2 c2, n ≤ c2 ∧ e = .returned (.tuple #[.slice a2 n c2, .int .i64 0]) ∧ Ints w' w'.heap.size .i64 a2 n (nextL xs (ys.getD 0 0)) ∧ Below w.heap.size w w' := by
  obtain ⟨n1, n2, _⟩ := ordB_out ho
  obtain ⟨m1, _⟩ := outB_out hu
  have m2 : 1 ≤ m := by omega
  have hn : n ≤ 1048576 := by omega
  have hk : (ordB n xs && outB n m ys) = true := by rw [ho, hu]; rfl
  have hlen := Lib.hid h.len
  have IC := Lib.hid (hk ▸ impl_IsChouette_any a a' n c m c' _ _ xs ys w h h' hnc hn hm)
  have NX := Lib.hid (nextOrder_any a a' n c m c' xs ys w h h' hnc n1 n2 m2 hm)
  clear m1 ho hu hk h h'
  go_enter Try.func32, Try.ntmps32
  go_wp2_with fail
  refine IC.out.mono ?_
  rintro e w1 ⟨rfl, rfl⟩
  go_wp2_with fail
  refine NX.out.mono ?_
  rintro e w2 ⟨a2, c2, hc, rfl, hr, hb2⟩
  go_wp2_with fail
  go_ret2
  exact ⟨a2, c2, hc, rfl, hr.ints (by rw [nextL_len (by rw [hlen.out]; exact n1), hlen.out]), hb2⟩

set_option maxRecDepth 16000 in
set_option maxHeartbeats 3200000 in
theorem walk_FnChouette (w : World) (ax0 : Option Addr) (nx0 cx0 : Nat) (x0 : List Int) (wx0 : IntsArg w .u8 ax0 nx0 x0) :
    Calls Try.prog 12 #[.slice ax0 nx0 cx0] w fun e w' => e = .returned (.bool true) ∧ Below w.heap.size w w' := by
  by_cases hbig : 4096 < (nx0 : Int)
  · have hd : decide (4096 < (nx0 : Int)) = true := decide_eq_true hbig
    go_enter Try.func12, Try.ntmps12
    go_wp2_with fail
    refine (big_any _ _ _ _).mono ?_
    rw [hd]
    rintro e w1 ⟨rfl, rfl⟩
    go_wp2_with fail
    go_ret
    exact ⟨rfl, Below.refl _ _⟩
  · have hd : decide (4096 < (nx0 : Int)) = false := decide_eq_false hbig
    have DR := Lib.hid (DrawChouetteScores_any ax0 nx0 cx0 x0 w wx0 (by omega))
    clear wx0 hbig
    go_enter Try.func12, Try.ntmps12
    go_wp2_with fail
    refine (big_any _ _ _ _).mono ?_
    rw [hd]
    rintro e w1 ⟨rfl, rfl⟩
    go_wp2_with fail
    refine DR.out.mono ?_
    rintro e w1 ⟨b, m, d, ys, av, N, cv, A, ln, C, X, rfl, ⟨m1, m5, md, hN⟩, hI, hG, hln, HB⟩
    have hlc : ∀ i, i < N → ln i ≤ 1048576 := fun i hi => by have := hln i hi; omega
    have IM := Lib.hid (fun W (h : Ints W W.heap.size .i64 (some ⟨b, 0, none⟩) m ys) (h' : Gms W W.heap.size av N A ln C X) => impl_ChouetteScores_any (some ⟨b, 0, none⟩) m d ys av N cv A ln C X W h h' md (fun h => by cases h) (by omega) (by omega) hlc)
    have SP := Lib.hid (fun W (h : Ints W W.heap.size .i64 (some ⟨b, 0, none⟩) m ys) (h' : Gms W W.heap.size av N A ln C X) => spec_ChouetteScores_any (some ⟨b, 0, none⟩) m d ys av N cv A ln C X W h h' (by omega) (by omega) hlc)
    have HLn := Lib.hid hln
    clear hln hlc DR hd
    by_cases hK : chC m ys N X ln = 0
    · obtain ⟨h60, ho, hok⟩ := chC_out hK
      have hlen := hI.len
      obtain ⟨S, hS⟩ : ∃ S, (stC ys X ln N).1 = S := ⟨_, rfl⟩
      obtain ⟨O, hO⟩ : ∃ O, (stC ys X ln N).2 = O := ⟨_, rfl⟩
      have IY := Lib.hid (fun W h h' => (IM.out W h h').mono (fun e w' q => show ChY S m O W e w' from hS ▸ hO ▸ q.toY hlen hK))
      have SY := Lib.hid (fun W h h' => (SP.out W h h').mono (fun e w' q => show ChY S m O W e w' from hS ▸ hO ▸ q.toY hlen hK))
      obtain ⟨hsb, hs0⟩ := stC_bd (X := X) (ln := ln) hlen ho N hok
      rw [hS] at hsb hs0
      have SB := Lib.hid (psum_bd8 hsb)
      have SB1 := Lib.hid hsb
      have S0 := Lib.hid hs0
      have OM := Lib.hid (fun i (hi : i < m) => show decide (ys.getD i 0 ∈ O) = true by
        refine decide_eq_true ?_
        rw [← hO, (stC_perm (X := X) (ln := ln) hlen (ordB_out ho).1 N).mem_iff]
        exact mem_getD (by rw [hlen]; exact hi) rfl)
      have OK := Lib.hid hok
      have HO := Lib.hid ho
      have HLEN := Lib.hid hlen
      have HOO := Lib.hid hO
      have hmm : ((m : Int) != (m : Int)) = false := by simp
      clear hK hok ho hlen hS hO hsb hs0 IM SP
      go_wp2_with fail
      refine (IY.out _ hI hG).mono ?_
      rintro e w2 ⟨a1, c1, a2, c2, rfl, hp, hq, hb⟩
      replace hI := (hI.below hb).more hb.size
      replace hG := (hG.below hb).more hb.size
      replace HB := HB.trans (hb.mono HB.size)
      clear hb
      go_wp2_with fail
      refine (SY.out _ hI hG).mono ?_
      rintro e w3 ⟨a3, c3, a4, c4, rfl, _, hr, hb⟩
      replace hI := (hI.below hb).more hb.size
      replace hG := (hG.below hb).more hb.size
      replace hp := (hp.below hb).more hb.size
      replace hq := (hq.below hb).more hb.size
      replace HB := HB.trans (hb.mono HB.size)
      have LK := Lib.hid (likeInts_same _ _ _ c2 c4 _ _ _ _ hq hr (by omega))
      clear hb hr
      go_wp2_with fail
      refine LK.out.mono ?_
      rintro e w4 ⟨rfl, nd, rfl⟩
      obtain ⟨W, hW⟩ : ∃ W, w3.drewN nd = W := ⟨_, rfl⟩
      have hI : Ints (w3.drewN nd) (w3.drewN nd).heap.size .i64 (some ⟨b, 0, none⟩) m ys := hI
      have hG : Gms (w3.drewN nd) (w3.drewN nd).heap.size av N A ln C X := hG
      have hp : Ints (w3.drewN nd) (w3.drewN nd).heap.size .i64 a1 8 S := hp
      have hq : Ints (w3.drewN nd) (w3.drewN nd).heap.size .i64 a2 m O := hq
      have HB := below_drewN HB nd
      rw [hW] at hI hG hp hq HB
      have HW := Lib.hid hW
      have HI := Lib.hid hI
      have HG := Lib.hid hG
      have HP := Lib.hid hp
      have HQ := Lib.hid hq
      have HBW := Lib.hid HB
      clear hW LK hI hG hp hq HB IY SY
      go_wp2_with fail
      rw [HW.out]
      clear HW
      go_loopw [12, 13] (fun nv gv wr => ∃ (a5 : Option Addr) (c5 g : Nat), nv = .slice a5 m c5 ∧ m ≤ c5 ∧ g ≤ N ∧ gv = .int .i64 (g : Int) ∧ Hid (Ints wr wr.heap.size .i64 a5 m (stC ys X ln g).2) ∧ Hid (Below W.heap.size W wr)) (fun _ gv _ => N - (intOf gv).toNat)
      case atStart => exact ⟨_, d, 0, rfl, md, Nat.zero_le _, rfl, HI, Lib.hid (Below.refl _ _)⟩
      case round =>
        obtain ⟨a5, c5, g, rfl, hc5, hgN, rfl, HA5, HBr⟩ := hrel
        by_cases hlt : g < N
        · obtain ⟨bg, og, hae, hbl, hcg⟩ := HG.out.1 (by omega)
          subst hae
          have x0 := (HBr.out.cell (p := ⟨bg, og + g, none⟩) hbl).trans (hcg g hlt)
          have GC := Lib.hid x0
          have hzr := HBr.out.size
          have hu := okC_at OK.out hlt
          have hog := (stC_ord (X := X) (ln := ln) HLEN.out HO.out g).1
          have hIg := ((HG.out.2 g hlt).below HBr.out).more HBr.out.size
          have hl16 := HLn.out g hlt
          have CO := Lib.hid (impl_ChouetteOrder_yes a5 (A g) m c5 (ln g) (C g) _ (X g) wr HA5.out hIg hc5 (by omega) hog hu)
          have ICH := Lib.hid (fun W2 (hb : Below wr.heap.size wr W2) => show Calls Try.prog 20 #[.slice a5 m c5, .slice (A g) (ln g) (C g)] W2 fun e w' => e = .returned (.bool true) ∧ W2 = w' by
            have h1 := impl_IsChouette_any a5 (A g) m c5 (ln g) (C g) _ _ (stC ys X ln g).2 (X g) W2 (HA5.out.below hb) (hIg.below hb) hc5 (by omega) (by omega)
            rw [hog, hu] at h1
            exact h1)
          have HS := Lib.hid (show (stC ys X ln (g + 1)).2 = nextL (stC ys X ln g).2 ((X g).getD 0 0) from rfl)
          clear hcg hu hog hIg
          go_wp2_with fail
          refine CO.out.mono ?_
          rintro e w5 ⟨a6, c6, hc6, rfl, hr6, hb6⟩
          have x0 := (hb6.cell (p := ⟨bg, og + g, none⟩) (by show bg < _; omega)).trans GC.out
          have HB6 := Lib.hid hb6
          have HR6 := Lib.hid hr6
          clear hb6 hr6
          go_wp2_with fail
          refine (ICH.out _ HB6.out).mono ?_
          rintro e w6 ⟨rfl, rfl⟩
          go_wp2_with fail
          go_roundw
          case rel => exact ⟨a6, c6, g + 1, rfl, hc6, by omega, by go_num, Lib.hid (by rw [HS.out]; exact HR6.out), Lib.hid (HBr.out.trans (HB6.out.mono HBr.out.size))⟩
          case measure => simp [intOf]; omega
        · obtain rfl : g = N := by omega
          have HPr := Lib.hid ((HP.out.below HBr.out).more HBr.out.size)
          have HQr := Lib.hid ((HQ.out.below HBr.out).more HBr.out.size)
          have HIr := Lib.hid ((HI.out.below HBr.out).more HBr.out.size)
          have HBF := Lib.hid (HBW.out.trans (HBr.out.mono HBW.out.size))
          rw [HOO.out] at HA5
          obtain ⟨bs, os, has, hbs, hcs⟩ := HPr.out.2 (by omega)
          subst has
          have SC := Lib.hid hcs
          clear hcs
          obtain ⟨wo, hwo⟩ : ∃ wo, wo = wr := ⟨_, rfl⟩
          subst hwo
          go_wp2_with fail
          go_loop [11, 16] (fun sv iv => ∃ (i : Nat) (s : Int), i ≤ 8 ∧ iv = .int .i64 (i : Int) ∧ sv = .int .i64 s ∧ Hid (s = psum S i)) (fun _ iv => 8 - (intOf iv).toNat)
          case atStart => exact ⟨0, 0, Nat.zero_le _, rfl, rfl, Lib.hid rfl⟩
          case round =>
            obtain ⟨i, s, hi8, rfl, rfl, hs⟩ := hrel
            by_cases hi : i < 8
            · have ci := SC.out i hi
              have hb1 := SB.out i (by omega)
              have hb2 := SB1.out i hi
              rw [← hs.out] at hb1
              obtain ⟨y, hy⟩ : ∃ y, S.getD i 0 = y := ⟨_, rfl⟩
              rw [hy] at ci hb2
              have hg60 : (g : Int) ≤ 60 := by omega
              have k1 : (i : Int) * (14000000 * (g : Int)) ≤ 8 * 840000000 := Int.mul_le_mul (by omega) (by omega) (by omega) (by omega)
              have s1 : -7000000000 ≤ s := by omega
              have s2 : s ≤ 7000000000 := by omega
              have y1 : -900000000 ≤ y := by omega
              have y2 : y ≤ 900000000 := by omega
              have HS2 : Hid (s + y = psum S (i + 1)) := Lib.hid (by rw [psum_succ, ← hs.out, hy])
              have hi' : (i : Int) < 8 := by omega
              clear hb1 hb2 hy k1 hg60
              go_wp2
              go_round
              case rel => exact ⟨i + 1, s + y, by omega, by go_num, rfl, HS2⟩
              case measure => simp [intOf]; omega
            · obtain rfl : i = 8 := by omega
              have hs0 : s = 0 := by rw [hs.out]; exact S0.out
              subst hs0
              obtain ⟨bo, oo, hao, hbo, hco⟩ := HIr.out.2 (by omega)
              have OC := Lib.hid hco
              obtain ⟨e1, e2⟩ : bo = b ∧ oo = 0 := by injection hao with h1; injection h1 with h1 h2; exact ⟨h1.symm, h2.symm⟩
              subst e1 e2
              clear hao hco
              go_wp2_with fail
              go_loop [17] (fun iv => ∃ (i : Nat), i ≤ m ∧ iv = .int .i64 (i : Int)) (fun iv => m - (intOf iv).toNat)
              case atStart => exact ⟨0, Nat.zero_le _, rfl⟩
              case round =>
                obtain ⟨i, him, rfl⟩ := hrel
                by_cases hi : i < m
                · have ci := OC.out i hi
                  rw [Nat.zero_add] at ci
                  have hm := OM.out i hi
                  obtain ⟨y, hy⟩ : ∃ y, ys.getD i 0 = y := ⟨_, rfl⟩
                  rw [hy] at ci hm
                  have HI3 := Lib.hid (hm ▸ hasInt_any a2 m c2 _ O y wo HQr.out (by omega))
                  clear hy hm
                  go_wp2_with fail
                  refine HI3.out.mono ?_
                  rintro e w6 ⟨rfl, rfl⟩
                  go_wp2_with fail
                  go_round
                  case rel => exact ⟨i + 1, by omega, by go_num⟩
                  case measure => simp [intOf]; omega
                · obtain rfl : i = m := by omega
                  have LK := Lib.hid (likeInts_same _ _ _ c5 c2 _ _ _ _ HA5.out HQr.out (by omega))
                  go_wp2_with fail
                  refine LK.out.mono ?_
                  rintro e w6 ⟨rfl, nd2, rfl⟩
                  go_wp2_with fail
                  go_ret
                  exact ⟨rfl, below_drewN HBF.out nd2⟩
    · obtain ⟨K, hKK⟩ : ∃ K, chC m ys N X ln = K := ⟨_, rfl⟩
      rw [hKK] at hK
      have IY := Lib.hid (fun W h h' => (IM.out W h h').mono (fun e w' q => show ChN K W e w' from q.toN hKK hK))
      have SY := Lib.hid (fun W h h' => (SP.out W h h').mono (fun e w' q => show ChN K W e w' from q.toN hKK hK))
      have hk0 : (K != 0) = true := by simpa using hK
      have hkk : (K != K) = false := by simp
      clear hKK IM SP hK
      go_wp2_with fail
      refine (IY.out _ hI hG).mono ?_
      rintro e w2 ⟨a1, c1, a2, c2, rfl, hb⟩
      replace hI := (hI.below hb).more hb.size
      replace hG := (hG.below hb).more hb.size
      replace HB := HB.trans (hb.mono HB.size)
      clear hb
      go_wp2_with fail
      refine (SY.out _ hI hG).mono ?_
      rintro e w3 ⟨a3, c3, a4, c4, rfl, hb⟩
      replace HB := HB.trans (hb.mono HB.size)
      have LK := Lib.hid (likeInts_same a2 a4 0 c2 c4 0 0 [] w3 Ints.nil Ints.nil (by omega))
      clear hb hI hG
      go_wp2_with fail
      refine LK.out.mono ?_
      rintro e w4 ⟨rfl, nd, rfl⟩
      have HBW := Lib.hid (below_drewN HB nd)
      clear HB
      go_wp2_with fail
      go_ret
      exact ⟨rfl, HBW.out⟩
namespace fnChouette
set_option linter.unusedVariables false
set_option maxRecDepth 100000 in
theorem lifted (os : Os) (started : os.Started) (H : Type) (enc : TypeId × Value → H) :
    ReturnsInHanded {} Try.checked os 12 .any (Rows.fnChouetteSpec.pre6 enc Try.prog Try.f12 Rows.fnChouetteRow.domain false) (Rows.fnChouetteSpec.post enc Try.prog Try.f12 false true false false) := by
  refine returnsInHanded_of_change (C := Try.checked) own started (by kernel_rfl) Try.func12
    (ChangeSpec.witness6 (enc := enc) (C := Try.checked) false ⟨#[], #[.slice none 0 0], []⟩ 8 (by kernel_rfl) (by kernel_rfl) (by kernel_rfl) (by kernel_rfl)) ?_
  intro W base args ds gs before hval0 hW hcnd _
  have hval : ∀ (j : Nat) t v, Try.f12.params[j]? = some t → args[j]? = some v → Value.okWide Try.prog W .any base t v := hval0
  have hW' := hW
  obtain ⟨p, q, hA0, hV, rfl, hfz, hnd⟩ := hW
  have hA : DataW.TrodAll enc Try.prog W 0 (fun _ => true) true Try.f12.params.toList args.toList ds p := hA0
  rw [Try.params12] at hA hval
  obtain ⟨v0, vs0, d0, ds0, p0, q0, hargs, rfl, rfl, h0, r0⟩ := trodAll_cons hA
  obtain ⟨rfl, rfl, rfl⟩ := trodAll_nil r0
  obtain rfl : args = #[v0] := by cases args; simp_all
  obtain ⟨rfl, rfl⟩ := trodVars_none hV
  obtain ⟨ax0, nx0, cx0, x0, rfl, wx0⟩ := open_ints_arg Try.underlying32 Try.underlying5 (by kernel_rfl) (hval 0 32 v0 rfl rfl) h0
  clear hA0 hval0
  refine (walk_FnChouette W ax0 nx0 cx0 x0 wx0).mono fun e W' ⟨he, bel⟩ => ?_
  subst he
  exact ⟨_, rfl, _, _, _, [], _, [], hW', trodAll_mk1 (shut_bool Try.underlying4 _), (trodAll_cons_mk (Below.trod laidOut (by kernel_rfl) (of_decide_eq_true (by kernel_rfl)) h0 bel (lt_of_trod h0)) trodAll_mk0), rfl, bel.frame _, fun h => by cases h⟩

theorem over : Rows.fnChouetteRow.holds Try.pinned (OpenSpec.ofChange Rows.fnChouetteSpec) :=
  OpenClaim.holds_of_wide 12 Try.f12 rfl rfl rfl rfl rfl rfl rfl ⟨rfl, rfl, rfl, rfl, rfl⟩ rfl rfl rfl rfl rfl (by kernel_rfl) Try.func12 (by kernel_rfl)
    (of_decide_eq_true (by kernel_rfl)) (by unfold Func.isWrapper; first | (rw [if_pos (by decide +kernel)]; kernel_rfl) | (rw [if_neg (by decide +kernel)]; exact ⟨rfl, rfl⟩))
    (fun os started H enc _ => lifted os started H enc)
theorem proved : Rows.FnChouetteSaid := over
#print axioms proved
end fnChouette
end Go.Proofs.Ytocdiflkegbffaa
