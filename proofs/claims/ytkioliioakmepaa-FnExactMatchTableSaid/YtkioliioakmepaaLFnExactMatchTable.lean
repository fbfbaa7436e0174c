/-
  FnExactMatchTable returns true for all arguments: MatchTable of the program and of the reference agree in the table and the code, the model is left as it was, and the table is new memory. No condition.
-/
import Derived.Test.YtkioliioakmepaaMtb
import Derived.StillTailTactics
import Derived.Deep.RegionHeld3
namespace Go.Proofs.Ytkioliioakmepaa
open Go.ChangeShapes Go.WideShapes Go.ChangeAt Go.RowKit
set_option linter.unusedVariables false

theorem Out.bel {lo hi B : Nat} {a b : World} (ho : Out lo hi a b) (hB : B ≤ lo) (hz : B ≤ a.heap.size) : Below B a b := ⟨ho.os, ho.tape, ho.output, ho.size, fun i hi => ho.block i (by omega) (.inl (by omega))⟩
set_option maxHeartbeats 800000 in
theorem markMatchModel_any (M : Mm) (l1 u1 l2 u2 l3 u3 lo hi : Nat) (t : TypeId) (f1 f2 f3 : Nat → Value) (k : Int) (w : World) (h1 : RowN w l1 u1 t M.a M.n f1) (h2 : RowN w l2 u2 t M.b M.m f2) (h3 : RowN w l3 u3 t M.e M.p f3)
    (q1 : u1 ≤ l2) (q2 : u2 ≤ l3) (hlo : lo ≤ l1) (hhi : u3 ≤ hi) (hl1 : l1 ≤ u1) (hl2 : l2 ≤ u2) (hl3 : l3 ≤ u3) (hz : hi ≤ w.heap.size) (hk : 0 ≤ k) (hk2 : k ≤ 1048576) (hs : M.sz) :
    Calls Try.prog 39 #[.agg #[.slice M.a M.n M.c, .slice M.b M.m M.d, .slice M.e M.p M.f], .int .i64 k] w fun e w' => e = .returned (.int .i64 (k + M.n + M.m + M.p)) ∧ Out lo hi w w' := by
  have HB0 := (Below.refl w.heap.size w).alloc (Nat.le_refl _) (.cells #[.slice M.a M.n M.c, .slice M.b M.m M.d, .slice M.e M.p M.f] 26)
  have R0 := Lib.hid (three_new w (.slice M.a M.n M.c) (.slice M.b M.m M.d) (.slice M.e M.p M.f) 26)
  have H1 := Lib.hid (h1.below HB0)
  have H2 := Lib.hid (h2.below HB0)
  have H3 := Lib.hid (h3.below HB0)
  have hn : M.n ≤ 1048576 ∧ M.m ≤ 1048576 ∧ M.p ≤ 1048576 := by unfold Mm.sz at hs; omega
  obtain ⟨n1, n2, n3⟩ := hn
  have O0 : Hid (Out lo hi w (w.alloc (.cells #[.slice M.a M.n M.c, .slice M.b M.m M.d, .slice M.e M.p M.f] 26))) := Lib.hid ⟨HB0.os, HB0.tape, HB0.output, HB0.size, fun i h _ => HB0.block i h⟩
  clear h1 h2 h3 hs HB0
  go_enter Try.func39, Try.ntmps39
  go_wp2_with fail
  refine (markInt64S_any _ _ _ _ _ _ _ _ _ H1.out hk (by omega) n1).mono ?_
  rintro e w1 ⟨rfl, _, ho1⟩
  have R1 := Lib.hid (R0.out.of_block (ho1.block w.heap.size (by simp) (.inr (by omega))))
  have O1 := Lib.hid (O0.out.trans (ho1.wide hlo (by omega)))
  have H2' := Lib.hid (H2.out.out ho1 (by omega))
  have H3' := Lib.hid (H3.out.out ho1 (by omega))
  have z1 := ho1.size
  simp only [World.size_alloc] at z1
  obtain ⟨c0, c1, c2⟩ := three_cells R1.out
  clear ho1
  go_wp2_with fail
  refine (markInt64S_any _ _ _ _ _ _ _ _ _ H2'.out (by omega) (by omega) n2).mono ?_
  rintro e w2 ⟨rfl, _, ho2⟩
  have R2 := Lib.hid (R1.out.of_block (ho2.block w.heap.size (by omega) (.inr (by omega))))
  have O2 := Lib.hid (O1.out.trans (ho2.wide (by omega) (by omega)))
  have H3'' := Lib.hid (H3'.out.out ho2 (by omega))
  clear ho2 c0 c1 c2
  obtain ⟨c0, c1, c2⟩ := three_cells R2.out
  go_wp2_with fail
  refine (markInt64S_any _ _ _ _ _ _ _ _ _ H3''.out (by omega) (by omega) n3).mono ?_
  rintro e w3 ⟨rfl, _, ho3⟩
  have O3 := Lib.hid (O2.out.trans (ho3.wide (by omega) (by omega)))
  clear ho3
  go_wp2_with fail
  go_ret
  exact ⟨rfl, O3.out⟩

/-- what both MatchTable return, said of N lists of N shares -/
def MtQ (N : Nat) (C : Int) (F : Nat → List Int) (w : World) (e : Ending) (w' : World) : Prop :=
  ∃ a c, e = .returned (.tuple #[.slice a N c, .int .i64 C]) ∧ Rss w' w.heap.size w'.heap.size a N N (fun i => icell .i64 (F i)) ∧ Below w.heap.size w w'
theorem mtbN_le (M : Mm) (len : Int) : mtbN M len ≤ 9 := by
  unfold mtbN
  split
  · rename_i h
    have h1 : wB len 1 9 = true := by
      unfold mtbC at h
      split at h
      · split at h
        · assumption
        · exact absurd h (by decide)
      · exact absurd h (by decide)
    have := wB_true.1 h1
    omega
  · omega
theorem MtPost.q {K M : Mm} {len : Int} {N : Nat} {C : Int} {w w' : World} {e : Ending} (h : MtPost K len w e w') (hk : Sm K M) (hN : mtbN M len = N) (hC : mtbC M len = C) : MtQ N C (fun i => rowL M (i + 1) N) w e w' := by
  obtain ⟨a, c, he, hr, hb⟩ := h
  rw [hk.mtbN, hk.mtbC, hN, hC] at he
  rw [hk.mtbN, hN] at hr
  refine ⟨a, c, he, ?_, hb⟩
  by_cases h0 : N = 0
  · exact .inl h0
  · have hl : len.toNat = N := by
      unfold mtbN at hN
      split at hN
      · exact hN
      · exact absurd hN.symm h0
    rw [hl] at hr
    have e : (fun i => icell .i64 (rowL K (i + 1) N)) = (fun i => icell .i64 (rowL M (i + 1) N)) := by
      funext i
      rw [hk.rowL]
    rw [e] at hr
    exact hr

set_option maxRecDepth 16000 in
set_option maxHeartbeats 2400000 in
theorem walk_FnExactMatchTable (w : World) (ax0 : Option Addr) (nx0 cx0 : Nat) (x0 : List Int) (bx0 : Option Addr) (mx0 dx0 : Nat) (yx0 : List Int) (ex0 : Option Addr) (px0 fx0 : Nat) (zx0 : List Int) (wx0 : IntsArg w .i64 ax0 nx0 x0 ∧ IntsArg w .i64 bx0 mx0 yx0 ∧ IntsArg w .i64 ex0 px0 zx0) (x1 : Int) (wx1 : (Lit.int .i64 x1).wf = true) :
    Calls Try.prog 8 #[mmV ax0 nx0 cx0 bx0 mx0 dx0 ex0 px0 fx0, .int .i64 x1] w fun e w' => e = .returned (.bool true) ∧ Below w.heap.size w w' := by
  obtain ⟨W1, W2, W3⟩ := wx0
  obtain ⟨M, hMd⟩ : ∃ M : Mm, M = ⟨ax0, nx0, cx0, bx0, mx0, dx0, ex0, px0, fx0, x0, yx0, zx0⟩ := ⟨_, rfl⟩
  have hA : M.at w w.heap.size := by rw [hMd]; exact IntsArg.at3 W1 W2 W3
  have hn1 : M.n ≤ maxLen := by rw [hMd]; exact W1.2.1
  have hn2 : M.m ≤ maxLen := by rw [hMd]; exact W2.2.1
  have hn3 : M.p ≤ maxLen := by rw [hMd]; exact W3.2.1
  have hv : mmV ax0 nx0 cx0 bx0 mx0 dx0 ex0 px0 fx0 = .agg #[.slice M.a M.n M.c, .slice M.b M.m M.d, .slice M.e M.p M.f] := by rw [hMd]
  rw [hv]
  clear W1 W2 W3 hMd hv
  have HB := (Below.refl w.heap.size w).alloc (Nat.le_refl _) (.cells #[.slice M.a M.n M.c, .slice M.b M.m M.d, .slice M.e M.p M.f] 36)
  by_cases hbig : 1048576 < M.n + M.m + M.p
  · have HS := Lib.hid (fun W => szMatchModel_no M W hn1 hn2 hn3 hbig)
    clear hA hn1 hn2 hn3 hbig
    go_enter Try.func8, Try.ntmps8
    go_wp2_with fail
    refine (HS.out _).mono ?_
    rintro e w1 ⟨rfl, hb⟩
    go_wp2_with fail
    go_ret
    exact ⟨rfl, HB.trans (hb.mono HB.size)⟩
  · have hs : M.sz := by unfold Mm.sz; omega
    have HSZ := Lib.hid hs
    have HS := Lib.hid (fun W => szMatchModel_yes M W hs)
    obtain ⟨Z, hZ⟩ : ∃ Z : Int, (1048576 : Int) - M.n - M.m - M.p = Z := ⟨_, rfl⟩
    have hz0 : 0 ≤ Z := by omega
    have hzn : decide (Z < 0) = false := decide_eq_false (by omega)
    rw [hZ] at HS
    obtain ⟨N, hN⟩ : ∃ N, mtbN M x1 = N := ⟨_, rfl⟩
    obtain ⟨C, hC⟩ : ∃ C, mtbC M x1 = C := ⟨_, rfl⟩
    have hN9 : N ≤ 9 := by rw [← hN]; exact mtbN_le M x1
    obtain ⟨F, hF⟩ : ∃ F : Nat → List Int, (fun i => rowL M (i + 1) N) = F := ⟨_, rfl⟩
    have FL := Lib.hid (fun i (_ : i < N) => show (F i).length = N * 2 by rw [← hF]; exact rowL_len M (i + 1) N)
    have SP := Lib.hid (fun (K : Mm) (h : Sm K M) (W : World) (hK : K.at W W.heap.size) => (spec_MatchTable_any K x1 W hK (h.sz hs)).mono fun e w' hp => hF ▸ hp.q h hN hC)
    have IM := Lib.hid (fun (K : Mm) (h : Sm K M) (W : World) (hK : K.at W W.heap.size) => (impl_MatchTable_any K x1 W hK (h.sz hs)).mono fun e w' hp => hF ▸ hp.q h hN hC)
    obtain ⟨P, hP⟩ : ∃ P : Nat, N * (N * 2) = P := ⟨_, rfl⟩
    have hP9 : P ≤ 162 := by
      rw [← hP]
      exact Nat.le_trans (Nat.mul_le_mul hN9 (Nat.mul_le_mul_right 2 hN9)) (by decide)
    have MK := Lib.hid (fun a c lo hi f W (h : Rss W lo hi a N N f) => hP ▸ markShareSS_any a N c N lo hi f 1 W h (by omega) (by omega) hN9 hN9)
    have HE := Lib.hid (fun a c lo hi W (h : Rss W lo hi a N N (markss 1 N)) => hP ▸ heldShareSS_any a N c N lo hi 1 W h (by omega) (by omega) hN9 hN9)
    have EQ := Lib.hid (fun a a' c c' lo hi lo' hi' W (h : Rss W lo hi a N N (fun i => icell .i64 (F i))) (h' : Rss W lo' hi' a' N N (fun i => icell .i64 (F i))) => eqShareSS_same a a' N c c' N lo hi lo' hi' F W h h' FL.out (by omega) (by omega))
    have hcc : (C != C) = false := by simp
    have hpp : ((1 + (P : Int)) != (1 + (P : Int))) = false := by simp
    have hpn : decide (1 + (P : Int) < 0) = false := decide_eq_false (by omega)
    have hkn : decide (1 + (M.n : Int) + M.m + M.p < 0) = false := decide_eq_false (by omega)
    have R := Lib.hid (three_new w (.slice M.a M.n M.c) (.slice M.b M.m M.d) (.slice M.e M.p M.f) 36)
    replace hA := hA.keep HB
    clear hn1 hn2 hn3 hbig hZ hN hC hF hP hs
    go_enter Try.func8, Try.ntmps8
    go_wp2_with fail
    refine (HS.out _).mono ?_
    rintro e w1 ⟨rfl, hb⟩
    have z1 := hb.size
    simp only [World.size_alloc] at z1
    replace hA := hA.keep (hb.mono HB.size)
    replace R := Lib.hid (rowIs_below R.out hb R.out.lt)
    replace HB := HB.trans (hb.mono HB.size)
    clear hb
    obtain ⟨l00, l01, l02⟩ := three_cells R.out
    go_wp2_with fail
    clear l00 l01 l02
    refine (toMm_cp M _ (hA.more HB.size) HSZ.out).mono ?_
    rintro e w2 ⟨K1, rfl, hk1, ak1, hb⟩
    have z2 := hb.size
    replace hA := hA.keep (hb.mono HB.size)
    replace R := Lib.hid (rowIs_below R.out hb R.out.lt)
    replace HB := HB.trans (hb.mono HB.size)
    clear hb
    have HK1 := Lib.hid hk1
    clear hk1
    go_wp2_with fail
    refine (SP.out K1 HK1.out _ ak1).mono ?_
    rintro e w3 ⟨a1, c1, rfl, hs1, hb⟩
    have z3 := hb.size
    replace hA := hA.keep (hb.mono HB.size)
    replace R := Lib.hid (rowIs_below R.out hb R.out.lt)
    replace HB := HB.trans (hb.mono HB.size)
    clear hb
    clear ak1
    obtain ⟨l00, l01, l02⟩ := three_cells R.out
    go_wp2_with fail
    clear l00 l01 l02
    refine (toMatchModel_any M _ (hA.more HB.size) HSZ.out).mono ?_
    rintro e w4 ⟨g1, g2, g3, k1, k2, rfl, hr1, hr2, hr3, q1, q2, q3, hb⟩
    have z4 := hb.size
    replace hA := hA.keep (hb.mono HB.size)
    replace R := Lib.hid (rowIs_below R.out hb R.out.lt)
    replace hs1 := hs1.below hb
    replace HB := HB.trans (hb.mono HB.size)
    clear hb
    go_wp2_with fail
    have hb := (Below.refl w4.heap.size w4).alloc (Nat.le_refl _) (.cells #[.slice (some ⟨g1, 0, none⟩) M.n M.n, .slice (some ⟨g2, 0, none⟩) M.m M.m, .slice (some ⟨g3, 0, none⟩) M.p M.p] 26)
    have hq := three_new w4 (.slice (some ⟨g1, 0, none⟩) M.n M.n) (.slice (some ⟨g2, 0, none⟩) M.m M.m) (.slice (some ⟨g3, 0, none⟩) M.p M.p) 26
    obtain ⟨w5, hw5⟩ : ∃ x, x = w4.alloc (.cells #[.slice (some ⟨g1, 0, none⟩) M.n M.n, .slice (some ⟨g2, 0, none⟩) M.m M.m, .slice (some ⟨g3, 0, none⟩) M.p M.p] 26) := ⟨_, rfl⟩
    rw [← hw5] at hb hq
    have z5 : w4.heap.size + 1 = w5.heap.size := by rw [hw5]; simp
    replace hA := hA.keep (hb.mono HB.size)
    replace R := Lib.hid (rowIs_below R.out hb R.out.lt)
    replace hs1 := hs1.below hb
    replace hr1 := hr1.below hb
    replace hr2 := hr2.below hb
    replace hr3 := hr3.below hb
    replace HB := HB.trans (hb.mono HB.size)
    clear hb
    have X := Lib.hid hq
    rw [← hw5]
    clear hq hw5
    obtain ⟨J, hJ⟩ : ∃ J : Mm, J = ⟨some ⟨g1, 0, none⟩, M.n, M.n, some ⟨g2, 0, none⟩, M.m, M.m, some ⟨g3, 0, none⟩, M.p, M.p, M.xs, M.ys, M.zs⟩ := ⟨_, rfl⟩
    have HJ : Hid (Sm J M) := Lib.hid (by rw [hJ]; exact ⟨rfl, rfl, rfl, rfl, rfl, rfl⟩)
    have aJ : J.at w5 w5.heap.size := by rw [hJ]; exact ⟨hr1.ints hA.1.len, hr2.ints hA.2.1.len, hr3.ints hA.2.2.len⟩
    replace hr1 : RowN w5 w3.heap.size k1 2 J.a J.n (icell .i64 M.xs) := by rw [hJ]; exact hr1
    replace hr2 : RowN w5 k1 k2 2 J.b J.m (icell .i64 M.ys) := by rw [hJ]; exact hr2
    replace hr3 : RowN w5 k2 w4.heap.size 2 J.e J.p (icell .i64 M.zs) := by rw [hJ]; exact hr3
    replace X : Hid (w5.rowIs w4.heap.size 26 3 (three (.slice J.a J.n J.c) (.slice J.b J.m J.d) (.slice J.e J.p J.f))) := by rw [hJ]; exact X
    have HJZ := Lib.hid (HJ.out.sz HSZ.out)
    have hJ1 : J.n = M.n := by rw [hJ]
    have hJ2 : J.m = M.m := by rw [hJ]
    have hJ3 : J.p = M.p := by rw [hJ]
    have HJ1 := Lib.hid hJ1
    have HJ2 := Lib.hid hJ2
    have HJ3 := Lib.hid hJ3
    have IMJ := IM.out J HJ.out w5 aJ
    rw [hJ] at IMJ
    clear hJ hJ1 hJ2 hJ3
    refine IMJ.mono ?_
    rintro e w6 ⟨a2, c2, rfl, hs2, hb⟩
    have z6 := hb.size
    replace hA := hA.keep (hb.mono HB.size)
    replace R := Lib.hid (rowIs_below R.out hb R.out.lt)
    replace hs1 := hs1.below hb
    replace hr1 := hr1.below hb
    replace hr2 := hr2.below hb
    replace hr3 := hr3.below hb
    replace X := Lib.hid (rowIs_below X.out hb X.out.lt)
    replace aJ := (aJ.keep hb).more hb.size
    replace HB := HB.trans (hb.mono HB.size)
    clear hb
    clear IMJ
    go_wp2_with fail
    refine (EQ.out _ _ _ _ _ _ _ _ _ hs2 hs1).mono ?_
    rintro e w7 ⟨rfl, hb⟩
    have z7 := hb.size
    replace hA := hA.keep (hb.mono HB.size)
    replace R := Lib.hid (rowIs_below R.out hb R.out.lt)
    replace hs1 := hs1.below hb
    replace hr1 := hr1.below hb
    replace hr2 := hr2.below hb
    replace hr3 := hr3.below hb
    replace X := Lib.hid (rowIs_below X.out hb X.out.lt)
    replace aJ := (aJ.keep hb).more hb.size
    replace hs2 := hs2.below hb
    replace HB := HB.trans (hb.mono HB.size)
    clear hb
    obtain ⟨l00, l01, l02⟩ := three_cells R.out
    obtain ⟨l10, l11, l12⟩ := three_cells X.out
    go_wp2_with fail
    replace hA := hA.drew
    replace R := Lib.hid (rowIs_drewN R.out 1)
    replace hs1 := hs1.drew
    replace hr1 := hr1.drew
    replace hr2 := hr2.drew
    replace hr3 := hr3.drew
    replace X := Lib.hid (rowIs_drewN X.out 1)
    replace aJ : J.at w7.drew w7.drew.heap.size := aJ.drew
    replace hs2 := hs2.drew
    replace HB : Below w.heap.size w w7.drew := below_drewN HB 1
    have zd7 : w7.drew.heap.size = w7.heap.size := rfl
    go_region_held3 (fun w' => w'.cell? ⟨w.heap.size, 0, none⟩ = some (.slice M.a M.n M.c) ∧ w'.cell? ⟨w.heap.size, 1, none⟩ = some (.slice M.b M.m M.d) ∧ w'.cell? ⟨w.heap.size, 2, none⟩ = some (.slice M.e M.p M.f) ∧ w'.cell? ⟨w4.heap.size, 0, none⟩ = some (.slice J.a J.n J.c) ∧ w'.cell? ⟨w4.heap.size, 1, none⟩ = some (.slice J.b J.m J.d) ∧ w'.cell? ⟨w4.heap.size, 2, none⟩ = some (.slice J.e J.p J.f))
      (go_keep)
      (first
        | (go_at_call 25; refine (toMm_cp M _ (hA.more HB.size) HSZ.out).mono ?_; rintro e w8 ⟨K2, rfl, hk2, ak2, hb⟩; have z8 := hb.size; replace hA := hA.keep (hb.mono HB.size); replace R := Lib.hid (rowIs_below R.out hb R.out.lt); replace hs1 := hs1.below hb; replace hr1 := hr1.below hb; replace hr2 := hr2.below hb; replace hr3 := hr3.below hb; replace X := Lib.hid (rowIs_below X.out hb X.out.lt); replace aJ := (aJ.keep hb).more hb.size; replace hs2 := hs2.below hb; replace HB := HB.trans (hb.mono HB.size); clear hb; have HK2 := Lib.hid hk2; clear hk2; obtain ⟨y8_00, y8_01, y8_02⟩ := three_cells R.out; obtain ⟨y8_10, y8_11, y8_12⟩ := three_cells X.out)
        | (go_at_call 28; refine (eqMm_cp J K2 _ aJ ak2 (HJ.out.two HK2.out) HJZ.out).mono ?_; rintro e w9 ⟨rfl, hb⟩; have z9 := hb.size; replace hA := hA.keep (hb.mono HB.size); replace R := Lib.hid (rowIs_below R.out hb R.out.lt); replace hs1 := hs1.below hb; replace hr1 := hr1.below hb; replace hr2 := hr2.below hb; replace hr3 := hr3.below hb; replace X := Lib.hid (rowIs_below X.out hb X.out.lt); replace aJ := (aJ.keep hb).more hb.size; replace hs2 := hs2.below hb; replace HB := HB.trans (hb.mono HB.size); clear hb; obtain ⟨y9_00, y9_01, y9_02⟩ := three_cells R.out; obtain ⟨y9_10, y9_11, y9_12⟩ := three_cells X.out))
    clear ak2 l00 l01 l02 l10 l11 l12 y8_00 y8_01 y8_02 y8_10 y8_11 y8_12 y9_00 y9_01 y9_02 y9_10 y9_11 y9_12
    obtain ⟨l00, l01, l02⟩ := three_cells X.out
    go_wp2_with fail
    clear l00 l01 l02
    refine (markMatchModel_any J _ _ _ _ _ _ w3.heap.size w4.heap.size _ _ _ _ 1 _ hr1 hr2 hr3 (Nat.le_refl _) (Nat.le_refl _) (Nat.le_refl _) (Nat.le_refl _) (by omega) (by omega) (by omega) (by omega) (by omega) (by omega) HJZ.out).mono ?_
    rintro e w10 ⟨rfl, ho⟩
    have z10 := ho.size
    replace hA := hA.keep (ho.bel (by omega) HB.size)
    replace R := Lib.hid (R.out.of_block (ho.block _ R.out.lt (by omega)))
    replace hs1 := hs1.out ho (by omega)
    replace X := Lib.hid (X.out.of_block (ho.block _ X.out.lt (by omega)))
    replace hs2 := hs2.out ho (by omega)
    replace HB := Out.below HB ho (by omega)
    clear ho
    rw [HJ1.out, HJ2.out, HJ3.out]
    clear hr1 hr2 hr3 aJ
    go_wp2_with fail
    refine (EQ.out _ _ _ _ _ _ _ _ _ hs2 hs1).mono ?_
    rintro e w11 ⟨rfl, hb⟩
    have z11 := hb.size
    replace hA := hA.keep (hb.mono HB.size)
    replace R := Lib.hid (rowIs_below R.out hb R.out.lt)
    replace hs1 := hs1.below hb
    replace X := Lib.hid (rowIs_below X.out hb X.out.lt)
    replace hs2 := hs2.below hb
    replace HB := HB.trans (hb.mono HB.size)
    clear hb
    go_wp2_with fail
    refine (MK.out _ _ _ _ _ _ hs2).mono ?_
    rintro e w12 ⟨rfl, hm, ho⟩
    have z12 := ho.size
    replace hA := hA.keep (ho.bel (by omega) HB.size)
    replace R := Lib.hid (R.out.of_block (ho.block _ R.out.lt (by omega)))
    replace hs1 := hs1.out ho (by omega)
    replace X := Lib.hid (X.out.of_block (ho.block _ X.out.lt (by omega)))
    replace HB := Out.below HB ho (by omega)
    clear ho
    replace hs2 := hm
    clear hm
    go_wp2_with fail
    refine (HE.out _ _ _ _ _ hs2).mono ?_
    rintro e w' ⟨rfl, rfl⟩
    obtain ⟨l00, l01, l02⟩ := three_cells R.out
    go_wp2_with fail
    clear l00 l01 l02
    refine (toMm_cp M _ (hA.more HB.size) HSZ.out).mono ?_
    rintro e w13 ⟨K3, rfl, hk3, ak3, hb⟩
    have z13 := hb.size
    replace hA := hA.keep (hb.mono HB.size)
    replace R := Lib.hid (rowIs_below R.out hb R.out.lt)
    replace hs1 := hs1.below hb
    replace X := Lib.hid (rowIs_below X.out hb X.out.lt)
    replace hs2 := hs2.below hb
    replace HB := HB.trans (hb.mono HB.size)
    clear hb
    have HK3 := Lib.hid hk3
    clear hk3
    go_wp2_with fail
    refine (IM.out K3 HK3.out _ ak3).mono ?_
    rintro e w14 ⟨a3, c3, rfl, hs3, hb⟩
    have z14 := hb.size
    replace hA := hA.keep (hb.mono HB.size)
    replace R := Lib.hid (rowIs_below R.out hb R.out.lt)
    replace hs1 := hs1.below hb
    replace X := Lib.hid (rowIs_below X.out hb X.out.lt)
    replace hs2 := hs2.below hb
    replace HB := HB.trans (hb.mono HB.size)
    clear hb
    clear ak3
    go_wp2_with fail
    refine (EQ.out _ _ _ _ _ _ _ _ _ hs3 hs1).mono ?_
    rintro e w15 ⟨rfl, hb⟩
    have z15 := hb.size
    replace hA := hA.keep (hb.mono HB.size)
    replace R := Lib.hid (rowIs_below R.out hb R.out.lt)
    replace hs1 := hs1.below hb
    replace X := Lib.hid (rowIs_below X.out hb X.out.lt)
    replace hs2 := hs2.below hb
    replace hs3 := hs3.below hb
    replace HB := HB.trans (hb.mono HB.size)
    clear hb
    go_wp2_with fail
    refine (HE.out _ _ _ _ _ hs2).mono ?_
    rintro e w' ⟨rfl, rfl⟩
    go_wp2_with fail
    go_ret
    exact ⟨rfl, HB⟩
namespace fnExactMatchTable
set_option linter.unusedVariables false
set_option maxRecDepth 100000 in
theorem lifted (os : Os) (started : os.Started) (H : Type) (enc : TypeId × Value → H) :
    ReturnsInHanded {} Try.checked os 8 .any (Rows.fnExactMatchTableSpec.pre6 enc Try.prog Try.f8 Rows.fnExactMatchTableRow.domain false) (Rows.fnExactMatchTableSpec.post enc Try.prog Try.f8 false true false false) := by
  refine returnsInHanded_of_change (C := Try.checked) own started (by kernel_rfl) Try.func8
    (ChangeSpec.witness6 (enc := enc) (C := Try.checked) false ⟨#[], #[.agg #[.slice none 0 0, .slice none 0 0, .slice none 0 0], .int .i64 0], []⟩ 8 (by kernel_rfl) (by kernel_rfl) (by kernel_rfl) (by kernel_rfl)) ?_
  intro W base args ds gs before hval0 hW hcnd _
  have hval : ∀ (j : Nat) t v, Try.f8.params[j]? = some t → args[j]? = some v → Value.okWide Try.prog W .any base t v := hval0
  have hW' := hW
  obtain ⟨p, q, hA0, hV, rfl, hfz, hnd⟩ := hW
  have hA : DataW.TrodAll enc Try.prog W 0 (fun _ => true) true Try.f8.params.toList args.toList ds p := hA0
  rw [Try.params8] at hA hval
  obtain ⟨v0, vs0, d0, ds0, p0, q0, hargs, rfl, rfl, h0, r0⟩ := trodAll_cons hA
  obtain ⟨v1, vs1, d1, ds1, p1, q1, rfl, rfl, rfl, h1, r1⟩ := trodAll_cons r0
  obtain ⟨rfl, rfl, rfl⟩ := trodAll_nil r1
  obtain rfl : args = #[v0, v1] := by cases args; simp_all
  obtain ⟨rfl, rfl⟩ := trodVars_none hV
  obtain ⟨ax0, nx0, cx0, x0, bx0, mx0, dx0, yx0, ex0, px0, fx0, zx0, rfl, wx0⟩ := open_mm (hval 0 36 v0 rfl rfl) h0
  obtain ⟨x1, rfl, _, _, wx1⟩ := open_int Try.underlying2 (hval 1 2 v1 rfl rfl) h1
  clear hA0 hval0
  refine (walk_FnExactMatchTable W ax0 nx0 cx0 x0 bx0 mx0 dx0 yx0 ex0 px0 fx0 zx0 wx0 x1 wx1).mono fun e W' ⟨he, bel⟩ => ?_
  subst he
  exact ⟨_, rfl, _, _, _, [], _, [], hW', trodAll_mk1 (shut_bool Try.underlying4 _), (trodAll_cons_mk (Below.trod laidOut (by kernel_rfl) (of_decide_eq_true (by kernel_rfl)) h0 bel (lt_of_trod h0)) (trodAll_cons_mk (Below.trod laidOut (by kernel_rfl) (of_decide_eq_true (by kernel_rfl)) h1 bel (lt_of_trod h1)) trodAll_mk0)), rfl, bel.frame _, fun h => by cases h⟩

theorem over : Rows.fnExactMatchTableRow.holds Try.pinned (OpenSpec.ofChange Rows.fnExactMatchTableSpec) :=
  OpenClaim.holds_of_wide 8 Try.f8 rfl rfl rfl rfl rfl rfl rfl ⟨rfl, rfl, rfl, rfl, rfl⟩ rfl rfl rfl rfl rfl (by kernel_rfl) Try.func8 (by kernel_rfl)
    (of_decide_eq_true (by kernel_rfl)) (by unfold Func.isWrapper; first | (rw [if_pos (by decide +kernel)]; kernel_rfl) | (rw [if_neg (by decide +kernel)]; exact ⟨rfl, rfl⟩))
    (fun os started H enc _ => lifted os started H enc)
theorem proved : Rows.FnExactMatchTableSaid := over
#print axioms proved
end fnExactMatchTable
end Go.Proofs.Ytkioliioakmepaa
