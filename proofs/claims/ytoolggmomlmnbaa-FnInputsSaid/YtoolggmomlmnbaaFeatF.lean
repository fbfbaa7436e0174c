/-
  The walks of FeaturesOf (both packages).
-/
import Derived.Test.YtoolggmomlmnbaaFeatC
import Derived.Deep.DrawnRows
import Derived.StillTailTactics
namespace Go.Proofs.Ytoolggmomlmnbaa
open Go.ChangeShapes Go.WideShapes Go.ChangeAt Go.RowKit Go.Joins Go.Deep
set_option linter.unusedVariables false

/-- bar, off, blots, made points, home points, prime, anchors of a side -/
def sideL (P H : Nat) (c : Int) (n : Nat) (xs : List Int) : List Int :=
  [xs.getD P 0, c - psum xs n, ((ptsL isOne xs P).length : Int), ((ptsL isMade xs P).length : Int), ((ptsL isMade xs H).length : Int), prLong xs P, ancP P H isMade xs P]
def featL (own other : Int) (X Y : List Int) (ct : Int) : List Int :=
  [own, other, X.getD 0 0, Y.getD 0 0, X.getD 1 0, Y.getD 1 0, X.getD 2 0, Y.getD 2 0, X.getD 3 0, Y.getD 3 0, X.getD 4 0, Y.getD 4 0, X.getD 5 0, Y.getD 5 0, X.getD 6 0, ct]
/-- the features after k pairs -/
def featK (own other : Int) (X Y : List Int) (k : Nat) : List Int := [own, other] ++ (List.range k).flatMap (fun i => [X.getD i 0, Y.getD i 0])
theorem featK_succ (own other : Int) (X Y : List Int) (k : Nat) : featK own other X Y (k + 1) = featK own other X Y k ++ [X.getD k 0, Y.getD k 0] := by
  simp [featK, List.range_succ]
theorem featK_len (own other : Int) (X Y : List Int) : ∀ k, (featK own other X Y k).length = 2 + 2 * k
  | 0 => rfl
  | k + 1 => by rw [featK_succ, List.length_append, featK_len own other X Y k]; simp; omega
theorem featK_end (own other : Int) (X Y : List Int) (ct : Int) : featK own other X Y 6 ++ [X.getD 6 0] ++ [ct] = featL own other X Y ct := rfl
/-- what both packages' features are -/
def featV (P H : Nat) (c : Int) (n : Nat) (xs : List Int) (m : Nat) (ys : List Int) : List Int :=
  featL (pipS xs n) (pipS ys m) (sideL P H c n xs) (sideL P H c m ys) (if contB P n xs m ys then 1 else 0)
def featB (p c h s : Int) (n : Nat) (xs : List Int) (m : Nat) (ys : List Int) : List Int := if boardB p c h s n xs m ys = true then featV p.toNat h.toNat c n xs m ys else []
theorem featB_no {p c h s : Int} {n : Nat} {xs : List Int} {m : Nat} {ys : List Int} (hv : boardB p c h s n xs m ys = false) : featB p c h s n xs m ys = [] := by rw [featB, hv]; rfl
theorem featB_yes {P H : Nat} {c s : Int} {n : Nat} {xs : List Int} {m : Nat} {ys : List Int} (hv : boardB P c H s n xs m ys = true) : featB P c H s n xs m ys = featV P H c n xs m ys := by rw [featB, hv, Int.toNat_natCast, Int.toNat_natCast]; rfl
theorem featB_le {p c h s : Int} {n : Nat} {xs : List Int} {m : Nat} {ys : List Int} : (featB p c h s n xs m ys).length ≤ 1048576 := by
  cases hv : boardB p c h s n xs m ys
  · rw [featB_no hv]; simp
  · rw [featB, hv]; show (featV _ _ _ _ _ _ _).length ≤ _; simp [featV, featL]
theorem boardB_home {p c h s : Int} {n : Nat} {xs : List Int} {m : Nat} {ys : List Int} (hb : boardB p c h s n xs m ys = true) : ∃ H : Nat, h = (H : Int) ∧ 1 ≤ H ∧ (H : Int) ≤ p ∧ 1 ≤ c ∧ c ≤ 15 := by
  simp only [boardB, Bool.and_eq_true] at hb
  obtain ⟨_, ⟨q1, q2⟩, ⟨h1, h2⟩, _⟩ := vrB_true.1 hb.1
  obtain ⟨H, rfl⟩ := Int.eq_ofNat_of_zero_le (show 0 ≤ h by omega)
  exact ⟨H, rfl, by omega, h2, q1, q2⟩
theorem ancP_no {P : Nat} {h : Int} {xs : List Int} {k : Nat} (hf : isMade (xs.getD k 0) = false) : ancP P h isMade xs (k + 1) = ancP P h isMade xs k := by rw [ancP, ptsL_no hf]; rfl
theorem ancP_yes {P : Nat} {h : Int} {xs : List Int} {k : Nat} (hf : isMade (xs.getD k 0) = true) : ancP P h isMade xs (k + 1) = ancP P h isMade xs k + if decide ((P : Int) - 1 - k < h) then 1 else 0 := by rw [ancP, ptsL_yes hf, cntIf_snoc]; rfl
theorem ancP_bd (P : Nat) (h : Int) (xs : List Int) (k : Nat) : 0 ≤ ancP P h isMade xs k ∧ ancP P h isMade xs k ≤ k := by
  have := cntIf_bd (fun i => decide ((P : Int) - 1 - i < h)) (ptsL isMade xs k)
  have := ptsL_le isMade xs k
  unfold ancP
  omega
def seven (a b c d e f g : Int) : List Int := [a, b, c, d, e, f, g]
theorem seven_new (w : World) (x0 x1 x2 x3 x4 x5 x6 : Int) (t : TypeId) : (w.alloc (.cells #[.int .i64 x0, .int .i64 x1, .int .i64 x2, .int .i64 x3, .int .i64 x4, .int .i64 x5, .int .i64 x6] t)).rowIs w.heap.size t 7 (icell .i64 [x0, x1, x2, x3, x4, x5, x6]) :=
  World.rowIs_alloc w _ _ _ (fun j hj => by
    match j, hj with
    | 0, _ => rfl
    | 1, _ => rfl
    | 2, _ => rfl
    | 3, _ => rfl
    | 4, _ => rfl
    | 5, _ => rfl
    | 6, _ => rfl)

def SidePost (L : List Int) (w : World) (e : Ending) (w' : World) : Prop :=
  ∃ g, e = .returned (.slice (some ⟨g, 0, none⟩) 7 7) ∧ w.heap.size ≤ g ∧ w'.rowIs g 2 7 (icell .i64 L) ∧ Below w.heap.size w w'
set_option maxHeartbeats 3200000 in
theorem l22Side_any (P H : Nat) (c s : Int) (a : Option Addr) (n ca : Nat) (xs : List Int) (B : Nat) (w : World) (h1 : Ints w B .i64 a n xs) (hB : B ≤ w.heap.size) (hn : P < n) (hn25 : n ≤ 25) (hH : H ≤ P) (hc1 : 1 ≤ c) (hc2 : c ≤ 15) (hX : ∀ i, i < n → 0 ≤ xs.getD i 0 ∧ xs.getD i 0 ≤ 15) :
    Calls Try.prog 89 #[vrV P c H s, .slice a n ca] w fun e w' => SidePost (sideL P H c n xs) w e w' := by
  have HB0 := (Below.refl w.heap.size w).alloc (Nat.le_refl _) (.cells #[.int .i64 (P : Int), .int .i64 c, .int .i64 (H : Int), .int .i64 s] 30)
  have R0 := Lib.hid (vr4_new w (.int .i64 (P : Int)) (.int .i64 c) (.int .i64 (H : Int)) (.int .i64 s) 30)
  have k1 : Ints (w.alloc (.cells #[.int .i64 (P : Int), .int .i64 c, .int .i64 (H : Int), .int .i64 s] 30)) B .i64 a n xs := v_ints h1 hB
  have k2 := Lib.hid k1
  have XB := Lib.hid hX
  have PB := Lib.hid (psum_bd xs 15)
  clear h1 hX
  obtain ⟨bb, off, rfl, hbb, hc0⟩ := k1.2 (by omega)
  have HC := Lib.hid hc0
  clear hc0 k1
  obtain ⟨c0, c1, c2, c3⟩ := vr4_cells R0.out
  go_enter Try.func89, Try.ntmps89
  go_wp2_with fail
  go_loop [6, 7] (fun q i => ∃ (k : Nat) (S : Int), k ≤ n ∧ i = .int .i64 k ∧ q = .int .i64 S ∧ Hid (S = psum xs k)) (fun _ i => n - (intOf i).toNat)
  case atStart => exact ⟨0, 0, Nat.zero_le _, rfl, rfl, rfl⟩
  case round =>
    obtain ⟨k, S, hk, rfl, rfl, hS⟩ := hrel
    have s1 := PB.out k (fun i hi => ⟨by have := (XB.out i (by omega)).1; omega, (XB.out i (by omega)).2⟩)
    rw [← hS.out] at s1
    obtain ⟨s1, s2⟩ := s1
    by_cases hlt : k < n
    · have hcx := HC.out k hlt
      obtain ⟨x1, x2⟩ := XB.out k hlt
      have hs := Lib.hid (psum_succ xs k)
      obtain ⟨x, hx⟩ : ∃ x, xs.getD k 0 = x := ⟨_, rfl⟩
      rw [hx] at hcx x1 x2 hs
      clear hx
      have s3 : S ≤ 1000 := by omega
      have s4 : -1000 ≤ S := by omega
      clear s1 s2
      go_wp2
      go_round
      case rel => exact ⟨k + 1, S + x, by omega, by go_num, rfl, by show _ = _; rw [hs.out, hS.out]⟩
      case measure => simp [intOf]; omega
    · obtain rfl : k = n := by omega
      have s3 : S ≤ 1000 := by omega
      have s4 : -1000 ≤ S := by omega
      clear s1 s2
      go_wp2_with fail
      refine (l22Prime_any P _ _ ca xs B _ k2.out (by omega) hn25).mono ?_
      rintro e v2 ⟨rfl, rfl⟩
      obtain ⟨PL, hPL⟩ : ∃ x, prLong xs P = x := ⟨_, rfl⟩
      obtain ⟨PA, hPA⟩ : ∃ x, prAt xs P = x := ⟨_, rfl⟩
      rw [hPL, hPA]
      have HPL := Lib.hid hPL
      clear hPL hPA
      go_wp2_with fail
      go_loop [10, 11] (fun q i => ∃ (j : Nat) (A : Int), j ≤ P ∧ i = .int .i64 j ∧ q = .int .i64 A ∧ Hid (A = ancP P H isMade xs j)) (fun _ i => P - (intOf i).toNat)
      case atStart => exact ⟨0, 0, Nat.zero_le _, rfl, rfl, rfl⟩
      case round =>
        obtain ⟨j, A, hj, rfl, rfl, hA⟩ := hrel
        have a1 := ancP_bd P H xs j
        rw [← hA.out] at a1
        obtain ⟨a1, a2⟩ := a1
        by_cases hlt2 : j < P
        · have hcx := HC.out j (by omega)
          obtain ⟨x1, x2⟩ := XB.out j (by omega)
          have hs1 := Lib.hid (ancP_no (P := P) (h := (H : Int)) (xs := xs) (k := j))
          have hs2 := Lib.hid (ancP_yes (P := P) (h := (H : Int)) (xs := xs) (k := j))
          obtain ⟨x, hx⟩ : ∃ x, xs.getD j 0 = x := ⟨_, rfl⟩
          rw [hx] at hcx x1 x2 hs1 hs2
          clear hx
          by_cases hx2 : x < 2
          · have HN := Lib.hid (hs1.out (wB_false.2 (by omega)))
            go_wp2
            go_round
            case rel => exact ⟨j + 1, A, by omega, by go_num, rfl, by show _ = _; rw [HN.out, hA.out]⟩
            case measure => simp [intOf]; omega
          · have HY := Lib.hid (hs2.out (wB_true.2 (by omega)))
            by_cases hq : (P : Int) - 1 - j < H
            · have HZ := Lib.hid (HY.out.trans (by rw [if_pos (by simpa using hq)]))
              go_wp2
              go_round
              case rel => exact ⟨j + 1, A + 1, by omega, by go_num, rfl, by show _ = _; rw [HZ.out, hA.out]⟩
              case measure => simp [intOf]; omega
            · have HZ := Lib.hid (HY.out.trans (by rw [if_neg (by simpa using hq), Int.add_zero]))
              go_wp2
              go_round
              case rel => exact ⟨j + 1, A, by omega, by go_num, rfl, by show _ = _; rw [HZ.out, hA.out]⟩
              case measure => simp [intOf]; omega
        · obtain rfl : j = P := by omega
          have hcx := HC.out j (by omega)
          have HV := Lib.hid (show sideL j H c k xs = [xs.getD j 0, c - S, ((ptsL (fun x => wB x 1 1) xs j).length : Int), ((ptsL (fun x => wB x 2 99) xs j).length : Int), ((ptsL (fun x => wB x 2 99) xs H).length : Int), PL, A] by rw [sideL, ← hS.out, HPL.out, ← hA.out]; rfl)
          obtain ⟨x, hx⟩ : ∃ x, xs.getD j 0 = x := ⟨_, rfl⟩
          rw [hx] at hcx HV
          clear hx
          obtain ⟨L1, hL1⟩ : ∃ x, (ptsL (fun x => wB x 1 1) xs j).length = x := ⟨_, rfl⟩
          obtain ⟨L2, hL2⟩ : ∃ x, (ptsL (fun x => wB x 2 99) xs j).length = x := ⟨_, rfl⟩
          obtain ⟨L3, hL3⟩ : ∃ x, (ptsL (fun x => wB x 2 99) xs H).length = x := ⟨_, rfl⟩
          rw [hL1, hL2, hL3] at HV
          have HL1 := Lib.hid hL1
          have HL2 := Lib.hid hL2
          have HL3 := Lib.hid hL3
          clear hL1 hL2 hL3
          have hwr : IntKind.i64.wrap (c - S) = c - S := IntWalk.i64_in _ (by omega)
          have i0 : (0 : Int) ≤ (j : Int) := by omega
          have i1 : (j : Int) < k := by omega
          have K2 := ints_drew k2.out
          go_wp2_with fail
          go_region_held3 (fun w' => w'.cell? ⟨bb, off + j, none⟩ = some (.int .i64 x) ∧ w'.cell? ⟨w.heap.size, 1, none⟩ = some (.int .i64 c) ∧ w'.cell? ⟨w.heap.size, 2, none⟩ = some (.int .i64 (H : Int)))
            (go_keep)
            ((go_at_call 108; (first
              | ((with_reducible refine (l22Count_any j 1 1 _ _ ca xs B _ K2 hn hn25).mono ?_); rw [HL1.out]; rintro e v3 ⟨rfl, rfl⟩)
              | ((with_reducible refine (l22Count_any j 2 99 _ _ ca xs B _ K2 hn hn25).mono ?_); rw [HL2.out]; rintro e v3 ⟨rfl, rfl⟩)
              | ((with_reducible refine (l22Count_any H 2 99 _ _ ca xs B _ K2 (by omega) hn25).mono ?_); rw [HL3.out]; rintro e v3 ⟨rfl, rfl⟩))))
          all_goals
            go_wp2
            go_ret
            exact ⟨_, rfl, by omega, by rw [HV.out]; have h := seven_new (w.alloc (.cells #[.int .i64 (j : Int), .int .i64 c, .int .i64 (H : Int), .int .i64 s] 30)) x (c - S) L1 L2 L3 PL A 2; simp only [World.size_alloc] at h; exact rowIs_drewN h 1, below_drewN (HB0.alloc (by simp) _) 1⟩

set_option maxHeartbeats 3200000 in
theorem l22Features_any (P H : Nat) (c s : Int) (a : Option Addr) (n ca : Nat) (xs : List Int) (b : Option Addr) (m cb : Nat) (ys : List Int) (B : Nat) (w : World) (h1 : Ints w B .i64 a n xs) (h2 : Ints w B .i64 b m ys) (hB : B ≤ w.heap.size) (hn : n ≤ 1048576) (hm : m ≤ 1048576) (hv : boardB P c H s n xs m ys = true) :
    Calls Try.prog 65 #[vrV P c H s, bdV a n ca b m cb] w fun e w' => ∃ v, e = .returned v ∧ Grows w' w.heap.size v (featV P H c n xs m ys) ∧ Below w.heap.size w w' := by
  obtain ⟨P', hP, ⟨hPn, hPn2⟩, ⟨hPm, hPm2⟩, hn25, hm25, hX, hY⟩ := boardB_out hv
  obtain rfl : P = P' := by omega
  obtain ⟨H', hH', hH1, hHP, hc1, hc2⟩ := boardB_home hv
  obtain rfl : H = H' := by omega
  replace hHP : H ≤ P := by omega
  clear hH' hP
  have Q1 := Lib.hid (fun W (q1 : Ints W B .i64 a n xs) (hz : B ≤ W.heap.size) => l22Side_any P H c s a n ca xs B W q1 hz hPn hn25 hHP hc1 hc2 hX)
  have Q2 := Lib.hid (fun W (q1 : Ints W B .i64 b m ys) (hz : B ≤ W.heap.size) => l22Side_any P H c s b m cb ys B W q1 hz hPm hm25 hHP hc1 hc2 hY)
  obtain ⟨XL, hXL⟩ : ∃ XL, sideL P H c n xs = XL := ⟨_, rfl⟩
  obtain ⟨YL, hYL⟩ : ∃ YL, sideL P H c m ys = YL := ⟨_, rfl⟩
  have HV := Lib.hid (show featV P H c n xs m ys = featL (pipS xs n) (pipS ys m) XL YL (if contB P n xs m ys then 1 else 0) by rw [featV, hXL, hYL])
  rw [hXL] at Q1
  rw [hYL] at Q2
  clear hXL hYL
  go_enter Try.func65, Try.ntmps65
  go_wp2_with fail
  refine (spec_PipCounts_any P c H s _ _ _ _ _ _ _ _ B _ (vb_ints h1 hB) (vb_ints h2 hB) (vb_size hB) hn hm hv).mono ?_
  rintro e v ⟨rfl, hb⟩
  obtain ⟨r0, r1, HB1, hz⟩ := vb_after hb
  have k1 : Ints v B .i64 a n xs := (vb_ints h1 hB).below (hb.mono (vb_size hB))
  have k2 : Ints v B .i64 b m ys := (vb_ints h2 hB).below (hb.mono (vb_size hB))
  have hzB : B ≤ v.heap.size := by omega
  clear hb
  obtain ⟨PX, hPX⟩ : ∃ q, pipS xs n = q := ⟨_, rfl⟩
  obtain ⟨PY, hPY⟩ : ∃ q, pipS ys m = q := ⟨_, rfl⟩
  rw [hPX, hPY] at HV
  rw [hPX, hPY]
  clear hPX hPY
  have HI := Lib.hid (fun W (q1 : Ints W B .i64 a n xs) (q2 : Ints W B .i64 b m ys) (qz : B ≤ W.heap.size) => spec_IsContact_any P c H s a n ca xs b m cb ys B W q1 q2 qz hn hm)
  rw [hv, Bool.true_and, Int.toNat_natCast] at HI
  obtain ⟨CT, hCT⟩ : ∃ q, contB P n xs m ys = q := ⟨_, rfl⟩
  rw [hCT] at HI HV
  clear hCT
  clear hv hX hY h1 h2
  have hb := ((Below.refl v.heap.size v).alloc (Nat.le_refl _) (.cells #[.int .i64 PX, .int .i64 PY] 2)).drew
  have HG := Lib.hid (Grows.ofOwn (xs := [PX, PY]) (Own.new v v.heap.size 2 1 #[.int .i64 PX, .int .i64 PY] 2 (Nat.le_refl _) (by unfold maxLen; omega) rfl)).drew
  replace k1 := k1.below (hb.mono hzB)
  replace k2 := k2.below (hb.mono hzB)
  have R0 := Lib.hid (rowIs_below r0 hb r0.lt)
  have R1 := Lib.hid (rowIs_below r1 hb r1.lt)
  have zv : v.heap.size + 1 ≤ (v.alloc (.cells #[.int .i64 PX, .int .i64 PY] 2)).drew.heap.size := by simp
  replace hzB := Nat.le_trans hzB hb.size
  replace HB1 := HB1.trans (hb.mono HB1.size)
  clear hb r0 r1
  go_wp2_with fail
  obtain ⟨c0, c1, c2, c3⟩ := vr4_cells R0.out
  obtain ⟨d0, d1⟩ := pr_cells R1.out
  go_region_held3 (fun w' => w'.cell? ⟨w.heap.size, 0, none⟩ = some (.int .i64 (P : Int)) ∧ w'.cell? ⟨w.heap.size, 1, none⟩ = some (.int .i64 c) ∧ w'.cell? ⟨w.heap.size, 2, none⟩ = some (.int .i64 (H : Int)) ∧ w'.cell? ⟨w.heap.size, 3, none⟩ = some (.int .i64 s) ∧ w'.cell? ⟨w.heap.size + 1, 0, none⟩ = some (.slice a n ca) ∧ w'.cell? ⟨w.heap.size + 1, 1, none⟩ = some (.slice b m cb))
    (go_keep)
    ((go_at_call 89; (first
      | ((with_reducible refine (Q1.out _ k1 hzB).mono ?_); rintro e wx ⟨gx, rfl, hgx, hrx, hb⟩; replace k1 := k1.below (hb.mono hzB); replace k2 := k2.below (hb.mono hzB); replace R0 := Lib.hid (rowIs_below R0.out hb R0.out.lt); replace R1 := Lib.hid (rowIs_below R1.out hb R1.out.lt); replace HG := Lib.hid (HG.out.below hb); have hzz := hb.size; replace hzB := Nat.le_trans hzB hb.size; replace HB1 := HB1.trans (hb.mono HB1.size); clear hb; obtain ⟨e0, e1, e2, e3⟩ := vr4_cells R0.out; obtain ⟨f0, f1⟩ := pr_cells R1.out)
      | ((with_reducible refine (Q2.out _ k2 hzB).mono ?_); rintro e wy ⟨gy, rfl, hgy, hry, hb⟩; replace k1 := k1.below (hb.mono hzB); replace k2 := k2.below (hb.mono hzB); replace R0 := Lib.hid (rowIs_below R0.out hb R0.out.lt); replace R1 := Lib.hid (rowIs_below R1.out hb R1.out.lt); replace HG := Lib.hid (HG.out.below hb); have hzz := hb.size; replace hzB := Nat.le_trans hzB hb.size; replace HB1 := HB1.trans (hb.mono HB1.size); replace hrx := rowIs_below hrx hb hrx.lt; clear hb; obtain ⟨g0, g1, g2, g3⟩ := vr4_cells R0.out; obtain ⟨h0, h1⟩ := pr_cells R1.out))))
  clear c0 c1 c2 c3 d0 d1 e0 e1 e2 e3 f0 f1 g0 g1 g2 g3 h0 h1 Q1 Q2
  have HX := Lib.hid hrx
  have HY := Lib.hid hry
  have lx := hrx.lt
  have ly := hry.lt
  have gx1 : v.heap.size + 1 ≤ gx := by omega
  have gy1 : v.heap.size + 1 ≤ gy := by omega
  have HG0 := Lib.hid (Grown.start (xs := featK PX PY XL YL 0) (v := .slice (some ⟨v.heap.size, 0, none⟩) 2 2) HG.out (fun g e => own_at e) (by omega))
  have hrv : w.heap.size + 2 ≤ v.heap.size := hz
  have hW := HB1.size
  clear hrx hry HG hgx hgy hzz zv
  go_wp2_with fail
  go_loopw [7, 10] (fun sl i wr => ∃ (k : Nat) (sv : Value), k ≤ 6 ∧ i = .int .i64 k ∧ sv = sl ∧ Grown wy v.heap.size wr sv (featK PX PY XL YL k)) (fun _ i _ => 6 - (intOf i).toNat)
  case atStart => exact ⟨0, _, Nat.zero_le _, rfl, rfl, HG0.out⟩
  case round =>
    obtain ⟨k, sv, hk, rfl, rfl, hg⟩ := hrel
    have hL := featK_len PX PY XL YL k
    have hS := Lib.hid (featK_succ PX PY XL YL k)
    have hg' := Lib.hid hg
    have qx := HX.out.of_block (hg.out.block gx lx (.inr (by omega)))
    have qy := HY.out.of_block (hg.out.block gy ly (.inr (by omega)))
    by_cases hlt : k < 6
    · have hcc : ∀ W, Out v.heap.size (v.heap.size + 1) wy W → W.cell? ⟨gx, k, none⟩ = some (.int .i64 (XL.getD k 0)) ∧ W.cell? ⟨gy, k, none⟩ = some (.int .i64 (YL.getD k 0)) := fun W ho =>
        ⟨(HX.out.of_block (ho.block gx lx (.inr (by omega)))).cell (i := k) (by omega), (HY.out.of_block (ho.block gy ly (.inr (by omega)))).cell (i := k) (by omega)⟩
      obtain ⟨x, hx⟩ : ∃ x, XL.getD k 0 = x := ⟨_, rfl⟩
      obtain ⟨y, hy⟩ : ∃ x, YL.getD k 0 = x := ⟨_, rfl⟩
      rw [hx] at hcc hS
      rw [hy] at hcc hS
      obtain ⟨hcx, hcy⟩ := hcc _ hg.out
      have HCC := Lib.hid hcc
      clear hcc
      have hl2 : (featK PX PY XL YL k).length ≤ 1000 := by omega
      have hnw := Lib.hid (news2 (x := x) (y := y) (w := (wr.alloc (.cells #[.int .i64 x, .int .i64 y] 2)).drew) (new_cell wr #[.int .i64 x, .int .i64 y] 2 0) (new_cell wr #[.int .i64 x, .int .i64 y] 2 1))
      clear hx hy qx qy hg hL
      have i0 : (0 : Int) ≤ (k : Int) := by omega
      have i1 : (k : Int) < 7 := by omega
      go_wp2_with fail
      go_region_held3 (fun w' => w'.cell? ⟨gx, k, none⟩ = some (.int .i64 x) ∧ w'.cell? ⟨gy, k, none⟩ = some (.int .i64 y))
        (first | go_keep | exact HCC.out _ hg2.out)
        ((refine step_app_grown rfl (.tmp 32) (.tmp 41) (by rfl) (by rfl) ((hg'.out.alloc _).drew) ⟨wr.heap.size, 0, none⟩ [x, y] 2 2 (by rfl) (by omega) rfl hnw.out (by omega) ?_; intro v2 w2 hg2 _))
      go_wp2
      go_roundw
      case rel => exact ⟨k + 1, _, by omega, by go_num, rfl, by rw [hS.out]; exact hg2⟩
      case measure => simp [intOf]; omega
    · have hg6 : Grown wy v.heap.size wr sv (featK PX PY XL YL 6) := by
        have e6 : k = 6 := by omega
        rw [← e6]; exact hg
      replace hg' := Lib.hid hg6
      have hcx := qx.cell (i := 6) (by omega)
      rw [icell_eq] at hcx
      obtain ⟨x, hx⟩ : ∃ x, XL.getD 6 0 = x := ⟨_, rfl⟩
      rw [hx] at hcx
      have HE := Lib.hid (fun ct => (featK_end PX PY XL YL ct).symm.trans (by rw [hx]))
      have hl2 : (featK PX PY XL YL 6).length ≤ 1000 := by rw [featK_len]; omega
      have hnw := Lib.hid (news1 (x := x) (new_cell wr #[.int .i64 x] 2 0))
      have HK := Lib.hid (fun (W : World) (z : Int) => news1 (x := z) (new_cell W #[.int .i64 z] 2 0))
      have hg7 : ∀ W vv, Grown wy v.heap.size W vv (featK PX PY XL YL 6 ++ [x]) → (W.rowIs w.heap.size 30 4 (vr4 (.int .i64 (P : Int)) (.int .i64 c) (.int .i64 (H : Int)) (.int .i64 s))) ∧ (W.rowIs (w.heap.size + 1) 32 2 (pr (.slice a n ca) (.slice b m cb))) ∧ Ints W B .i64 a n xs ∧ Ints W B .i64 b m ys ∧ B ≤ W.heap.size ∧ wy.heap.size ≤ W.heap.size := by
        intro W vv hgW
        have hz1 := hgW.out.size
        exact ⟨R0.out.of_block (hgW.out.block w.heap.size R0.out.lt (.inl (by omega))), R1.out.of_block (hgW.out.block (w.heap.size + 1) R1.out.lt (.inl (by omega))), k1.out hgW.out (by omega) hzB, k2.out hgW.out (by omega) hzB, by omega, hz1⟩
      have HG7 := Lib.hid hg7
      clear hx qx qy hg hg6 hL hS hg7
      cases CT
      · go_wp2_with (first
          | (at_builtin; refine app_grown rfl (.tmp 43) (.tmp 47) rfl rfl (hg'.out.alloc _) ⟨wr.heap.size, 0, none⟩ [x] 1 1 rfl rfl hnw.out (by omega) ?_; intro v2 w2 hg2; obtain ⟨s0, s1, q1, q2, qz, qy⟩ := HG7.out _ _ hg2; obtain ⟨c0, c1, c2, c3⟩ := vr4_cells s0; obtain ⟨d0, d1⟩ := pr_cells s1; clear s0 s1)
          | (go_at_call 90; refine (HI.out _ q1 q2 qz).mono ?_; rintro e w3 ⟨rfl, hb3⟩; have hg3 := hg2.after hb3; have z3 := hb3.size; clear c0 c1 c2 c3 d0 d1 hb3)
          | (at_builtin; refine app_grown rfl (.tmp 55) (.tmp 56) rfl rfl (hg3.alloc _) ⟨w3.heap.size, 0, none⟩ [0] 1 1 rfl rfl (HK.out w3 0) (by rw [List.length_append, featK_len]; simp) ?_; intro v4 w4 hg4))
        go_ret
        exact ⟨_, rfl, by rw [HV.out, HE.out]; exact hg4.grows.lower (by omega), Out.below HB1 hg4.out (by omega)⟩
      · go_wp2_with (first
          | (at_builtin; refine app_grown rfl (.tmp 43) (.tmp 47) rfl rfl (hg'.out.alloc _) ⟨wr.heap.size, 0, none⟩ [x] 1 1 rfl rfl hnw.out (by omega) ?_; intro v2 w2 hg2; obtain ⟨s0, s1, q1, q2, qz, qy⟩ := HG7.out _ _ hg2; obtain ⟨c0, c1, c2, c3⟩ := vr4_cells s0; obtain ⟨d0, d1⟩ := pr_cells s1; clear s0 s1)
          | (go_at_call 90; refine (HI.out _ q1 q2 qz).mono ?_; rintro e w3 ⟨rfl, hb3⟩; have hg3 := hg2.after hb3; have z3 := hb3.size; clear c0 c1 c2 c3 d0 d1 hb3)
          | (at_builtin; refine app_grown rfl (.tmp 52) (.tmp 53) rfl rfl (hg3.alloc _) ⟨w3.heap.size, 0, none⟩ [1] 1 1 rfl rfl (HK.out w3 1) (by rw [List.length_append, featK_len]; simp) ?_; intro v4 w4 hg4))
        go_ret
        exact ⟨_, rfl, by rw [HV.out, HE.out]; exact hg4.grows.lower (by omega), Out.below HB1 hg4.out (by omega)⟩
end Go.Proofs.Ytoolggmomlmnbaa
