/-
  The walks of InputsOf (both packages), and the bounds of features.
-/
import Derived.Test.YtoolggmomlmnbaaFeatG
namespace Go.Proofs.Ytoolggmomlmnbaa
open Go.ChangeShapes Go.WideShapes Go.ChangeAt Go.RowKit Go.Joins Go.Deep
set_option linter.unusedVariables false

theorem pipS_le {xs : List Int} : ∀ k, (∀ i, i < k → 0 ≤ xs.getD i 0) → ∀ N : Nat, k ≤ N → 0 ≤ pipS xs k ∧ pipS xs k ≤ (N : Int) * psum xs k
  | 0, _, N, _ => by simp [pipS, psum]
  | k + 1, h, N, hk => by
    obtain ⟨h1, h2⟩ := pipS_le k (fun i hi => h i (by omega)) N (by omega)
    have hx := h k (by omega)
    have h3 : 0 ≤ ((k : Int) + 1) * xs.getD k 0 := Int.mul_nonneg (by omega) hx
    have h4 : ((k : Int) + 1) * xs.getD k 0 ≤ (N : Int) * xs.getD k 0 := Int.mul_le_mul_of_nonneg_right (by omega) hx
    unfold pipS
    rw [psum_succ, Int.mul_add]
    omega
theorem ones_le {xs : List Int} : ∀ k, (∀ i, i < k → 0 ≤ xs.getD i 0) → ((ptsL isOne xs k).length : Int) ≤ psum xs k
  | 0, _ => by simp [ptsL, psum]
  | k + 1, h => by
    have h1 := ones_le k (fun i hi => h i (by omega))
    have hx := h k (by omega)
    rw [psum_succ]
    cases c : isOne (xs.getD k 0)
    · rw [ptsL_no c]; omega
    · rw [ptsL_yes c, List.length_append]
      have := (wB_true.1 c).1
      simp only [List.length_cons, List.length_nil]
      omega
theorem lim_bd {P : Nat} {c : Int} (hP : P ≤ 24) (hP1 : 1 ≤ P) (hc1 : 1 ≤ c) (hc2 : c ≤ 15) (i : Int) : 1 ≤ lim P c i ∧ lim P c i ≤ 375 := by
  have m1 : 1 * 1 ≤ c * ((P : Int) + 1) := Int.mul_le_mul hc1 (by omega) (by omega) (by omega)
  have m2 : c * ((P : Int) + 1) ≤ 15 * 25 := Int.mul_le_mul hc2 (by omega) (by omega) (by omega)
  unfold lim
  split
  · omega
  · split
    · omega
    · split <;> omega
theorem sideL_bd {P H : Nat} {c : Int} {n : Nat} {xs : List Int} (hn : P < n) (hn2 : n ≤ P + 1) (hH : H ≤ P) (hX : ∀ i, i < n → 0 ≤ xs.getD i 0 ∧ xs.getD i 0 ≤ c) (hs : psum xs n ≤ c) :
    (0 ≤ xs.getD P 0 ∧ xs.getD P 0 ≤ c) ∧ (0 ≤ c - psum xs n ∧ c - psum xs n ≤ c) ∧ ((ptsL isOne xs P).length : Int) ≤ c ∧ ((ptsL isMade xs P).length : Int) ≤ P ∧ ((ptsL isMade xs H).length : Int) ≤ P ∧ (0 ≤ prLong xs P ∧ prLong xs P ≤ P) ∧ (0 ≤ ancP P H isMade xs P ∧ ancP P H isMade xs P ≤ P) ∧ (0 ≤ pipS xs n ∧ pipS xs n ≤ c * (P + 1)) := by
  have h0 : ∀ i, i < n → 0 ≤ xs.getD i 0 := fun i hi => (hX i hi).1
  have p0 := psum_mono (xs := xs) (j := 0) n (Nat.zero_le _) h0
  have pP := psum_mono (xs := xs) (j := P) n (by omega) h0
  have z0 : psum xs 0 = 0 := rfl
  have o1 := ones_le (xs := xs) P (fun i hi => h0 i (by omega))
  have l1 := ptsL_le isMade xs P
  have l2 := ptsL_le isMade xs H
  have q := pipS_le n h0 n (Nat.le_refl _)
  have q2 : (n : Int) * psum xs n ≤ ((P : Int) + 1) * c := Int.mul_le_mul (by omega) hs (by omega) (by omega)
  refine ⟨hX P hn, ⟨by omega, by omega⟩, by omega, by omega, by omega, prLong_bd xs P, ancP_bd P H xs P, q.1, ?_⟩
  rw [Int.mul_comm c]
  omega
/-- every feature of a valid board lies between 0 and its limit -/
theorem featV_bd {P H : Nat} {c s : Int} {n : Nat} {xs : List Int} {m : Nat} {ys : List Int} (hv : boardB P c H s n xs m ys = true) : ∀ i : Nat, i < 16 → 0 ≤ (featV P H c n xs m ys).getD i 0 ∧ (featV P H c n xs m ys).getD i 0 ≤ lim P c i := by
  simp only [boardB, Bool.and_eq_true] at hv
  obtain ⟨hv, ho, hu, _⟩ := hv
  obtain ⟨⟨p1, p2⟩, ⟨q1, q2⟩, ⟨g1, g2⟩, _⟩ := vrB_true.1 hv
  obtain ⟨en, hx, _, hsx⟩ := sideB_out ho
  obtain ⟨em, hy, _, hsy⟩ := sideB_out hu
  obtain ⟨a1, a2, a3, a4, a5, a6, a7, a8⟩ := sideL_bd (P := P) (H := H) (c := c) (n := n) (xs := xs) (by omega) (by omega) (by omega) hx hsx
  obtain ⟨b1, b2, b3, b4, b5, b6, b7, b8⟩ := sideL_bd (P := P) (H := H) (c := c) (n := m) (xs := ys) (by omega) (by omega) (by omega) hy hsy
  have L0 : lim P c 0 = c * (P + 1) := rfl
  have L1 : lim P c 1 = c * (P + 1) := rfl
  have Lc : ∀ i : Nat, 2 ≤ i → i < 8 → lim P c i = c := fun i h1 h2 => by rw [lim, if_neg (by omega), if_pos (by omega)]
  have Lp : ∀ i : Nat, 8 ≤ i → i < 15 → lim P c i = P := fun i h1 h2 => by rw [lim, if_neg (by omega), if_neg (by omega), if_pos (by omega)]
  have Ll : lim P c 15 = 1 := rfl
  intro i hi
  match i, hi with
  | 0, _ => exact a8
  | 1, _ => exact b8
  | 2, _ => rw [Lc 2 (by omega) (by omega)]; exact a1
  | 3, _ => rw [Lc 3 (by omega) (by omega)]; exact b1
  | 4, _ => rw [Lc 4 (by omega) (by omega)]; exact a2
  | 5, _ => rw [Lc 5 (by omega) (by omega)]; exact b2
  | 6, _ => rw [Lc 6 (by omega) (by omega)]; exact ⟨Int.natCast_nonneg _, a3⟩
  | 7, _ => rw [Lc 7 (by omega) (by omega)]; exact ⟨Int.natCast_nonneg _, b3⟩
  | 8, _ => rw [Lp 8 (by omega) (by omega)]; exact ⟨Int.natCast_nonneg _, a4⟩
  | 9, _ => rw [Lp 9 (by omega) (by omega)]; exact ⟨Int.natCast_nonneg _, b4⟩
  | 10, _ => rw [Lp 10 (by omega) (by omega)]; exact ⟨Int.natCast_nonneg _, a5⟩
  | 11, _ => rw [Lp 11 (by omega) (by omega)]; exact ⟨Int.natCast_nonneg _, b5⟩
  | 12, _ => rw [Lp 12 (by omega) (by omega)]; exact a6
  | 13, _ => rw [Lp 13 (by omega) (by omega)]; exact b6
  | 14, _ => rw [Lp 14 (by omega) (by omega)]; exact a7
  | 15, _ =>
    show 0 ≤ (if contB P n xs m ys = true then (1 : Int) else 0) ∧ (if contB P n xs m ys = true then (1 : Int) else 0) ≤ 1
    split <;> omega
  | k + 16, h => exact absurd h (by omega)
theorem featV_len {P H : Nat} {c : Int} {n : Nat} {xs : List Int} {m : Nat} {ys : List Int} : (featV P H c n xs m ys).length = 16 := rfl

/-- the inputs that follow from features -/
def inpF (P : Nat) (c : Int) (L : List Int) (i : Nat) : Int := L.getD i 0 * 4096 / lim P c i
def inpK (P : Nat) (c : Int) (L : List Int) (k : Nat) : List Int := (List.range k).map (inpF P c L)
theorem inpK_succ (P : Nat) (c : Int) (L : List Int) (k : Nat) : inpK P c L (k + 1) = inpK P c L k ++ [inpF P c L k] := by simp [inpK, List.range_succ]
theorem inpK_len (P : Nat) (c : Int) (L : List Int) (k : Nat) : (inpK P c L k).length = k := by simp [inpK]
def mixL (P : Nat) (c : Int) (L : List Int) (k : Nat) : List Int := (List.range 16).map (fun i => if i < k then inpF P c L i else L.getD i 0)
theorem mixL_len (P : Nat) (c : Int) (L : List Int) (k : Nat) : (mixL P c L k).length = 16 := by simp [mixL]
theorem mixL_at (P : Nat) (c : Int) (L : List Int) (k i : Nat) (hi : i < 16) : (mixL P c L k).getD i 0 = if i < k then inpF P c L i else L.getD i 0 := by
  rw [mixL, List.getD_eq_getElem?_getD, List.getElem?_map, List.getElem?_range hi]; rfl
theorem mixL_set (P : Nat) (c : Int) (L : List Int) (k : Nat) : (mixL P c L k).set k (inpF P c L k) = mixL P c L (k + 1) := by
  refine List.ext_getElem (by simp [mixL]) fun i h1 h2 => ?_
  have hi : i < 16 := by simpa [mixL] using h2
  rw [List.getElem_set]
  simp only [mixL, List.getElem_map, List.getElem_range]
  by_cases e : k = i
  · subst e; rw [if_pos rfl, if_pos (by omega)]
  · rw [if_neg e]
    by_cases e2 : i < k
    · rw [if_pos e2, if_pos (by omega)]
    · rw [if_neg e2, if_neg (by omega)]
theorem mixL_0 {w : World} {g t : Nat} {P : Nat} {c : Int} {L : List Int} (h : w.rowIs g t 16 (icell .i64 L)) : w.rowIs g t 16 (icell .i64 (mixL P c L 0)) :=
  h.congr (fun j hj => by rw [icell, icell, mixL_at _ _ _ _ _ hj, if_neg (by omega)])
theorem mixL_16 {w : World} {g t : Nat} {P : Nat} {c : Int} {L : List Int} (h : w.rowIs g t 16 (icell .i64 (mixL P c L 16))) : w.rowIs g t 16 (icell .i64 (inpK P c L 16)) :=
  h.congr (fun j hj => by
    rw [icell, icell, mixL_at _ _ _ _ _ hj, if_pos hj]
    rw [inpK, List.getD_eq_getElem?_getD, List.getElem?_map, List.getElem?_range hj]; rfl)
def inpB (p c h s : Int) (n : Nat) (xs : List Int) (m : Nat) (ys : List Int) : List Int := if boardB p c h s n xs m ys = true then inpK p.toNat c (featV p.toNat h.toNat c n xs m ys) 16 else []
theorem inpB_no {p c h s : Int} {n : Nat} {xs : List Int} {m : Nat} {ys : List Int} (hv : boardB p c h s n xs m ys = false) : inpB p c h s n xs m ys = [] := by rw [inpB, hv]; rfl
theorem inpB_yes {P H : Nat} {c s : Int} {n : Nat} {xs : List Int} {m : Nat} {ys : List Int} (hv : boardB P c H s n xs m ys = true) : inpB P c H s n xs m ys = inpK P c (featV P H c n xs m ys) 16 := by rw [inpB, hv, Int.toNat_natCast, Int.toNat_natCast]; rfl
theorem inpB_le {p c h s : Int} {n : Nat} {xs : List Int} {m : Nat} {ys : List Int} : (inpB p c h s n xs m ys).length ≤ 1048576 := by
  cases hv : boardB p c h s n xs m ys
  · rw [inpB_no hv]; simp
  · rw [inpB, hv]; show (inpK _ _ _ _).length ≤ _; rw [inpK_len]; omega
theorem boardB_vr {p c h s : Int} {n : Nat} {xs : List Int} {m : Nat} {ys : List Int} (hb : boardB p c h s n xs m ys = true) : vrB p c h s = true := by
  simp only [boardB, Bool.and_eq_true] at hb
  exact hb.1

set_option maxRecDepth 100000 in
set_option maxHeartbeats 3200000 in
theorem inputs_any (P H : Nat) (c s : Int) (a : Option Addr) (n ca : Nat) (xs : List Int) (b : Option Addr) (m cb : Nat) (ys : List Int) (B : Nat) (w : World) (h1 : Ints w B .i64 a n xs) (h2 : Ints w B .i64 b m ys) (hB : B ≤ w.heap.size) (hn : n ≤ 1048576) (hm : m ≤ 1048576) (hv : boardB P c H s n xs m ys = true) :
    Calls Try.prog 62 #[vrV P c H s, bdV a n ca b m cb] w fun e w' => ∃ g, e = .returned (.slice (some ⟨g, 0, none⟩) 16 16) ∧ w.heap.size ≤ g ∧ w'.rowIs g 2 16 (icell .i64 (inpK P c (featV P H c n xs m ys) 16)) ∧ Below w.heap.size w w' := by
  have hvr := boardB_vr hv
  obtain ⟨⟨p1, p2⟩, ⟨q1, q2⟩, _, _⟩ := vrB_true.1 hvr
  obtain ⟨L, hL⟩ : ∃ L, featV P H c n xs m ys = L := ⟨_, rfl⟩
  have HBD := Lib.hid (featV_bd hv)
  have HLB := Lib.hid (fun i => lim_bd (P := P) (c := c) (by omega) (by omega) q1 q2 i)
  have HB0 := ((Below.refl w.heap.size w).alloc (Nat.le_refl _) (.cells #[.int .i64 (P : Int), .int .i64 c, .int .i64 (H : Int), .int .i64 s] 30)).alloc (by simp) (.cells #[.slice a n ca, .slice b m cb] 32)
  have FF := Lib.hid ((features_any P H c s _ _ ca _ _ _ cb _ B _ (vb_ints (o1 := (.cells #[.int .i64 (P : Int), .int .i64 c, .int .i64 (H : Int), .int .i64 s] 30)) (o2 := (.cells #[.slice a n ca, .slice b m cb] 32)) h1 hB) (vb_ints h2 hB) (vb_size hB) hn hm hv).mono (fun e w' hq => (⟨_, hq.1, by simp, hq.2.1, hq.2.2⟩ : ∃ g, e = .returned (.slice (some ⟨g, 0, none⟩) 16 16) ∧ w.heap.size + 2 ≤ g ∧ w'.rowIs g 2 16 (icell .i64 (featV P H c n xs m ys)) ∧ Below ((w.alloc (.cells #[.int .i64 (P : Int), .int .i64 c, .int .i64 (H : Int), .int .i64 s] 30)).alloc (.cells #[.slice a n ca, .slice b m cb] 32)).heap.size ((w.alloc (.cells #[.int .i64 (P : Int), .int .i64 c, .int .i64 (H : Int), .int .i64 s] 30)).alloc (.cells #[.slice a n ca, .slice b m cb] 32)) w')))
  have r0 := (vr4_new w (.int .i64 (P : Int)) (.int .i64 c) (.int .i64 (H : Int)) (.int .i64 s) 30).alloc (.cells #[.slice a n ca, .slice b m cb] 32)
  have R0 := Lib.hid r0
  rw [hL] at FF HBD
  rw [hL]
  have HFL := Lib.hid (fun (W : World) (i : Nat) (hi : i < 16) => (impl_FeatureLimit_any P c H s i W).mono (fun e w' hq => (⟨hq.1.trans (by rw [flim_y hvr (wB_true.2 (by omega))]), hq.2⟩ : e = .returned (.int .i64 (lim P c i)) ∧ Below W.heap.size W w')))
  clear h1 h2 hv hL r0
  go_enter Try.func62, Try.ntmps62
  go_wp2_with fail
  refine FF.out.mono ?_
  rintro e w1 ⟨g, rfl, hg1, hr, hb⟩
  have HB1 := Lib.hid (HB0.trans (hb.mono HB0.size))
  have s0 := rowIs_below R0.out hb R0.out.lt
  have S0 := Lib.hid s0
  have HR := Lib.hid (mixL_0 (P := P) (c := c) hr)
  have hgl := hr.lt
  clear hb hr FF s0 R0 HB0
  go_wp2_with fail
  go_loopw [12] (fun i wr => ∃ k : Nat, k ≤ 16 ∧ i = .int .i64 k ∧ wr.rowIs g 2 16 (icell .i64 (mixL P c L k)) ∧ Out g (g + 1) w1 wr) (fun i _ => 16 - (intOf i).toNat)
  case atStart => exact ⟨0, Nat.zero_le _, rfl, HR.out, Out.refl _ _ _⟩
  case round =>
    obtain ⟨k, hk, rfl, hrow, ho⟩ := hrel
    by_cases hlt : k < 16
    · have hcx := hrow.cell (i := k) (by omega)
      have hfx := hrow.frozen k
      rw [icell_eq, mixL_at _ _ _ _ _ hlt, if_neg (by omega)] at hcx
      have HS := Lib.hid (mixL_set P c L k)
      have HI := Lib.hid (show inpF P c L k = L.getD k 0 * 4096 / lim P c k from rfl)
      obtain ⟨x1, x2⟩ := HBD.out k hlt
      obtain ⟨l1, l2⟩ := HLB.out (k : Int)
      have FL := Lib.hid (fun W => HFL.out W k hlt)
      obtain ⟨x, hx⟩ : ∃ x, L.getD k 0 = x := ⟨_, rfl⟩
      obtain ⟨l, hl⟩ : ∃ x, lim P c k = x := ⟨_, rfl⟩
      rw [hx] at hcx x1 x2 HI
      rw [hl] at l1 l2 HI x2 FL
      clear hx hl
      have x3 : x ≤ 375 := by omega
      have hm1 : IntKind.i64.wrap (x * 4096) = x * 4096 := IntWalk.i64_in _ (by omega)
      have hq2 : 0 ≤ x * 4096 / l := Int.ediv_nonneg (by omega) (by omega)
      have hq3 : x * 4096 / l ≤ 1536000 := Int.le_trans (Int.ediv_le_self _ (by omega)) (by omega)
      have i0 : (0 : Int) ≤ (k : Int) := by omega
      have i1 : (k : Int) < 16 := by omega
      have l0 : (l == 0) = false := by simp; omega
      obtain ⟨c0, c1, c2, c3⟩ := vr4_cells (S0.out.of_block (ho.block w.heap.size S0.out.lt (.inl (by omega))))
      have hz := ho.size
      have hgr : g < wr.heap.size := by omega
      clear x2
      have hro := Lib.hid hrow
      have hoo := Lib.hid ho
      clear hrow ho
      go_wp2_with fail
      go_region_with ((go_at_call 35; refine (FL.out _).mono ?_; rintro e w2 ⟨rfl, hb⟩; have o2 := (hb.cell (p := ⟨g, k, none⟩) hgr).trans hcx; have f2 := (hb.frozen (p := ⟨g, k, none⟩) hgr).trans hfx; have zb2 := hb.size))
      all_goals
        go_wp2
        go_roundw
        case rel => exact ⟨k + 1, by omega, by go_num, by rw [← HS.out, HI.out]; exact row16_set (rowIs_below (w := wr.drew) hro.out hb hgr) (mixL_len _ _ _ _) k _ hlt, (hoo.out.drew.after hb).set (Nat.le_refl _) (by simp) _⟩
        case measure => simp [intOf]; omega
    · have hr16 : wr.rowIs g 2 16 (icell .i64 (mixL P c L 16)) := by
        have e6 : k = 16 := by omega
        simpa only [e6] using hrow
      have HR16 := Lib.hid (mixL_16 hr16)
      have HF := Lib.hid (Out.below HB1.out ho (by omega))
      clear hrow hr16 ho
      go_wp2
      go_ret
      exact ⟨g, rfl, by omega, HR16.out, HF.out⟩

set_option maxRecDepth 100000 in
set_option maxHeartbeats 3200000 in
theorem l22Inputs_any (P H : Nat) (c s : Int) (a : Option Addr) (n ca : Nat) (xs : List Int) (b : Option Addr) (m cb : Nat) (ys : List Int) (B : Nat) (w : World) (h1 : Ints w B .i64 a n xs) (h2 : Ints w B .i64 b m ys) (hB : B ≤ w.heap.size) (hn : n ≤ 1048576) (hm : m ≤ 1048576) (hv : boardB P c H s n xs m ys = true) :
    Calls Try.prog 66 #[vrV P c H s, bdV a n ca b m cb] w fun e w' => ∃ v, e = .returned v ∧ Grows w' w.heap.size v (inpK P c (featV P H c n xs m ys) 16) ∧ Below w.heap.size w w' := by
  have hvr := boardB_vr hv
  obtain ⟨⟨p1, p2⟩, ⟨q1, q2⟩, _, _⟩ := vrB_true.1 hvr
  obtain ⟨L, hL⟩ : ∃ L, featV P H c n xs m ys = L := ⟨_, rfl⟩
  have HBD := Lib.hid (featV_bd hv)
  have HLB := Lib.hid (fun i => lim_bd (P := P) (c := c) (by omega) (by omega) q1 q2 i)
  have HB0 := (((Below.refl w.heap.size w).alloc (Nat.le_refl _) (.cells #[.int .i64 (P : Int), .int .i64 c, .int .i64 (H : Int), .int .i64 s] 30)).alloc (by simp) (.cells #[.slice a n ca, .slice b m cb] 32)).alloc (by simp; omega) (.cells #[] 2)
  have k1 := v_ints (o1 := .cells #[] 2) (vb_ints (o1 := (.cells #[.int .i64 (P : Int), .int .i64 c, .int .i64 (H : Int), .int .i64 s] 30)) (o2 := (.cells #[.slice a n ca, .slice b m cb] 32)) h1 hB) (vb_size hB)
  have k2 := v_ints (o1 := .cells #[] 2) (vb_ints (o1 := (.cells #[.int .i64 (P : Int), .int .i64 c, .int .i64 (H : Int), .int .i64 s] 30)) (o2 := (.cells #[.slice a n ca, .slice b m cb] 32)) h2 hB) (vb_size hB)
  have FF := Lib.hid (l22Features_any P H c s _ _ ca _ _ _ cb _ B _ k1 k2 (v_size (vb_size hB)) hn hm hv)
  have HG0 := Lib.hid (Grows.new ((w.alloc (.cells #[.int .i64 (P : Int), .int .i64 c, .int .i64 (H : Int), .int .i64 s] 30)).alloc (.cells #[.slice a n ca, .slice b m cb] 32)) ((w.alloc (.cells #[.int .i64 (P : Int), .int .i64 c, .int .i64 (H : Int), .int .i64 s] 30)).alloc (.cells #[.slice a n ca, .slice b m cb] 32)).heap.size (Nat.le_refl _))
  have r0 := ((vr4_new w (.int .i64 (P : Int)) (.int .i64 c) (.int .i64 (H : Int)) (.int .i64 s) 30).alloc (.cells #[.slice a n ca, .slice b m cb] 32)).alloc (.cells #[] 2)
  have R0 := Lib.hid r0
  have r1 := (pr_new (w.alloc (.cells #[.int .i64 (P : Int), .int .i64 c, .int .i64 (H : Int), .int .i64 s] 30)) (.slice a n ca) (.slice b m cb) 32).alloc (.cells #[] 2)
  simp only [World.size_alloc] at r1
  have R1 := Lib.hid r1
  obtain ⟨c0, c1, c2, c3⟩ := vr4_cells R0.out
  obtain ⟨d0, d1⟩ := pr_cells R1.out
  rw [hL] at FF HBD
  rw [hL]
  have hLL : L.length = 16 := by rw [← hL]; rfl
  have HLL := Lib.hid hLL
  have HFL := Lib.hid (fun (W : World) (i : Nat) (hi : i < 16) => l22Limit_any P c H s i W hvr)
  clear h1 h2 hv hL r0 r1 k1 k2 hLL
  go_enter Try.func66, Try.ntmps66
  go_wp2_with fail
  refine FF.out.mono ?_
  rintro e w1 ⟨sl, rfl, hgl, hb⟩
  have zb := hb.size
  simp only [World.size_alloc] at zb
  obtain ⟨al, cl, rfl, _, hrl⟩ := hgl.out
  have HG1 := Lib.hid (HG0.out.below hb)
  simp only [World.size_alloc] at HG1 hrl
  have HGR := Lib.hid (Grown.start HG1.out (fun g e => own_at e) (by omega))
  have HB1 := Lib.hid (HB0.trans (hb.mono HB0.size))
  have s0 := rowIs_below R0.out hb R0.out.lt
  have S0 := Lib.hid s0
  rw [HLL.out] at hrl
  obtain ⟨gl, rfl, gl1, gl2, gl3, hcl⟩ := hrl.blk (by omega)
  have HCL := Lib.hid hcl
  rw [HLL.out]
  clear c0 c1 c2 c3 d0 d1 R0 R1 hb hgl hrl hcl s0 HG0 HG1 FF HB0
  go_wp2_with fail
  go_loopw [5, 7] (fun sl i wr => ∃ (k : Nat) (sv : Value), k ≤ 16 ∧ i = .int .i64 k ∧ sv = sl ∧ Grown w1 (w.heap.size + 1 + 1) wr sv (inpK P c L k)) (fun _ i _ => 16 - (intOf i).toNat)
  case atStart => exact ⟨0, _, Nat.zero_le _, rfl, rfl, HGR.out⟩
  case round =>
    obtain ⟨k, sv, hk, rfl, rfl, hg⟩ := hrel
    by_cases hlt : k < 16
    · have hkk : ∀ W, Out (w.heap.size + 1 + 1) (w.heap.size + 1 + 1 + 1) w1 W → W.rowIs w.heap.size 30 4 (vr4 (.int .i64 (P : Int)) (.int .i64 c) (.int .i64 (H : Int)) (.int .i64 s)) ∧ W.cell? ⟨gl, k, none⟩ = some (.int .i64 (L.getD k 0)) := fun W ho =>
        ⟨S0.out.of_block (ho.block w.heap.size S0.out.lt (.inl (by omega))), (World.cell?_of_block (w := w1) (a := ⟨gl, k, none⟩) (ho.block gl gl3 (.inr (by omega)))).trans (HCL.out k hlt).1⟩
      have HS := Lib.hid (inpK_succ P c L k)
      have HI := Lib.hid (show inpF P c L k = L.getD k 0 * 4096 / lim P c k from rfl)
      obtain ⟨x1, x2⟩ := HBD.out k hlt
      obtain ⟨l1, l2⟩ := HLB.out (k : Int)
      have FL := Lib.hid (fun W => HFL.out W k hlt)
      obtain ⟨x, hx⟩ : ∃ x, L.getD k 0 = x := ⟨_, rfl⟩
      obtain ⟨l, hl⟩ : ∃ x, lim P c k = x := ⟨_, rfl⟩
      rw [hx] at hkk x1 x2 HI
      rw [hl] at l1 l2 HI x2 FL
      clear hx hl
      have x3 : x ≤ 375 := by omega
      have hm1 : IntKind.i64.wrap (x * 4096) = x * 4096 := IntWalk.i64_in _ (by omega)
      have hq2 : 0 ≤ x * 4096 / l := Int.ediv_nonneg (by omega) (by omega)
      have hq3 : x * 4096 / l ≤ 1536000 := Int.le_trans (Int.ediv_le_self _ (by omega)) (by omega)
      have i0 : (0 : Int) ≤ (k : Int) := by omega
      have i1 : (k : Int) < 16 := by omega
      have l0 : (l == 0) = false := by simp; omega
      have hwt : IntKind.i64.wrap ((x * 4096).tdiv l) = x * 4096 / l := by rw [Int.tdiv_eq_ediv_of_nonneg (by omega)]; exact IntWalk.i64_in _ (by omega)
      have hwq : IntKind.i64.wrap (x * 4096 / l) = x * 4096 / l := IntWalk.i64_in _ (by omega)
      have hl0 : ¬ l = 0 := by omega
      have hln : (inpK P c L k).length ≤ 100 := by rw [inpK_len]; omega
      obtain ⟨qv, hcx⟩ := hkk _ hg.out
      obtain ⟨c0, c1, c2, c3⟩ := vr4_cells qv
      have HKK := Lib.hid hkk
      have hgg := Lib.hid hg
      clear x2 hkk hg qv
      go_wp2_with fail
      go_region_held3 (fun w' => w'.cell? ⟨gl, k, none⟩ = some (.int .i64 x) ∧ w'.cell? ⟨w.heap.size, 0, none⟩ = some (.int .i64 (P : Int)) ∧ w'.cell? ⟨w.heap.size, 1, none⟩ = some (.int .i64 c) ∧ w'.cell? ⟨w.heap.size, 2, none⟩ = some (.int .i64 (H : Int)) ∧ w'.cell? ⟨w.heap.size, 3, none⟩ = some (.int .i64 s))
        (first
          | exact ⟨(HKK.out _ hg3.out).2, vr4_cells (HKK.out _ hg3.out).1⟩
          | exact ⟨(HKK.out _ hg2.out).2, vr4_cells (HKK.out _ hg2.out).1⟩
          | go_keep)
        (first
          | (go_at_call 91; refine (FL.out _).mono ?_; rintro e w2 ⟨rfl, hb⟩; have hg2 := hgg.out.drew.after hb)
          | (refine step_app_grown rfl (.tmp 16) (.tmp 26) (by rfl) (by rfl) (hg2.alloc _) ⟨w2.heap.size, 0, none⟩ [x * 4096 / l] 1 1 (by rfl) (by omega) rfl (news1 (new_cell w2 #[.int .i64 (x * 4096 / l)] 2 0)) (by omega) ?_; intro v3 w3 hg3 _))
      all_goals
        go_wp2
        go_roundw
        case rel => exact ⟨k + 1, _, by omega, by go_num, rfl, by rw [HS.out, HI.out]; exact hg3⟩
        case measure => simp [intOf]; omega
    · have hg16 : Grown w1 (w.heap.size + 1 + 1) wr sv (inpK P c L 16) := by
        have e6 : k = 16 := by omega
        rw [← e6]; exact hg
      have HG16 := Lib.hid hg16
      clear hg hg16
      go_wp2
      go_ret
      exact ⟨_, rfl, HG16.out.grows.lower (by omega), Out.below HB1.out HG16.out.out (by omega)⟩

set_option maxHeartbeats 800000 in
theorem impl_InputsOf_any (p c h s : Int) (a : Option Addr) (n ca : Nat) (xs : List Int) (b : Option Addr) (m cb : Nat) (ys : List Int) (B : Nat) (w : World) (h1 : Ints w B .i64 a n xs) (h2 : Ints w B .i64 b m ys) (hB : B ≤ w.heap.size) (hn : n ≤ 1048576) (hm : m ≤ 1048576) :
    Calls Try.prog 34 #[vrV p c h s, bdV a n ca b m cb] w fun e w' => LPost (inpB p c h s n xs m ys) (bdC p c h s n xs m ys) w e w' := by
  cases hv : boardB p c h s n xs m ys
  · rw [inpB_no hv, bdC_no hv]
    go_enter Try.func34, Try.ntmps34
    go_wp2_with fail
    refine (impl_IsBoard_any _ _ _ _ _ _ _ _ _ _ _ _ B _ (vb_ints h1 hB) (vb_ints h2 hB) (vb_size hB) hn hm).mono ?_
    rw [hv]
    rintro e v ⟨rfl, hb⟩
    obtain ⟨R0, R1, HB0, hz⟩ := vb_after hb
    go_wp2_with fail
    go_ret2
    exact .of_nil rfl rfl HB0
  · obtain ⟨P, hP, _⟩ := boardB_out hv
    subst hP
    obtain ⟨H, hH, _⟩ := boardB_home hv
    subst hH
    rw [inpB_yes hv, bdC_yes hv]
    go_enter Try.func34, Try.ntmps34
    go_wp2_with fail
    refine (impl_IsBoard_any _ _ _ _ _ _ _ _ _ _ _ _ B _ (vb_ints h1 hB) (vb_ints h2 hB) (vb_size hB) hn hm).mono ?_
    rw [hv]
    rintro e v ⟨rfl, hb⟩
    obtain ⟨R0, R1, HB0, hz⟩ := vb_after hb
    have hzB : B ≤ v.heap.size := by omega
    have k1 : Ints v B .i64 a n xs := (vb_ints h1 hB).below (hb.mono (vb_size hB))
    have k2 : Ints v B .i64 b m ys := (vb_ints h2 hB).below (hb.mono (vb_size hB))
    obtain ⟨c0, c1, c2, c3⟩ := vr4_cells R0
    obtain ⟨d0, d1⟩ := pr_cells R1
    have FF := Lib.hid (inputs_any P H c s _ _ ca _ _ _ cb _ B v k1 k2 hzB hn hm hv)
    clear hb R0 R1 hv
    go_wp2_with fail
    refine FF.out.mono ?_
    rintro e v2 ⟨g, rfl, hg1, hr, hb2⟩
    have hz2 := hb2.size
    have HR := Lib.hid hr
    clear hr
    go_wp2_with fail
    go_ret2
    exact ⟨_, 16, _, rfl, inpK_len _ _ _ _, RowN.of_row HR.out (by omega) HR.out.lt, HB0.trans (hb2.mono HB0.size)⟩

set_option maxHeartbeats 800000 in
theorem spec_InputsOf_any (p c h s : Int) (a : Option Addr) (n ca : Nat) (xs : List Int) (b : Option Addr) (m cb : Nat) (ys : List Int) (B : Nat) (w : World) (h1 : Ints w B .i64 a n xs) (h2 : Ints w B .i64 b m ys) (hB : B ≤ w.heap.size) (hn : n ≤ 1048576) (hm : m ≤ 1048576) :
    Calls Try.prog 40 #[vrV p c h s, bdV a n ca b m cb] w fun e w' => LPost (inpB p c h s n xs m ys) (bdC p c h s n xs m ys) w e w' := by
  cases hv : boardB p c h s n xs m ys
  · rw [inpB_no hv, bdC_no hv]
    go_enter Try.func40, Try.ntmps40
    go_wp2_with fail
    refine (spec_IsBoard_any _ _ _ _ _ _ _ _ _ _ _ _ B _ (vb_ints h1 hB) (vb_ints h2 hB) (vb_size hB) hn hm).mono ?_
    rw [hv]
    rintro e v ⟨rfl, hb⟩
    obtain ⟨R0, R1, HB0, hz⟩ := vb_after hb
    go_wp2_with fail
    go_ret2
    exact .of_nil rfl rfl HB0
  · obtain ⟨P, hP, _⟩ := boardB_out hv
    subst hP
    obtain ⟨H, hH, _⟩ := boardB_home hv
    subst hH
    rw [inpB_yes hv, bdC_yes hv]
    go_enter Try.func40, Try.ntmps40
    go_wp2_with fail
    refine (spec_IsBoard_any _ _ _ _ _ _ _ _ _ _ _ _ B _ (vb_ints h1 hB) (vb_ints h2 hB) (vb_size hB) hn hm).mono ?_
    rw [hv]
    rintro e v ⟨rfl, hb⟩
    obtain ⟨R0, R1, HB0, hz⟩ := vb_after hb
    have hzB : B ≤ v.heap.size := by omega
    have k1 : Ints v B .i64 a n xs := (vb_ints h1 hB).below (hb.mono (vb_size hB))
    have k2 : Ints v B .i64 b m ys := (vb_ints h2 hB).below (hb.mono (vb_size hB))
    obtain ⟨c0, c1, c2, c3⟩ := vr4_cells R0
    obtain ⟨d0, d1⟩ := pr_cells R1
    have FF := Lib.hid (l22Inputs_any P H c s _ _ ca _ _ _ cb _ B v k1 k2 hzB hn hm hv)
    clear hb R0 R1 hv
    go_wp2_with fail
    refine FF.out.mono ?_
    rintro e v2 ⟨sl, rfl, hg, hb2⟩
    have HG := Lib.hid hg
    clear hg
    go_wp2_with fail
    go_ret2
    exact .of_grows rfl HG.out (by omega) (HB0.trans (hb2.mono HB0.size))
end Go.Proofs.Ytoolggmomlmnbaa
