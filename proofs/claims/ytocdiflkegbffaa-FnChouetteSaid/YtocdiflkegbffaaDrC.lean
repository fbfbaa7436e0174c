/-
  The draws of chouettes: orders, outcomes, games.
-/
import Derived.Test.YtocdiflkegbffaaDrK
import Derived.Test.YtocdiflkegbffaaChs
import Derived.Deep.Heap
namespace Go.Proofs.Ytocdiflkegbffaa
open Go.ChangeShapes Go.WideShapes Go.ChangeAt Go.RowKit
set_option linter.unusedVariables false

/-! ### why the search for a free player ends -/
theorem pig : ∀ {L xs : List Int}, L.Nodup → (∀ x ∈ L, x ∈ xs) → L.length ≤ xs.length
  | [], _, _, _ => Nat.zero_le _
  | a :: L, xs, hn, hs => by
    have ha : a ∈ xs := hs a (by simp)
    have hn' := List.nodup_cons.1 hn
    have ih := pig (L := L) (xs := xs.erase a) hn'.2 (fun x hx => (List.mem_erase_of_ne (fun e => by subst e; exact hn'.1 hx)).2 (hs x (by simp [hx])))
    rw [List.length_erase_of_mem ha] at ih
    have : 0 < xs.length := List.length_pos_of_mem ha
    simp only [List.length_cons]
    omega
/-- how many players from k on are taken, one after the other -/
def frs (xs : List Int) : Nat → Int → Nat
  | 0, _ => 0
  | f + 1, k => if k ∈ xs then frs xs f ((k + 1) % 8) + 1 else 0
theorem frs_le (xs : List Int) : ∀ f k, frs xs f k ≤ f
  | 0, _ => Nat.le_refl _
  | f + 1, k => by
    rw [frs]
    split
    · have := frs_le xs f ((k + 1) % 8); omega
    · omega
theorem frs_stable (xs : List Int) : ∀ f k, frs xs f k < f → frs xs (f + 1) k = frs xs f k
  | 0, _, h => absurd h (by omega)
  | f + 1, k, h => by
    have e1 : frs xs (f + 1 + 1) k = if k ∈ xs then frs xs (f + 1) ((k + 1) % 8) + 1 else 0 := rfl
    have e2 : frs xs (f + 1) k = if k ∈ xs then frs xs f ((k + 1) % 8) + 1 else 0 := rfl
    rw [e2] at h
    rw [e1, e2]
    by_cases e : k ∈ xs
    · rw [if_pos e] at h
      rw [if_pos e, if_pos e, frs_stable xs f _ (by omega)]
    · rw [if_neg e, if_neg e]
theorem frs_full (xs : List Int) : ∀ f k, frs xs f k = f → 0 ≤ k → k ≤ 7 → ∀ t : Nat, t < f → (k + t) % 8 ∈ xs
  | 0, _, _, _, _, t, ht => absurd ht (by omega)
  | f + 1, k, h, h0, h7, t, ht => by
    rw [frs] at h
    by_cases e : k ∈ xs
    · rw [if_pos e] at h
      by_cases et : t = 0
      · subst et
        have : (k + ((0 : Nat) : Int)) % 8 = k := by rw [Int.natCast_zero, Int.add_zero]; exact Int.emod_eq_of_lt h0 (by omega)
        rw [this]; exact e
      · have ih := frs_full xs f ((k + 1) % 8) (by omega) (Int.emod_nonneg _ (by decide)) (by have := Int.emod_lt_of_pos (k + 1) (show (0 : Int) < 8 by decide); omega) (t - 1) (by omega)
        have e2 : ((k + 1) % 8 + ((t - 1 : Nat) : Int)) % 8 = (k + t) % 8 := by omega
        rw [e2] at ih; exact ih
    · rw [if_neg e] at h; omega
theorem eight_nodup {k : Int} (h0 : 0 ≤ k) (h7 : k ≤ 7) : ((List.range 8).map (fun t : Nat => (k + t) % 8)).Nodup := by
  obtain ⟨n, rfl⟩ := Int.eq_ofNat_of_zero_le h0
  have : n ≤ 7 := by omega
  match n, this with
  | 0, _ => decide
  | 1, _ => decide
  | 2, _ => decide
  | 3, _ => decide
  | 4, _ => decide
  | 5, _ => decide
  | 6, _ => decide
  | 7, _ => decide
theorem frs_lt {xs : List Int} {k : Int} (hl : xs.length < 8) (h0 : 0 ≤ k) (h7 : k ≤ 7) : frs xs 8 k < 8 := by
  rcases Nat.lt_or_ge (frs xs 8 k) 8 with h | h
  · exact h
  · have he : frs xs 8 k = 8 := Nat.le_antisymm (frs_le xs 8 k) h
    have hf := frs_full xs 8 k he h0 h7
    have := pig (eight_nodup h0 h7) (xs := xs) (fun x hx => by
      obtain ⟨t, ht, rfl⟩ := List.mem_map.1 hx
      exact hf t (List.mem_range.1 ht))
    simp at this
    omega
theorem frs_dec {xs : List Int} {k : Int} (hl : xs.length < 8) (h0 : 0 ≤ k) (h7 : k ≤ 7) (hk : k ∈ xs) : frs xs 8 ((k + 1) % 8) < frs xs 8 k := by
  have h1 := frs_lt hl h0 h7
  have e : frs xs 8 k = frs xs 7 ((k + 1) % 8) + 1 := by
    show frs xs (7 + 1) k = _
    rw [frs, if_pos hk]
  have e2 := frs_stable xs 7 ((k + 1) % 8) (by omega)
  have e3 : frs xs 8 ((k + 1) % 8) = frs xs (7 + 1) ((k + 1) % 8) := rfl
  omega
theorem mem_getD {ys : List Int} {i : Nat} {x : Int} (hi : i < ys.length) (h : ys.getD i 0 = x) : x ∈ ys := by
  rw [← h, getD_lt hi]; exact List.getElem_mem hi

/-- what l21DrawOrder returns: a list of 1 to 5 integers in a block of its own -/
def OrdPost (w0 : World) (g : Nat) (a : Option Addr) (n c : Nat) (xs : List Int) (w : World) (e : Ending) (w' : World) : Prop :=
  ∃ (b m d : Nat) (ys : List Int), e = .returned (.slice (some ⟨b, 0, none⟩) m d) ∧ 1 ≤ m ∧ m ≤ 5 ∧ m ≤ d ∧ ys.length = m ∧ RowN w' w.heap.size w'.heap.size 2 (some ⟨b, 0, none⟩) m (icell .i64 ys) ∧ Drawing w0 g a n c xs w' ∧ w.grownBy w' (some g)
theorem ord_end {w0 w w' : World} {g n c m gl cap : Nat} {a : Option Addr} {xs ys : List Int} (hr : RowN w' w.heap.size w'.heap.size 2 (some ⟨gl, 0, none⟩) m (icell .i64 ys)) (hl : ys.length = m) (h1 : 1 ≤ m) (h5 : m ≤ 5) (hc : m ≤ cap) (hd : Drawing w0 g a n c xs w') (hg : w.grownBy w' (some g)) :
    OrdPost w0 g a n c xs w (.returned (.slice (some ⟨gl, 0, none⟩) m cap)) w' := ⟨gl, m, cap, ys, rfl, h1, h5, hc, hl, hr, hd, hg⟩
theorem row_less {w : World} {lo hi m m' : Nat} {t : TypeId} {A : Option Addr} {f : Nat → Value} (h : RowN w lo hi t A m f) (hm : m' ≤ m) : RowN w lo hi t A m' f := by
  rcases h with h | ⟨g', e, h1, h2, N, f', h3, h4, h5⟩
  · exact .inl (by omega)
  · exact .inr ⟨g', e, h1, h2, N, f', by omega, h4, fun i hi => h5 i (by omega)⟩
theorem row_set1 {w : World} {lo hi gl m i : Nat} {ys : List Int} {u : Int} (hr : RowN w lo hi 2 (some ⟨gl, 0, none⟩) m (icell .i64 ys)) (hl : ys.length = m) (hi' : i < m) : RowN (w.setCell ⟨gl, i, none⟩ (.int .i64 u)) lo hi 2 (some ⟨gl, 0, none⟩) m (icell .i64 (ys.set i u)) :=
  (hr.set hi' (.int .i64 u)).congr fun j _ => icell_set u hl hi' j
set_option maxRecDepth 16000 in
set_option maxHeartbeats 3200000 in
theorem l21DrawOrder_dr (w0 : World) (g : Nat) (a : Option Addr) (n c : Nat) (xs : List Int) (w : World) (hd : Drawing w0 g a n c xs w) :
    Calls Try.prog 66 #[.pointer (some ⟨g, 0, none⟩)] w fun e w' => OrdPost w0 g a n c xs w e w' := by
  have NX := Lib.hid (fun m W hm hD => next_dr m w0 g a n c xs W hD hm)
  have hlt := hd.lt
  have D0 := Lib.hid (hd.alloc (.cells #[] 2))
  have G0 := Lib.hid (grown_al (by_refl w (some g)) (.cells #[] 2))
  have O0 := Lib.hid (Grows.new w w.heap.size (Nat.le_refl _))
  clear hd
  go_enter Try.func66, Try.ntmps66
  go_wp2_with fail
  refine (NX.out 4 _ (by omega) D0.out).mono ?_
  rintro e w1 ⟨r0, rfl, r1, r2, hd1, hg1⟩
  have r3 : r0 < 4 := by omega
  have D1 := Lib.hid hd1
  have G1 := Lib.hid (by_trans G0.out hg1)
  have O1 := Lib.hid (O0.out.grown hg1 hlt)
  clear r2 hd1 hg1 D0 G0 O0
  go_wp2_with fail
  go_loopw [3, 4] (fun v r wr => ∃ (nv : Value) (ys : List Int) (q : Int), nv = v ∧ r = .int .i64 q ∧ 0 ≤ q ∧ q + ys.length ≤ 5 ∧ 2 ≤ q + ys.length ∧ Hid (Grows wr w.heap.size nv ys) ∧ Hid (Drawing w0 g a n c xs wr) ∧ Hid (w.grownBy wr (some g))) (fun _ r _ => (intOf r).toNat)
  case atStart => exact ⟨_, [], 2 + r0, rfl, rfl, by omega, by simp; omega, by simp; omega, O1, D1, G1⟩
  case round =>
    obtain ⟨nv, ys, q, rfl, rfl, q0, q1, q2, HO, hD, hG⟩ := hrel
    have zr := hG.out.size
    obtain ⟨L, hL⟩ : ∃ L, ys.length = L := ⟨_, rfl⟩
    have HL := Lib.hid hL
    rw [hL] at q1 q2
    clear hL
    by_cases hq : 0 < q
    · have l4 : L ≤ 4 := by omega
      go_wp2_with fail
      refine (NX.out 8 _ (by omega) hD.out).mono ?_
      rintro e w3 ⟨x, rfl, x1, x2, hd3, hg3⟩
      have x3 : x ≤ 7 := by omega
      have D3 := Lib.hid hd3
      have G3 := Lib.hid (by_trans hG.out hg3)
      have O3 := Lib.hid (HO.out.grown hg3 hlt)
      have zg := hg3.size
      obtain ⟨A, cA, hnv, hcA, hrow⟩ := O3.out.out
      rw [HL.out] at hnv hcA hrow
      subst hnv
      have HR := Lib.hid hrow
      clear x2 hd3 hg3 hrow
      go_wp2_with fail
      go_loop [5, 6] (fun kv iv => ∃ (k : Int) (i : Nat), kv = .int .i64 k ∧ iv = .int .i64 (i : Int) ∧ 0 ≤ k ∧ k ≤ 7 ∧ i ≤ L) (fun kv iv => frs ys 8 (intOf kv) * 16 + (L - (intOf iv).toNat))
      case atStart => exact ⟨x, 0, rfl, rfl, x1, x3, Nat.zero_le _⟩
      case round =>
        obtain ⟨k, i, rfl, rfl, k0, k7, hi⟩ := hrel
        by_cases hil : i < L
        · obtain ⟨gl, hA, hgl1, hgl2, hgl3, hcell⟩ := HR.out.blk (by omega)
          subst hA
          have ci := (hcell i hil).1
          rw [icell] at ci
          obtain ⟨v, hv⟩ : ∃ v, ys.getD i 0 = v := ⟨_, rfl⟩
          rw [hv] at ci
          clear hcell
          by_cases he : v = k
          · have hb : (v == k) = true := by simpa using he
            have hr : (k + 1).tmod 8 = (k + 1) % 8 := Int.tmod_eq_emod_of_nonneg (by omega)
            have hdec := Lib.hid (frs_dec (by rw [HL.out]; omega) k0 k7 (mem_getD (by rw [HL.out]; exact hil) (hv.trans he)))
            have k1 : 0 ≤ (k + 1) % 8 := by omega
            have k2 : (k + 1) % 8 ≤ 7 := by omega
            clear he hv
            obtain ⟨k', hk'⟩ : ∃ k', (k + 1) % 8 = k' := ⟨_, rfl⟩
            rw [hk'] at hr hdec k1 k2
            clear hk'
            go_wp2
            go_round
            case rel => exact ⟨k', 0, by go_num, by go_num, k1, k2, Nat.zero_le _⟩
            case measure => have := hdec.out; simp [intOf]; omega
          · have hb : (v == k) = false := by simpa using he
            clear he hv
            go_wp2
            go_round
            case rel => exact ⟨k, i + 1, rfl, by go_num, k0, k7, by omega⟩
            case measure => simp [intOf]; omega
        · obtain rfl : i = L := by omega
          have c0 := new_cell w3 #[.int .i64 k] 2 0
          have C0 := Lib.hid (show (w3.alloc (.cells #[.int .i64 k] 2)).cell? ⟨w3.heap.size, 0, none⟩ = some (.int .i64 k) from c0)
          have OA := Lib.hid (O3.out.alloc (.cells #[.int .i64 k] 2))
          clear c0
          go_wp2_with (at_builtin; refine app_grow rfl (.tmp 32) (.tmp 34) rfl rfl OA.out ⟨w3.heap.size, 0, none⟩ k rfl C0.out (by rw [HL.out]; omega) (by simp; omega) ?_; intro v5 w5 hg5 hb5; have HG5 := Lib.hid hg5; have HB5 := Lib.hid (((Below.refl w.heap.size w3).alloc (by omega) (.cells #[.int .i64 k] 2)).trans hb5); clear hg5 hb5)
          go_roundw
          case rel =>
            refine ⟨_, _, q - 1, rfl, by go_num, by omega, ?_, ?_, HG5, Lib.hid (D3.out.keepB HB5.out hlt), Lib.hid (grown_be G3.out HB5.out (Nat.le_refl _))⟩
            · rw [List.length_append, HL.out]; simp; omega
            · rw [List.length_append, HL.out]; simp; omega
          case measure => simp [intOf]; omega
    · have l2 : 2 ≤ L := by omega
      have l5 : L ≤ 5 := by omega
      go_wp2_with fail
      refine (NX.out 30 _ (by omega) hD.out).mono ?_
      rintro e w3 ⟨x, rfl, x1, x2, hd3, hg3⟩
      have x3 : x < 30 := by omega
      have D3 := Lib.hid hd3
      have G3 := Lib.hid (by_trans hG.out hg3)
      obtain ⟨gl, cp, hnv, hgl, hrow, hcp⟩ := grows_sh (HO.out.grown hg3 hlt) HL.out (by omega)
      subst hnv
      have hglt : g < gl := by omega
      have HR := Lib.hid hrow
      have CK := Lib.hid (fun i (hi : i < L) => row_cells HR.out hi)
      clear x2 hd3 hg3 hrow
      obtain ⟨y1, hy1⟩ : ∃ y, ys.getD 1 0 = y := ⟨_, rfl⟩
      obtain ⟨c0, f0⟩ := CK.out 0 (by omega)
      have c1 := (CK.out 1 (by omega)).1
      rw [icell] at c0 c1
      rw [hy1] at c1
      clear hy1
      by_cases h0 : x = 0
      · subst h0
        have HF := Lib.hid (row_set1 (u := y1) (i := 0) HR.out HL.out (by omega))
        go_wp2
        go_ret
        exact ord_end (by simpa using HF.out) (by rw [List.length_set]; exact HL.out) (by omega) l5 hcp (D3.out.setB hglt _) (grown_se G3.out hgl _)
      · have h0' : (x == 0) = false := by simpa using h0
        by_cases h1 : x = 1
        · subst h1
          have HF := Lib.hid (row_set1 (u := 8) (i := 0) HR.out HL.out (by omega))
          go_wp2
          go_ret
          exact ord_end (by simpa using HF.out) (by rw [List.length_set]; exact HL.out) (by omega) l5 hcp (D3.out.setB hglt _) (grown_se G3.out hgl _)
        · have h1' : (x == 1) = false := by simpa using h1
          by_cases h2 : x = 2
          · subst h2
            go_wp2
            go_ret
            refine ⟨gl, 1, cp, ys.take 1, rfl, by omega, by omega, by omega, by rw [List.length_take, HL.out]; omega, ?_, D3.out, G3.out⟩
            refine (row_less HR.out (by omega)).congr (fun j hj => ?_)
            obtain rfl : j = 0 := by omega
            rw [icell, icell, List.getD_eq_getElem?_getD, List.getD_eq_getElem?_getD, List.getElem?_take_of_lt (by omega)]
          · have h2' : (x == 2) = false := by simpa using h2
            go_wp2
            go_ret
            exact ord_end HR.out HL.out (by omega) l5 hcp D3.out G3.out
/-- what l21DrawOutcomes returns: an own list of at most team + 1 integers -/
def OutsPost (w0 : World) (g : Nat) (a : Option Addr) (n c : Nat) (xs : List Int) (t : Nat) (w : World) (e : Ending) (w' : World) : Prop :=
  ∃ (A : Option Addr) (m d : Nat) (ys : List Int), e = .returned (.slice A m d) ∧ m ≤ t + 1 ∧ ys.length = m ∧ RowN w' w.heap.size w'.heap.size 2 A m (icell .i64 ys) ∧ Drawing w0 g a n c xs w' ∧ w.grownBy w' (some g)
theorem outs_end {w0 w w' : World} {g n c t : Nat} {a : Option Addr} {xs ys : List Int} {v : Value} (h : Grows w' w.heap.size v ys) (hl : ys.length ≤ t + 1) (hd : Drawing w0 g a n c xs w') (hg : w.grownBy w' (some g)) : OutsPost w0 g a n c xs t w (.returned v) w' := by
  obtain ⟨A, d, rfl, _, hr⟩ := h.out
  exact ⟨A, _, d, ys, rfl, hl, rfl, hr, hd, hg⟩
set_option maxRecDepth 16000 in
set_option maxHeartbeats 3200000 in
theorem l21DrawOutcomes_dr (w0 : World) (g : Nat) (a : Option Addr) (n c : Nat) (xs : List Int) (t : Nat) (w : World) (hd : Drawing w0 g a n c xs w) (ht : t ≤ 7) :
    Calls Try.prog 68 #[.pointer (some ⟨g, 0, none⟩), .int .i64 (t : Int)] w fun e w' => OutsPost w0 g a n c xs t w e w' := by
  have NX := Lib.hid (fun m W hm hD => next_dr m w0 g a n c xs W hD hm)
  have hlt := hd.lt
  have D0 := Lib.hid (hd.alloc (.cells #[] 2))
  have G0 := Lib.hid (grown_al (by_refl w (some g)) (.cells #[] 2))
  have O0 := Lib.hid (Grows.new w w.heap.size (Nat.le_refl _))
  clear hd
  go_enter Try.func68, Try.ntmps68
  go_wp2_with fail
  go_loopw [5, 6] (fun v r wr => ∃ (nv : Value) (ys : List Int) (i : Nat), nv = v ∧ r = .int .i64 (i : Int) ∧ i ≤ t ∧ Hid (ys.length = i) ∧ Hid (Grows wr w.heap.size nv ys) ∧ Hid (Drawing w0 g a n c xs wr) ∧ Hid (w.grownBy wr (some g))) (fun _ r _ => t - (intOf r).toNat)
  case atStart => exact ⟨_, [], 0, rfl, rfl, Nat.zero_le _, Lib.hid rfl, O0, D0, G0⟩
  case round =>
    obtain ⟨nv, ys, i, rfl, rfl, hi, HL, HO, hD, hG⟩ := hrel
    have zr := hG.out.size
    by_cases hit : i < t
    · go_wp2_with fail
      refine (NX.out 17 _ (by omega) hD.out).mono ?_
      rintro e w3 ⟨x, rfl, x1, x2, hd3, hg3⟩
      have x3 : x ≤ 16 := by omega
      have D3 := Lib.hid hd3
      have G3 := Lib.hid (by_trans hG.out hg3)
      have O3 := Lib.hid (HO.out.grown hg3 hlt)
      have zg := hg3.size
      clear x2 hd3 hg3
      have c0 := new_cell w3 #[.int .i64 (x - 8)] 2 0
      have C0 := Lib.hid (show (w3.alloc (.cells #[.int .i64 (x - 8)] 2)).cell? ⟨w3.heap.size, 0, none⟩ = some (.int .i64 (x - 8)) from c0)
      have OA := Lib.hid (O3.out.alloc (.cells #[.int .i64 (x - 8)] 2))
      clear c0
      go_wp2_with (at_builtin; refine app_grow rfl (.tmp 13) (.tmp 17) rfl rfl OA.out ⟨w3.heap.size, 0, none⟩ (x - 8) rfl C0.out (by rw [HL.out]; omega) (by simp; omega) ?_; intro v5 w5 hg5 hb5; have HG5 := Lib.hid hg5; have HB5 := Lib.hid (((Below.refl w.heap.size w3).alloc (by omega) (.cells #[.int .i64 (x - 8)] 2)).trans hb5); clear hg5 hb5)
      go_roundw
      case rel => exact ⟨_, _, i + 1, rfl, by go_num, by omega, Lib.hid (by rw [List.length_append, HL.out]; rfl), HG5, Lib.hid (D3.out.keepB HB5.out hlt), Lib.hid (grown_be G3.out HB5.out (Nat.le_refl _))⟩
      case measure => simp [intOf]; omega
    · obtain rfl : i = t := by omega
      go_wp2_with fail
      refine (NX.out 40 _ (by omega) hD.out).mono ?_
      rintro e w3 ⟨x, rfl, x1, x2, hd3, hg3⟩
      have x3 : x < 40 := by omega
      have D3 := Lib.hid hd3
      have G3 := Lib.hid (by_trans hG.out hg3)
      have O3 := Lib.hid (HO.out.grown hg3 hlt)
      have zg := hg3.size
      clear x2 hd3 hg3
      by_cases h0 : x = 0
      · subst h0
        have c0 := new_cell w3 #[.int .i64 1] 2 0
        have C0 := Lib.hid (show (w3.alloc (.cells #[.int .i64 1] 2)).cell? ⟨w3.heap.size, 0, none⟩ = some (.int .i64 1) from c0)
        have OA := Lib.hid (O3.out.alloc (.cells #[.int .i64 1] 2))
        clear c0
        go_wp2_with (at_builtin; refine app_grow rfl (.tmp 23) (.tmp 24) rfl rfl OA.out ⟨w3.heap.size, 0, none⟩ 1 rfl C0.out (by rw [HL.out]; omega) (by simp; omega) ?_; intro v5 w5 hg5 hb5; have HG5 := Lib.hid hg5; have HB5 := Lib.hid (((Below.refl w.heap.size w3).alloc (by omega) (.cells #[.int .i64 1] 2)).trans hb5); clear hg5 hb5)
        go_ret
        exact outs_end HG5.out (by rw [List.length_append, HL.out]; simp) (D3.out.keepB HB5.out hlt) (grown_be G3.out HB5.out (Nat.le_refl _))
      · have h0' : (x == 0) = false := by simpa using h0
        by_cases h1 : x = 1
        · subst h1
          by_cases hi0 : i = 0
          · subst hi0
            go_wp2_with fail
            go_ret
            exact outs_end O3.out (by rw [HL.out]; omega) D3.out G3.out
          · have hi1 : 0 < i := by omega
            obtain ⟨gl, cp, hnv, hgl, hrow, hcp⟩ := grows_sh O3.out HL.out (by omega)
            subst hnv
            have hglt : g < gl := by omega
            have HR := Lib.hid hrow
            clear hrow
            go_wp2_with fail
            refine (NX.out 2 _ (by omega) D3.out).mono ?_
            rintro e w4 ⟨y, rfl, y1, y2, hd4, hg4⟩
            have y3 : y < 2 := by omega
            have D4 := Lib.hid hd4
            have G4 := Lib.hid (by_trans G3.out hg4)
            have hr4 := HR.out.grown hg4 (.inl hlt)
            have zh := hg4.size
            obtain ⟨f0c, f0⟩ := row_cells hr4 hi1
            have HF := Lib.hid (row_set1 (u := 1000000 + y) (i := 0) hr4 HL.out (by omega))
            clear y2 hd4 hg4 hr4
            go_wp2
            go_ret
            exact ⟨_, _, _, _, rfl, by omega, by rw [List.length_set]; exact HL.out, HF.out.wide (Nat.le_refl _) (by simpa using zh), D4.out.setB hglt _, grown_se G4.out hgl _⟩
        · have h1' : (x == 1) = false := by simpa using h1
          go_wp2_with fail
          go_ret
          exact outs_end O3.out (by rw [HL.out]; omega) D3.out G3.out
end Go.Proofs.Ytocdiflkegbffaa
