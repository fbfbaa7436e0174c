/-
  The draws DrawBalancesOf, DrawIsBalances, DrawSettleUp.
-/
import Derived.Test.YtocdiflkegbffaaDrS
namespace Go.Proofs.Ytocdiflkegbffaa
open Go.ChangeShapes Go.WideShapes Go.ChangeAt Go.RowKit
set_option linter.unusedVariables false

def DbPost (w : World) (e : Ending) (w' : World) : Prop :=
  ∃ (p : Int) (A : Option Addr) (m d : Nat) (ys : List Int), e = .returned (.tuple #[.int .i64 p, .slice A m d]) ∧ m ≤ 61 ∧ Ints w' w'.heap.size .i64 A (m * 3) ys ∧ Below w.heap.size w w'
set_option maxHeartbeats 400000 in
theorem DrawBalancesOf_any (a : Option Addr) (n c : Nat) (xs : List Int) (w : World) (h : IntsArg w .u8 a n xs) (hn : n ≤ 4096) :
    Calls Try.prog 23 #[.slice a n c] w fun e w' => DbPost w e w' := by
  go_enter Try.func23, Try.ntmps23
  go_wp2_with fail
  refine (from_dr a n c xs w h hn).mono ?_
  rintro e w1 ⟨rfl, hd⟩
  go_wp2_with fail
  refine (l21Draw_dr w _ a n c xs w1 hd).mono ?_
  rintro e w2 ⟨p, A, m, d, ys, rfl, hm, hi, hd2, hg2⟩
  go_wp2_with fail
  go_ret2
  exact ⟨p, A, m, d, ys, rfl, hm, hi.1, hd2.below⟩

/-- a list that was drawn -/
def DlPost (k : Nat) (w : World) (e : Ending) (w' : World) : Prop :=
  ∃ (A : Option Addr) (m d : Nat) (ys : List Int), e = .returned (.slice A m d) ∧ m ≤ k ∧ m ≤ d ∧ (A = none → d = 0) ∧ Ints w' w'.heap.size .i64 A m ys ∧ Below w.heap.size w w'
theorem Grows.fin {w w' : World} {base k : Nat} {v : Value} {ys : List Int} (h : Grows w' base v ys) (hk : ys.length ≤ k) (hb : Below w.heap.size w w') : DlPost k w (.returned v) w' := by
  have h' := h
  obtain ⟨h0, ⟨h1, h2⟩ | ⟨g', cap', cur, h1, h2, h3, h4, _⟩⟩ := h
  · subst h1
    have e : ys = [] := List.eq_nil_of_length_eq_zero h2
    subst e
    exact ⟨none, 0, 0, [], rfl, by omega, by omega, fun _ => rfl, ⟨rfl, fun hm => absurd hm (by omega)⟩, hb⟩
  · obtain ⟨a, c, e, hc, hr⟩ := h'.out
    subst h1
    injection e with e1 e2 e3
    subst e1 e3
    exact ⟨some ⟨g', 0, none⟩, ys.length, cap', ys, rfl, hk, hc, (fun h => by cases h), hr.ints rfl, hb⟩
set_option maxRecDepth 16000 in
set_option maxHeartbeats 1600000 in
theorem DrawIsBalances_any (a : Option Addr) (n c : Nat) (xs : List Int) (w : World) (h : IntsArg w .u8 a n xs) (hn : n ≤ 4096) :
    Calls Try.prog 61 #[.slice a n c] w fun e w' => DlPost 13 w e w' := by
  have NX := Lib.hid (fun m W hm hD => next_dr m w w.heap.size a n c xs W hD hm)
  go_enter Try.func61, Try.ntmps61
  go_wp2_with fail
  refine (from_dr a n c xs w h hn).mono ?_
  rintro e w1 ⟨rfl, hd⟩
  have l1 := hd.lt
  clear h
  go_wp2_with fail
  refine (l21Draw_dr w _ a n c xs w1 hd).mono ?_
  rintro e w2 ⟨p, A, m, d, ys, rfl, hm, hi, hd2, hg2⟩
  have z2 := hg2.size
  clear hd hg2
  go_wp2_with fail
  refine (spec_BalancesOf_g p A m d ys w2 hi.1 (by omega)).mono ?_
  rintro e w3 ⟨v, rfl, hg, hb3⟩
  have D3 := Lib.hid (hd2.after hb3)
  have O3 := Lib.hid hg
  have z3 := hb3.size
  have l8 : (balL p m ys).length ≤ 8 := balL_len
  obtain ⟨C, hC⟩ : ∃ C, sesC p m ys = C := ⟨_, rfl⟩
  obtain ⟨L, hL⟩ : ∃ L, balL p m ys = L := ⟨_, rfl⟩
  rw [hC]
  rw [hL] at l8 O3
  clear hC hL hg hb3 hd2 hi
  by_cases h0 : L.length = 0
  · obtain ⟨A, d, hv, _, _⟩ := O3.out.out
    have hnil : L = [] := List.eq_nil_of_length_eq_zero h0
    subst hnil hv
    go_wp2_with fail
    refine (NX.out 20 _ (by omega) D3.out).mono ?_
    rintro e wA ⟨s, rfl, s1, s2, hdA, hgA⟩
    have s3 : s < 20 := by omega
    have DA := Lib.hid hdA
    have OA := Lib.hid (O3.out.grown hgA (by omega))
    have BA := Lib.hid hdA.below
    have zA := hgA.size
    have zz : w2.heap.size ≤ wA.heap.size := by omega
    clear s2 hdA hgA
    by_cases h0 : s = 0
    · subst h0
      go_wp2_with (first | (at_builtin; refine app_grows rfl (.tmp 39) (.tmp 40) rfl rfl (OA.out.alloc _) ⟨wA.heap.size, 0, none⟩ [0, 0, 0, 0, 0] 5 5 rfl rfl (five_news wA) (by omega) (by simp; omega) ?_; intro v5 w5 hg5 hb5))
      go_ret
      exact hg5.fin (by first | (simp; done) | (simp; omega)) ((BA.out.alloc (by omega) _).trans (hb5.mono (by omega)))
    · have n0 : (s == 0) = false := by simpa using h0
      by_cases h1 : s = 1
      · subst h1
        clear h0 n0
        go_wp2_with fail
        refine (NX.out 2 _ (by omega) DA.out).mono ?_
        rintro e wB ⟨t, rfl, t1, t2, hdB, hgB⟩
        have BB := Lib.hid hdB.below
        have zB := hdB.below.size
        clear t2 hdB hgB
        obtain ⟨u, hu⟩ : ∃ u, IntKind.i64.wrap (-60000000 - t) = u := ⟨_, rfl⟩
        go_wp2
        go_ret
        exact Grows.fin (ys := [_, 60000000]) (World.ownsRow_lit wB #[_, .int .i64 60000000] 2 (Nat.le_refl _) (by unfold maxLen; omega) rfl) (by simp) (BB.out.alloc zB _)
      · have n1 : (s == 1) = false := by simpa using h1
        clear h0 h1
        go_wp2
        go_ret
        exact OA.out.fin (by omega) BA.out
  · obtain ⟨gl, cap, hv, hgl, hrow⟩ := O3.out.shape (by omega)
    subst hv
    obtain ⟨x, hx⟩ : ∃ x, L.getD 0 0 = x := ⟨_, rfl⟩
    have hlp : (0 : Int) < (L.length : Int) := by omega
    clear hrow
    go_wp2_with fail
    refine (NX.out 6 _ (by omega) D3.out).mono ?_
    rintro e w4 ⟨t, rfl, t1, t2, hd4, hg4⟩
    have D4 := Lib.hid hd4
    have O4 := Lib.hid (O3.out.grown hg4 (by omega))
    have z4 := hg4.size
    clear t2 hd4 hg4
    by_cases ht : t = 0
    · subst ht
      obtain ⟨A', d', e', _, hr4⟩ := O4.out.out
      injection e' with e1 e2 e3
      clear e2
      subst e1 e3
      obtain ⟨c0, f0⟩ := row_cells hr4 (i := 0) (by omega)
      rw [icell, hx] at c0
      have O5 := Lib.hid (O4.out.put 0 (wrap64 (x + 1)))
      have D5 := Lib.hid (D4.out.setB (p := ⟨gl, 0, none⟩) (by show w.heap.size < gl; omega) (.int .i64 (wrap64 (x + 1))))
      obtain ⟨L5, hL5⟩ : ∃ l, L.set 0 (wrap64 (x + 1)) = l := ⟨_, rfl⟩
      rw [hL5] at O5
      have l5 : L5.length ≤ 8 := by rw [← hL5, List.length_set]; exact l8
      clear hr4 hx hL5
      go_wp2_with fail
      refine (NX.out 20 _ (by omega) D5.out).mono ?_
      rintro e wA ⟨s, rfl, s1, s2, hdA, hgA⟩
      have s3 : s < 20 := by omega
      have DA := Lib.hid hdA
      have OA := Lib.hid (O5.out.grown hgA (by omega))
      have BA := Lib.hid hdA.below
      have zA := hgA.size
      simp only [World.size_setCell] at zA
      clear s2 hdA hgA
      by_cases h0 : s = 0
      · subst h0
        go_wp2_with (first | (at_builtin; refine app_grows rfl (.tmp 39) (.tmp 40) rfl rfl (OA.out.alloc _) ⟨wA.heap.size, 0, none⟩ [0, 0, 0, 0, 0] 5 5 rfl rfl (five_news wA) (by omega) (by simp; omega) ?_; intro v5 w5 hg5 hb5))
        go_ret
        exact hg5.fin (by first | (simp; done) | (simp; omega)) ((BA.out.alloc (by omega) _).trans (hb5.mono (by omega)))
      · have n0 : (s == 0) = false := by simpa using h0
        by_cases h1 : s = 1
        · subst h1
          clear h0 n0
          go_wp2_with fail
          refine (NX.out 2 _ (by omega) DA.out).mono ?_
          rintro e wB ⟨t, rfl, t1, t2, hdB, hgB⟩
          have BB := Lib.hid hdB.below
          have zB := hdB.below.size
          clear t2 hdB hgB
          obtain ⟨u, hu⟩ : ∃ u, IntKind.i64.wrap (-60000000 - t) = u := ⟨_, rfl⟩
          go_wp2
          go_ret
          exact Grows.fin (ys := [_, 60000000]) (World.ownsRow_lit wB #[_, .int .i64 60000000] 2 (Nat.le_refl _) (by unfold maxLen; omega) rfl) (by simp) (BB.out.alloc zB _)
        · have n1 : (s == 1) = false := by simpa using h1
          clear h0 h1
          go_wp2
          go_ret
          exact OA.out.fin (by omega) BA.out
    · have nt : (t == 0) = false := by simpa using ht
      clear ht
      go_wp2_with fail
      refine (NX.out 20 _ (by omega) D4.out).mono ?_
      rintro e wA ⟨s, rfl, s1, s2, hdA, hgA⟩
      have s3 : s < 20 := by omega
      have DA := Lib.hid hdA
      have OA := Lib.hid (O4.out.grown hgA (by omega))
      have BA := Lib.hid hdA.below
      have zA := hgA.size
      skip
      clear s2 hdA hgA
      by_cases h0 : s = 0
      · subst h0
        go_wp2_with (first | (at_builtin; refine app_grows rfl (.tmp 39) (.tmp 40) rfl rfl (OA.out.alloc _) ⟨wA.heap.size, 0, none⟩ [0, 0, 0, 0, 0] 5 5 rfl rfl (five_news wA) (by omega) (by simp; omega) ?_; intro v5 w5 hg5 hb5))
        go_ret
        exact hg5.fin (by first | (simp; done) | (simp; omega)) ((BA.out.alloc (by omega) _).trans (hb5.mono (by omega)))
      · have n0 : (s == 0) = false := by simpa using h0
        by_cases h1 : s = 1
        · subst h1
          clear h0 n0
          go_wp2_with fail
          refine (NX.out 2 _ (by omega) DA.out).mono ?_
          rintro e wB ⟨t, rfl, t1, t2, hdB, hgB⟩
          have BB := Lib.hid hdB.below
          have zB := hdB.below.size
          clear t2 hdB hgB
          obtain ⟨u, hu⟩ : ∃ u, IntKind.i64.wrap (-60000000 - t) = u := ⟨_, rfl⟩
          go_wp2
          go_ret
          exact Grows.fin (ys := [_, 60000000]) (World.ownsRow_lit wB #[_, .int .i64 60000000] 2 (Nat.le_refl _) (by unfold maxLen; omega) rfl) (by simp) (BB.out.alloc zB _)
        · have n1 : (s == 1) = false := by simpa using h1
          clear h0 h1
          go_wp2
          go_ret
          exact OA.out.fin (by omega) BA.out

theorem DrawSettleUp_any (a : Option Addr) (n c : Nat) (xs : List Int) (w : World) (h : IntsArg w .u8 a n xs) (hn : n ≤ 4096) :
    Calls Try.prog 33 #[.slice a n c] w fun e w' => DlPost 13 w e w' := by
  go_enter Try.func33, Try.ntmps33
  go_wp2_with fail
  refine (DrawIsBalances_any a n c xs w h hn).mono ?_
  rintro e w1 ⟨A, m, d, ys, rfl, h1, h2, h3, h4, hb⟩
  go_wp2_with fail
  go_ret
  exact ⟨A, m, d, ys, rfl, h1, h2, h3, h4, hb⟩
end Go.Proofs.Ytocdiflkegbffaa

