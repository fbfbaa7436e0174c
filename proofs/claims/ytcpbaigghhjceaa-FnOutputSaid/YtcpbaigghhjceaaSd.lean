/-
  The walks of SeededNetwork (both packages).
-/
import Derived.Test.YtcpbaigghhjceaaNet
import Derived.Test.YtcpbaigghhjceaaApp
import Derived.RegionTactic
import Derived.BigRegion
import Derived.Deep.Cut
import Derived.Deep.CutRange
import Derived.Deep.DeepCutAuto
namespace Go.Proofs.Ytcpbaigghhjceaa
open Go.ChangeShapes Go.WideShapes Go.ChangeAt Go.RowKit Go.Joins Go.Deep

def nxt (s : Int) : Int := 48271 * s % 2147483647
theorem nxt_bd (s : Int) : 0 ≤ nxt s ∧ nxt s ≤ 2147483646 := by unfold nxt; omega
/-- the seed after k steps -/
def sdS (s : Int) : Nat → Int
  | 0 => s
  | k + 1 => nxt (sdS s k)
theorem sdS_bd {s : Int} (h1 : 0 ≤ s) (h2 : s ≤ 2147483646) : ∀ k, 0 ≤ sdS s k ∧ sdS s k ≤ 2147483646
  | 0 => ⟨h1, h2⟩
  | _ + 1 => nxt_bd _
def sdL (s : Int) (k : Nat) : List Int := (List.range k).map fun i => sdS s (i + 1) % 2049 - 1024
theorem sdL_succ (s : Int) (k : Nat) : sdL s (k + 1) = sdL s k ++ [sdS s (k + 1) % 2049 - 1024] := by simp [sdL, List.range_succ]
theorem sdL_len (s : Int) (k : Nat) : (sdL s k).length = k := by simp [sdL]
theorem sdL_cell (s : Int) {k i : Nat} (hi : i < k) : icell .i64 (sdL s k) i = .int .i64 (sdS s (i + 1) % 2049 - 1024) := by
  rw [icell, List.getD_eq_getElem?_getD, sdL, List.getElem?_map, List.getElem?_range hi]
  rfl

theorem l07Next_any (s y : Int) (w : World) (h1 : 0 ≤ s) (h2 : s ≤ 2147483646) (hy : nxt s = y) :
    Calls Try.prog 51 #[.int .i64 s] w fun e w' => e = .returned (.int .i64 y) ∧ w = w' := by
  subst hy
  have ht : (48271 * s).tmod 2147483647 = nxt s := Int.tmod_eq_emod_of_nonneg (by omega)
  obtain ⟨b1, b2⟩ := nxt_bd s
  obtain ⟨y, hy⟩ : ∃ y, nxt s = y := ⟨_, rfl⟩
  rw [hy] at ht b1 b2 ⊢
  clear hy
  go_enter Try.func51, Try.ntmps51
  go_wp2
  go_ret
  exact ⟨rfl, rfl⟩
theorem nextSeed_any (s y : Int) (w : World) (h1 : 0 ≤ s) (h2 : s ≤ 2147483646) (hy : nxt s = y) :
    Calls Try.prog 40 #[.int .i64 s] w fun e w' => e = .returned (.int .i64 y) ∧ w = w' := by
  subst hy
  have ht : (48271 * s).tmod 2147483647 = nxt s := Int.tmod_eq_emod_of_nonneg (by omega)
  obtain ⟨b1, b2⟩ := nxt_bd s
  obtain ⟨y, hy⟩ : ∃ y, nxt s = y := ⟨_, rfl⟩
  rw [hy] at ht b1 b2 ⊢
  clear hy
  go_enter Try.func40, Try.ntmps40
  go_wp2
  go_ret
  exact ⟨rfl, rfl⟩
theorem isSeed_any (s : Int) (w : World) :
    Calls Try.prog 39 #[.int .i64 s] w fun e w' => e = .returned (.bool (wB s 1 2147483646)) ∧ w = w' := by
  go_enter Try.func39, Try.ntmps39
  go_wp2_with (go_at_call 36; refine (within_any _ _ _ _).mono ?_; rintro e w' ⟨rfl, rfl⟩)
  go_ret
  exact ⟨rfl, rfl⟩

def SdL (s : Int) (n : Nat) (w : World) (e : Ending) (w' : World) : Prop :=
  ∃ g c, e = .returned (.tuple #[.slice (some ⟨g, 0, none⟩) n c, .int .i64 (sdS s n)]) ∧ RowN w' w.heap.size w'.heap.size 2 (some ⟨g, 0, none⟩) n (icell .i64 (sdL s n)) ∧ Below w.heap.size w w' ∧ n ≤ c ∧ c ≤ 9223372036854775807
theorem own_capS {w : World} {base size g cap n : Nat} {e : TypeId} {vs : List Value} (h : Own w base e size g cap n vs) : cap ≤ 9223372036854775807 := by
  obtain ⟨h0, ⟨h1, h2⟩ | ⟨g', cap', cur, h1, h2, h3, h4, h5, _⟩⟩ := h
  · cases h1
  · injection h1 with e1 e2 e3
    subst e3
    unfold maxLen at h5
    omega
set_option maxHeartbeats 1600000 in
theorem l23Seeded_any (s : Int) (n : Nat) (w : World) (h1 : 0 ≤ s) (h2 : s ≤ 2147483646) (hn : n ≤ 1048576) :
    Calls Try.prog 38 #[.int .i64 n, .int .i64 s] w fun e w' => SdL s n w e w' := by
  have HB0 := (Below.refl w.heap.size w).alloc (Nat.le_refl _) (.cells #[] 2)
  have Hnew := Lib.hid (Own.new w w.heap.size 2 1 #[] 0 (Nat.le_refl _) (by unfold maxLen; omega) rfl)
  have Hk1 := Lib.hid (fun (W : World) (x : Int) => show (W.alloc (.cells #[.int .i64 x] 2)).cell? ⟨W.heap.size, 0, none⟩ = some (.int .i64 x) by have h := new_cell W #[.int .i64 x] 2 0; exact h)
  go_enter Try.func38, Try.ntmps38
  go_wp2
  go_loopw [1, 6, 7] (fun q o i wr => ∃ k : Nat, k ≤ n ∧ i = .int .i64 k ∧ q = .int .i64 (sdS s k) ∧ (∃ g p, o = .slice (some ⟨g, 0, none⟩) k p ∧ Own wr w.heap.size 2 1 g p k ((sdL s k).map (.int .i64))) ∧ Below w.heap.size w wr) (fun _ _ i _ => n - (intOf i).toNat)
  case atStart => exact ⟨0, Nat.zero_le _, rfl, rfl, ⟨_, _, rfl, Hnew.out⟩, HB0⟩
  case round =>
    obtain ⟨k, hk, rfl, rfl, ⟨g, p, rfl, hown⟩, hbel⟩ := hrel
    obtain ⟨x1, x2⟩ := sdS_bd h1 h2 k
    obtain ⟨x, hx⟩ : ∃ x, sdS s k = x := ⟨_, rfl⟩
    rw [hx] at x1 x2 ⊢
    by_cases hlt : k < n
    · obtain ⟨y1, y2⟩ := nxt_bd x
      obtain ⟨y, hy⟩ : ∃ y, nxt x = y := ⟨_, rfl⟩
      rw [hy] at y1 y2
      have hr : y.tmod 2049 = y % 2049 := Int.tmod_eq_emod_of_nonneg y1
      have hr1 : 0 ≤ y % 2049 := by omega
      have hr2 : y % 2049 ≤ 2048 := by omega
      have HS := Lib.hid (show sdS s (k + 1) = y by rw [sdS, hx, hy])
      have HY := Lib.hid hy
      have HL := Lib.hid (show sdL s (k + 1) = sdL s k ++ [y % 2049 - 1024] by rw [sdL_succ, HS.out])
      clear hx hy
      obtain ⟨r, hrr⟩ : ∃ r, y % 2049 = r := ⟨_, rfl⟩
      rw [hrr] at hr hr1 hr2
      rw [hrr] at HL
      clear hrr
      go_wp2_with (first
        | (go_at_call 51; refine (l07Next_any x y _ x1 x2 HY.out).mono ?_; rintro e w' ⟨rfl, rfl⟩)
        | (at_builtin; refine app_own rfl (.tmp 16) (.tmp 20) 22 rfl w.heap.size 2 (.int .i64 0) 1 8 Try.underlying22 info_int rfl (by omega) (by omega) g p k _ rfl (hown.alloc _) ⟨wr.heap.size, 0, none⟩ 1 1 [.int .i64 (r - 1024)] rfl rfl (one_news (Hk1.out wr (r - 1024))) one_cells (by omega) (by have := hbel.size; simp; omega) ?_; intro g1 p1 w1 ho1 hg1; have HB1 := (hbel.alloc hbel.size _).grown hg1 (by have := hbel.size; simp; omega) (fun k e => by injection e with e; have := hown.ge; omega); clear hg1))
      go_roundw
      case rel =>
        refine ⟨k + 1, by omega, by go_num, by rw [HS.out], ⟨g1, p1, rfl, ?_⟩, HB1⟩
        rw [HL.out, List.map_append]
        exact ho1
      case measure => simp [intOf]; omega
    · obtain rfl : k = n := by omega
      go_wp2
      go_ret2
      exact ⟨g, p, by rw [hx]; rfl, hown.rowI, hbel, hown.room, own_capS hown⟩
def SdPost (i h : Int) (n : Nat) (xs : List Int) (m : Nat) (ys : List Int) (S : Int) (b : Bool) (w : World) (e : Ending) (w' : World) : Prop :=
  ∃ a c a' c' l1 u1 l2 u2, e = .returned (.tuple #[netV i h a n c a' m c', .int .i64 S, .bool b]) ∧ RowN w' l1 u1 2 a n (icell .i64 xs) ∧ RowN w' l2 u2 2 a' m (icell .i64 ys) ∧ w.heap.size ≤ l1 ∧ w.heap.size ≤ l2 ∧ u1 ≤ w'.heap.size ∧ u2 ≤ w'.heap.size ∧ (u1 ≤ l2 ∨ u2 ≤ l1) ∧ Below w.heap.size w w'
def SdPostC (i h : Int) (n : Nat) (xs : List Int) (m : Nat) (ys : List Int) (S : Int) (b : Bool) (w : World) (e : Ending) (w' : World) : Prop :=
  ∃ a c a' c' l1 u1 l2 u2, e = .returned (.tuple #[netV i h a n c a' m c', .int .i64 S, .bool b]) ∧ RowN w' l1 u1 2 a n (icell .i64 xs) ∧ RowN w' l2 u2 2 a' m (icell .i64 ys) ∧ w.heap.size ≤ l1 ∧ w.heap.size ≤ l2 ∧ u1 ≤ w'.heap.size ∧ u2 ≤ w'.heap.size ∧ (u1 ≤ l2 ∨ u2 ≤ l1) ∧ Below w.heap.size w w' ∧ n ≤ c ∧ c ≤ 9223372036854775807 ∧ m ≤ c' ∧ c' ≤ 9223372036854775807
def sdOk (i h s : Int) : Bool := wB i 1 32 && (wB h 1 12 && wB s 1 2147483646)

set_option maxHeartbeats 1600000 in
theorem spec_SeededNetwork_no (i h s : Int) (w : World) (hok : sdOk i h s = false) :
    Calls Try.prog 15 #[.int .i64 i, .int .i64 h, .int .i64 s] w fun e w' => SdPost 0 0 0 [] 0 [] 0 false w e w' := by
  have HB0 := (Below.refl w.heap.size w).alloc (Nat.le_refl _) (.cells #[.int .i64 0, .int .i64 0, .slice none 0 0, .slice none 0 0] 27)
  obtain ⟨p0, p1, p2, p3⟩ := four_cells (four_new w (.int .i64 0) (.int .i64 0) (.slice none 0 0) (.slice none 0 0) 27)
  cases hA : wB i 1 32
  · go_enter Try.func15, Try.ntmps15
    go_wp2_with (go_at_call 34; refine (l01In_any _ _ _ _).mono ?_; rintro e w' ⟨rfl, rfl⟩)
    refine bodyPost_ret (v := .tuple #[netV 0 0 none 0 0 none 0 0, .int .i64 0, .bool false]) (by simp [results, Try.results15, go_sem, p0, p1, p2, p3]) rfl ⟨none, 0, none, 0, w.heap.size, w.heap.size, w.heap.size, w.heap.size, rfl, .inl rfl, .inl rfl, Nat.le_refl _, Nat.le_refl _, HB0.size, HB0.size, .inl (Nat.le_refl _), HB0⟩
  · cases hB : wB h 1 12
    · go_enter Try.func15, Try.ntmps15
      go_wp2_with (go_at_call 34; refine (l01In_any _ _ _ _).mono ?_; rintro e w' ⟨rfl, rfl⟩)
      refine bodyPost_ret (v := .tuple #[netV 0 0 none 0 0 none 0 0, .int .i64 0, .bool false]) (by simp [results, Try.results15, go_sem, p0, p1, p2, p3]) rfl ⟨none, 0, none, 0, w.heap.size, w.heap.size, w.heap.size, w.heap.size, rfl, .inl rfl, .inl rfl, Nat.le_refl _, Nat.le_refl _, HB0.size, HB0.size, .inl (Nat.le_refl _), HB0⟩
    · have hC : wB s 1 2147483646 = false := by simpa [sdOk, hA, hB] using hok
      go_enter Try.func15, Try.ntmps15
      go_wp2_with (go_at_call 34; refine (l01In_any _ _ _ _).mono ?_; rintro e w' ⟨rfl, rfl⟩)
      refine bodyPost_ret (v := .tuple #[netV 0 0 none 0 0 none 0 0, .int .i64 0, .bool false]) (by simp [results, Try.results15, go_sem, p0, p1, p2, p3]) rfl ⟨none, 0, none, 0, w.heap.size, w.heap.size, w.heap.size, w.heap.size, rfl, .inl rfl, .inl rfl, Nat.le_refl _, Nat.le_refl _, HB0.size, HB0.size, .inl (Nat.le_refl _), HB0⟩
set_option maxHeartbeats 1600000 in
theorem spec_SeededNetwork_cap (i h s : Int) (n m : Nat) (w : World) (hok : sdOk i h s = true) (hn : (n : Int) = h * (i + 1)) (hm : (m : Int) = h + 1) :
    Calls Try.prog 15 #[.int .i64 i, .int .i64 h, .int .i64 s] w fun e w' => SdPostC i h n (sdL s n) m (sdL (sdS s n) m) (sdS (sdS s n) m) true w e w' := by
  simp only [sdOk, Bool.and_eq_true] at hok
  obtain ⟨hA, hB, hC⟩ := hok
  obtain ⟨i1, i2⟩ := wB_true.1 hA
  obtain ⟨k1, k2⟩ := wB_true.1 hB
  obtain ⟨s1, s2⟩ := wB_true.1 hC
  obtain ⟨b1, b2⟩ := prod_bd i1 i2 k1 k2
  have HB0 := (Below.refl w.heap.size w).alloc (Nat.le_refl _) (.cells #[.int .i64 0, .int .i64 0, .slice none 0 0, .slice none 0 0] 27)
  have HR := Lib.hid (four_new w (.int .i64 0) (.int .i64 0) (.slice none 0 0) (.slice none 0 0) 27)
  have hmul := hn.symm
  have hadd := hm.symm
  clear hn hm
  go_enter Try.func15, Try.ntmps15
  go_wp2_with (go_at_call 34; refine (l01In_any _ _ _ _).mono ?_; rintro e w' ⟨rfl, rfl⟩)
  refine (l23Seeded_any s n _ (by omega) s2 (by omega)).mono ?_
  rintro e w1 ⟨g, c, rfl, hr1, hb1, k1c, k2c⟩
  have z1 := hb1.size
  replace HR := Lib.hid (rowIs_below HR.out hb1 HR.out.lt)
  have H1 := HB0.trans (hb1.mono HB0.size)
  obtain ⟨t1, t2⟩ := sdS_bd (show 0 ≤ s by omega) s2 n
  obtain ⟨s', hs'⟩ : ∃ s', sdS s n = s' := ⟨_, rfl⟩
  rw [hs'] at t1 t2
  rw [hs']
  simp only [World.size_alloc] at z1 hr1
  have HQ := Lib.hid hr1
  clear hr1 hb1
  go_wp2_with fail
  refine (l23Seeded_any s' m _ t1 t2 (by omega)).mono ?_
  rintro e w2 ⟨g', c', rfl, hr2, hb2, k3c, k4c⟩
  have z2 := hb2.size
  replace HQ := Lib.hid (HQ.out.below hb2)
  replace HR := Lib.hid (rowIs_below HR.out hb2 HR.out.lt)
  have H2 := H1.trans (hb2.mono H1.size)
  have HQ2 := Lib.hid hr2
  clear hr2 hb2
  have q0 := HR.out.frozen 0
  have q1 := HR.out.frozen 1
  have q2 := HR.out.frozen 2
  have q3 := HR.out.frozen 3
  have zz : w.heap.size < w2.heap.size := by omega
  obtain ⟨r0, r1, r2, r3⟩ := four_cells HR.out
  go_wp2_with fail
  clear r0 r1 r2 r3
  obtain ⟨p0, p1, p2, p3⟩ := four_cells (four_set HR.out (.int .i64 i) (.int .i64 h) (.slice (some ⟨g, 0, none⟩) n c) (.slice (some ⟨g', 0, none⟩) m c'))
  have ho := (((((Out.refl w.heap.size (w.heap.size + 1) w2).set (p := ⟨w.heap.size, 0, none⟩) (by simp) (by simp) (.int .i64 i)).set (p := ⟨w.heap.size, 1, none⟩) (by simp) (by simp) (.int .i64 h)).set (p := ⟨w.heap.size, 2, none⟩) (by simp) (by simp) (.slice (some ⟨g, 0, none⟩) n c)).set (p := ⟨w.heap.size, 3, none⟩) (by simp) (by simp) (.slice (some ⟨g', 0, none⟩) m c'))
  refine bodyPost_ret (v := .tuple #[netV i h (some ⟨g, 0, none⟩) n c (some ⟨g', 0, none⟩) m c', .int .i64 (sdS s' m), .bool true]) (by simp [results, Try.results15, go_sem, p0, p1, p2, p3]) rfl ⟨some ⟨g, 0, none⟩, c, some ⟨g', 0, none⟩, c', w.heap.size, w1.heap.size, w1.heap.size, w2.heap.size, by rw [hs'], (HQ.out.out ho (.inr (Nat.le_refl _))).wide (by omega) (Nat.le_refl _), ?_, Nat.le_refl _, by omega, by simpa using z2, by simp, .inl (Nat.le_refl _), Out.below H2 ho (by omega), k1c, k2c, k3c, k4c⟩
  have := HQ2.out.out ho (.inr (by omega))
  rw [hs']
  simpa using this
theorem spec_SeededNetwork_yes (i h s : Int) (n m : Nat) (w : World) (hok : sdOk i h s = true) (hn : (n : Int) = h * (i + 1)) (hm : (m : Int) = h + 1) :
    Calls Try.prog 15 #[.int .i64 i, .int .i64 h, .int .i64 s] w fun e w' => SdPost i h n (sdL s n) m (sdL (sdS s n) m) (sdS (sdS s n) m) true w e w' :=
  (spec_SeededNetwork_cap i h s n m w hok hn hm).mono fun _ _ ⟨a, c, a', c', l1, u1, l2, u2, h1, h2, h3, h4, h5, h6, h7, h8, h9, _⟩ => ⟨a, c, a', c', l1, u1, l2, u2, h1, h2, h3, h4, h5, h6, h7, h8, h9⟩
set_option maxHeartbeats 1600000 in
theorem impl_SeededNetwork_no (i h s : Int) (w : World) (hok : sdOk i h s = false) :
    Calls Try.prog 16 #[.int .i64 i, .int .i64 h, .int .i64 s] w fun e w' => SdPost 0 0 0 [] 0 [] 0 false w e w' := by
  have HB0 := (Below.refl w.heap.size w).alloc (Nat.le_refl _) (.cells #[.int .i64 0, .int .i64 0, .slice none 0 0, .slice none 0 0] 27)
  obtain ⟨p0, p1, p2, p3⟩ := four_cells (four_new w (.int .i64 0) (.int .i64 0) (.slice none 0 0) (.slice none 0 0) 27)
  cases hA : wB i 1 32
  · go_enter Try.func16, Try.ntmps16
    go_wp2_with (first | (go_at_call 36; refine (within_any _ _ _ _).mono ?_; rintro e w' ⟨rfl, rfl⟩) | (go_at_call 39; refine (isSeed_any _ _).mono ?_; rintro e w' ⟨rfl, rfl⟩))
    refine bodyPost_ret (v := .tuple #[netV 0 0 none 0 0 none 0 0, .int .i64 0, .bool false]) (by simp [results, Try.results16, go_sem, p0, p1, p2, p3]) rfl ⟨none, 0, none, 0, w.heap.size, w.heap.size, w.heap.size, w.heap.size, rfl, .inl rfl, .inl rfl, Nat.le_refl _, Nat.le_refl _, HB0.size, HB0.size, .inl (Nat.le_refl _), HB0⟩
  · cases hB : wB h 1 12
    · go_enter Try.func16, Try.ntmps16
      go_wp2_with (first | (go_at_call 36; refine (within_any _ _ _ _).mono ?_; rintro e w' ⟨rfl, rfl⟩) | (go_at_call 39; refine (isSeed_any _ _).mono ?_; rintro e w' ⟨rfl, rfl⟩))
      refine bodyPost_ret (v := .tuple #[netV 0 0 none 0 0 none 0 0, .int .i64 0, .bool false]) (by simp [results, Try.results16, go_sem, p0, p1, p2, p3]) rfl ⟨none, 0, none, 0, w.heap.size, w.heap.size, w.heap.size, w.heap.size, rfl, .inl rfl, .inl rfl, Nat.le_refl _, Nat.le_refl _, HB0.size, HB0.size, .inl (Nat.le_refl _), HB0⟩
    · have hC : wB s 1 2147483646 = false := by simpa [sdOk, hA, hB] using hok
      go_enter Try.func16, Try.ntmps16
      go_wp2_with (first | (go_at_call 36; refine (within_any _ _ _ _).mono ?_; rintro e w' ⟨rfl, rfl⟩) | (go_at_call 39; refine (isSeed_any _ _).mono ?_; rintro e w' ⟨rfl, rfl⟩))
      refine bodyPost_ret (v := .tuple #[netV 0 0 none 0 0 none 0 0, .int .i64 0, .bool false]) (by simp [results, Try.results16, go_sem, p0, p1, p2, p3]) rfl ⟨none, 0, none, 0, w.heap.size, w.heap.size, w.heap.size, w.heap.size, rfl, .inl rfl, .inl rfl, Nat.le_refl _, Nat.le_refl _, HB0.size, HB0.size, .inl (Nat.le_refl _), HB0⟩
/-- what the region that lays the network out leaves behind -/
def SdCut (i h : Int) (n m : Nat) (w : World) (t : Value) (wx : World) : Prop :=
  ∃ x g1 g2, t = .pointer (some ⟨x, 0, none⟩) ∧ wx.rowIs x 27 4 (four (.int .i64 i) (.int .i64 h) (.slice (some ⟨g1, 0, none⟩) n n) (.slice (some ⟨g2, 0, none⟩) m m)) ∧ (∃ f, wx.rowIs g1 2 n f) ∧ (∃ f, wx.rowIs g2 2 m f) ∧
    w.heap.size < x ∧ w.heap.size < g1 ∧ w.heap.size < g2 ∧ x ≠ g1 ∧ x ≠ g2 ∧ g1 ≠ g2 ∧ wx.rowIs w.heap.size 27 4 (four (.int .i64 0) (.int .i64 0) (.slice none 0 0) (.slice none 0 0)) ∧ Below w.heap.size w wx
theorem rowIs_drew {w : World} {b t n : Nat} {f : Nat → Value} (h : w.rowIs b t n f) : w.drew.rowIs b t n f := h
theorem four_at {w : World} {b : Nat} (p q r s : Value) (t : TypeId) (h : b = w.heap.size) : (w.alloc (.cells #[p, q, r, s] t)).rowIs b t 4 (four p q r s) := by
  subst h; exact four_new w p q r s t
theorem made_at {w : World} {b n : Nat} (h : b = w.heap.size) : (w.alloc (.cells (madeCells #[.int .i64 0] n) 2)).rowIs b 2 n (fun _ => .int .i64 0) := by
  subst h; exact World.rowIs_made w (.int .i64 0) n 2
def twoV (p q : Value) : Nat → Value
  | 0 => p
  | _ => q
theorem twoV_new (w : World) (p q : Value) (t : TypeId) : (w.alloc (.cells #[p, q] t)).rowIs w.heap.size t 2 (twoV p q) :=
  World.rowIs_alloc w _ _ _ (fun j hj => by
    match j, hj with
    | 0, _ => rfl
    | 1, _ => rfl)
/-- what stays while the weights are laid -/
def SdCm (i h : Int) (n m : Nat) (w : World) (x bs g1 g2 : Nat) (wr : World) : Prop :=
  wr.rowIs x 27 4 (four (.int .i64 i) (.int .i64 h) (.slice (some ⟨g1, 0, none⟩) n n) (.slice (some ⟨g2, 0, none⟩) m m)) ∧ wr.rowIs bs 22 2 (twoV (.slice (some ⟨g1, 0, none⟩) n n) (.slice (some ⟨g2, 0, none⟩) m m)) ∧
    wr.rowIs w.heap.size 27 4 (four (.int .i64 0) (.int .i64 0) (.slice none 0 0) (.slice none 0 0)) ∧ Below w.heap.size w wr
theorem SdCm.set {i h : Int} {n m x bs g1 g2 g : Nat} {w wr : World} (c : SdCm i h n m w x bs g1 g2 wr) (h1 : g ≠ x) (h2 : g ≠ bs) (h3 : w.heap.size < g) (j : Nat) (v : Value) : SdCm i h n m w x bs g1 g2 (wr.setCell ⟨g, j, none⟩ v) :=
  ⟨c.1.setOther (a := ⟨g, j, none⟩) (by simpa using Ne.symm h1) v, c.2.1.setOther (a := ⟨g, j, none⟩) (by simpa using Ne.symm h2) v, c.2.2.1.setOther (a := ⟨g, j, none⟩) (by simp; omega) v, c.2.2.2.setCell (p := ⟨g, j, none⟩) (by simp; omega) v⟩
/-- the first j cells of the row are the seeded weights -/
def SdRow (s : Int) (n g j : Nat) (wr : World) : Prop := ∃ f, wr.rowIs g 2 n f ∧ ∀ i, i < j → f i = .int .i64 (sdS s (i + 1) % 2049 - 1024)
theorem SdRow.step {s : Int} {n g j : Nat} {wr : World} {r : Int} (h : SdRow s n g j wr) (hr : sdS s (j + 1) % 2049 - 1024 = r) : SdRow s n g (j + 1) (wr.setCell ⟨g, j, none⟩ (.int .i64 r)) := by
  obtain ⟨f, h1, h2⟩ := h
  refine ⟨_, h1.set j _, fun i hi => ?_⟩
  by_cases e : i = j
  · subst e; rw [hr]; simp
  · simp only [if_neg e]; exact h2 i (by omega)
theorem SdRow.other {s : Int} {n g j g' j' : Nat} {wr : World} (h : SdRow s n g j wr) (hg : g' ≠ g) (v : Value) : SdRow s n g j (wr.setCell ⟨g', j', none⟩ v) := by
  obtain ⟨f, h1, h2⟩ := h
  exact ⟨f, h1.setOther (a := ⟨g', j', none⟩) (by simpa using Ne.symm hg) v, h2⟩
theorem SdRow.row {s : Int} {n g lo : Nat} {wr : World} (h : SdRow s n g n wr) (hlo : lo ≤ g) (hi : g < wr.heap.size) : RowN wr lo wr.heap.size 2 (some ⟨g, 0, none⟩) n (icell .i64 (sdL s n)) := by
  obtain ⟨f, h1, h2⟩ := h
  exact .of_row (h1.congr fun i hi => by rw [h2 i hi, sdL_cell s hi]) hlo hi
set_option maxHeartbeats 3200000 in
theorem impl_SeededNetwork_yes (i h s : Int) (n m : Nat) (w : World) (hok : sdOk i h s = true) (hn : (n : Int) = h * (i + 1)) (hm : (m : Int) = h + 1) :
    Calls Try.prog 16 #[.int .i64 i, .int .i64 h, .int .i64 s] w fun e w' => SdPost i h n (sdL s n) m (sdL (sdS s n) m) (sdS (sdS s n) m) true w e w' := by
  simp only [sdOk, Bool.and_eq_true] at hok
  obtain ⟨hA, hB, hC⟩ := hok
  obtain ⟨i1, i2⟩ := wB_true.1 hA
  obtain ⟨k1, k2⟩ := wB_true.1 hB
  obtain ⟨s1, s2⟩ := wB_true.1 hC
  obtain ⟨b1, b2⟩ := prod_bd i1 i2 k1 k2
  have HB0 := (Below.refl w.heap.size w).alloc (Nat.le_refl _) (.cells #[.int .i64 0, .int .i64 0, .slice none 0 0, .slice none 0 0] 27)
  have HR := Lib.hid (four_new w (.int .i64 0) (.int .i64 0) (.slice none 0 0) (.slice none 0 0) 27)
  have hmul := hn.symm
  have hadd := hm.symm
  clear hn hm
  have hmk1 := make_i64 n (by omega)
  have hmk2 := make_i64 m (by omega)
  go_enter Try.func16, Try.ntmps16
  go_upto_region 3 with (first | (go_at_call 36; refine (within_any _ _ _ _).mono ?_; rintro e w' ⟨rfl, rfl⟩) | (go_at_call 39; refine (isSeed_any _ _).mono ?_; rintro e w' ⟨rfl, rfl⟩))
  go_cut [9] (fun t wx => SdCut i h n m w t wx)
  case first =>
    go_region
    all_goals
      go_wp2
      go_meet
      apply Exists.intro
      apply Exists.intro
      apply Exists.intro
      refine ⟨rfl, ?_, ⟨fun _ => .int .i64 0, ?_⟩, ⟨fun _ => .int .i64 0, ?_⟩, ?_, ?_, ?_, ?_, ?_, ?_, ?_, ?_⟩
      · apply rowIs_drew
        repeat' (first | (with_reducible exact four_at _ _ _ _ _ (by simp)) | (with_reducible refine World.rowIs.alloc ?_ _))
      · apply rowIs_drew
        repeat' (first | (with_reducible exact made_at (by simp)) | (with_reducible refine World.rowIs.alloc ?_ _))
      · apply rowIs_drew
        repeat' (first | (with_reducible exact made_at (by simp)) | (with_reducible refine World.rowIs.alloc ?_ _))
      · omega
      · omega
      · omega
      · omega
      · omega
      · omega
      · apply rowIs_drew
        exact (((HR.out.alloc _).alloc _).alloc _)
      · exact ((((HB0.alloc HB0.size _).alloc (by simp; omega) _).alloc (by simp; omega) _)).drew
  case rest =>
    obtain ⟨x, g1, g2, rfl, hX, ⟨f1, hf1⟩, ⟨f2, hf2⟩, hx, hg1, hg2, d1, d2, d3, hR0, hb⟩ := hcut
    have hlx := hX.lt
    have hl1 := hf1.lt
    have hl2 := hf2.lt
    obtain ⟨x0, x1, x2, x3⟩ := four_cells hX
    have HC : SdCm i h n m w x wc.heap.size g1 g2 (wc.alloc (.cells #[.slice (some ⟨g1, 0, none⟩) n n, .slice (some ⟨g2, 0, none⟩) m m] 22)) := ⟨hX.alloc _, twoV_new _ _ _ _, hR0.alloc _, hb.alloc hb.size _⟩
    have HF1 : SdRow s n g1 0 (wc.alloc (.cells #[.slice (some ⟨g1, 0, none⟩) n n, .slice (some ⟨g2, 0, none⟩) m m] 22)) := ⟨_, hf1.alloc _, fun _ h => absurd h (by omega)⟩
    have HF2 : SdRow (sdS s n) m g2 0 (wc.alloc (.cells #[.slice (some ⟨g1, 0, none⟩) n n, .slice (some ⟨g2, 0, none⟩) m m] 22)) := ⟨_, hf2.alloc _, fun _ h => absurd h (by omega)⟩
    have HCC := Lib.hid HC
    have H1 := Lib.hid HF1
    have H2 := Lib.hid HF2
    have e1 : g1 ≠ wc.heap.size := by omega
    have e2 : g2 ≠ wc.heap.size := by omega
    have ex1 : g1 ≠ x := by omega
    have ex2 : g2 ≠ x := by omega
    have e3 : g2 ≠ g1 := by omega
    clear hX hf1 hf2 hR0 hb hmk1 hmk2 HF1 HF2 HC
    go_wp2
    go_loopw [2, 44] (fun q ix wr => SdCm i h n m w x wc.heap.size g1 g2 wr ∧ ((ix = .int .i64 0 ∧ q = .int .i64 s ∧ SdRow s n g1 0 wr ∧ SdRow (sdS s n) m g2 0 wr) ∨ (ix = .int .i64 1 ∧ q = .int .i64 (sdS s n) ∧ SdRow s n g1 n wr ∧ SdRow (sdS s n) m g2 0 wr) ∨ (ix = .int .i64 2 ∧ q = .int .i64 (sdS (sdS s n) m) ∧ SdRow s n g1 n wr ∧ SdRow (sdS s n) m g2 m wr))) (fun _ ix _ => 2 - (intOf ix).toNat)
    case atStart => exact ⟨HCC.out, .inl ⟨rfl, rfl, H1.out, H2.out⟩⟩
    case round =>
      obtain ⟨c, ⟨rfl, rfl, r1, r2⟩ | ⟨rfl, rfl, r1, r2⟩ | ⟨rfl, rfl, r1, r2⟩⟩ := hrel
      · have cb := c.2.1.cell (i := 0) (by omega)
        simp only [twoV] at cb
        obtain ⟨wo, hwo⟩ : ∃ wo, wo = wr := ⟨_, rfl⟩
        subst hwo
        have C := Lib.hid c
        have R1 := Lib.hid r1
        have R2 := Lib.hid r2
        clear c r1 r2
        go_wp2
        go_loopw [2, 50] (fun q ix wi => ∃ j : Nat, j ≤ n ∧ ix = .int .i64 j ∧ q = .int .i64 (sdS (s) j) ∧ SdCm i h n m w x wc.heap.size g1 g2 wi ∧ SdRow (s) n g1 j wi ∧ SdRow (sdS s n) m g2 0 wi) (fun _ ix _ => n - (intOf ix).toNat)
        case atStart => exact ⟨0, Nat.zero_le _, rfl, rfl, C.out, R1.out, R2.out⟩
        case round =>
          obtain ⟨j, hj, rfl, rfl, c, ra, rb⟩ := hrel
          obtain ⟨x1, x2⟩ := sdS_bd (show 0 ≤ s by omega) (s2) j
          obtain ⟨y0, hy0⟩ : ∃ y0, sdS (s) j = y0 := ⟨_, rfl⟩
          rw [hy0] at x1 x2
          try rw [hy0]
          by_cases hlt : j < n
          · obtain ⟨y1, y2⟩ := nxt_bd y0
            obtain ⟨y, hy⟩ : ∃ y, nxt y0 = y := ⟨_, rfl⟩
            rw [hy] at y1 y2
            have hr : y.tmod 2049 = y % 2049 := Int.tmod_eq_emod_of_nonneg y1
            have hr1 : 0 ≤ y % 2049 := by omega
            have hr2 : y % 2049 ≤ 2048 := by omega
            have HS := Lib.hid (show sdS (s) (j + 1) = y by rw [sdS, hy0, hy])
            have HY := Lib.hid hy
            clear hy hy0
            obtain ⟨r, hrr⟩ : ∃ r, y % 2049 = r := ⟨_, rfl⟩
            rw [hrr] at hr hr1 hr2
            have HRR := Lib.hid hrr
            clear hrr
            have RA := Lib.hid ra
            have RB := Lib.hid rb
            have CC := Lib.hid c
            obtain ⟨f, hrow, hf⟩ := ra
            have cj := hrow.cell hlt
            have fj := hrow.frozen j
            clear hrow hf rb c
            go_wp2_with (go_at_call 40; refine (nextSeed_any y0 y _ x1 x2 HY.out).mono ?_; rintro e w' ⟨rfl, rfl⟩)
            go_roundw
            case rel =>
              exact ⟨j + 1, by omega, by go_num, by rw [HS.out], CC.out.set (by assumption) (by assumption) (by assumption) _ _, RA.out.step (by rw [HS.out, HRR.out]), RB.out.other (by first | assumption | exact Ne.symm (by assumption)) _⟩
            case measure => simp [intOf]; omega
          · obtain rfl : j = n := by omega
            subst hy0
            go_wp2
            go_roundw
            case rel => exact ⟨c, .inr (.inl ⟨by go_num, rfl, ra, rb⟩)⟩
            case measure => simp [intOf]
      · have cb := c.2.1.cell (i := 1) (by omega)
        simp only [twoV] at cb
        obtain ⟨wo, hwo⟩ : ∃ wo, wo = wr := ⟨_, rfl⟩
        subst hwo
        have C := Lib.hid c
        have R1 := Lib.hid r1
        have R2 := Lib.hid r2
        clear c r1 r2
        go_wp2
        go_loopw [2, 50] (fun q ix wi => ∃ j : Nat, j ≤ m ∧ ix = .int .i64 j ∧ q = .int .i64 (sdS (sdS s n) j) ∧ SdCm i h n m w x wc.heap.size g1 g2 wi ∧ SdRow (sdS s n) m g2 j wi ∧ SdRow s n g1 n wi) (fun _ ix _ => m - (intOf ix).toNat)
        case atStart => exact ⟨0, Nat.zero_le _, rfl, rfl, C.out, R2.out, R1.out⟩
        case round =>
          obtain ⟨j, hj, rfl, rfl, c, ra, rb⟩ := hrel
          obtain ⟨x1, x2⟩ := sdS_bd ((sdS_bd (show 0 ≤ s by omega) s2 n).1) ((sdS_bd (show 0 ≤ s by omega) s2 n).2) j
          obtain ⟨y0, hy0⟩ : ∃ y0, sdS (sdS s n) j = y0 := ⟨_, rfl⟩
          rw [hy0] at x1 x2
          try rw [hy0]
          by_cases hlt : j < m
          · obtain ⟨y1, y2⟩ := nxt_bd y0
            obtain ⟨y, hy⟩ : ∃ y, nxt y0 = y := ⟨_, rfl⟩
            rw [hy] at y1 y2
            have hr : y.tmod 2049 = y % 2049 := Int.tmod_eq_emod_of_nonneg y1
            have hr1 : 0 ≤ y % 2049 := by omega
            have hr2 : y % 2049 ≤ 2048 := by omega
            have HS := Lib.hid (show sdS (sdS s n) (j + 1) = y by rw [sdS, hy0, hy])
            have HY := Lib.hid hy
            clear hy hy0
            obtain ⟨r, hrr⟩ : ∃ r, y % 2049 = r := ⟨_, rfl⟩
            rw [hrr] at hr hr1 hr2
            have HRR := Lib.hid hrr
            clear hrr
            have RA := Lib.hid ra
            have RB := Lib.hid rb
            have CC := Lib.hid c
            obtain ⟨f, hrow, hf⟩ := ra
            have cj := hrow.cell hlt
            have fj := hrow.frozen j
            clear hrow hf rb c
            go_wp2_with (go_at_call 40; refine (nextSeed_any y0 y _ x1 x2 HY.out).mono ?_; rintro e w' ⟨rfl, rfl⟩)
            go_roundw
            case rel =>
              exact ⟨j + 1, by omega, by go_num, by rw [HS.out], CC.out.set (by assumption) (by assumption) (by assumption) _ _, RA.out.step (by rw [HS.out, HRR.out]), RB.out.other (by first | assumption | exact Ne.symm (by assumption)) _⟩
            case measure => simp [intOf]; omega
          · obtain rfl : j = m := by omega
            subst hy0
            go_wp2
            go_roundw
            case rel => exact ⟨c, .inr (.inr ⟨by go_num, rfl, rb, ra⟩)⟩
            case measure => simp [intOf]
      · obtain ⟨c1, c2, c3, c4⟩ := c
        obtain ⟨l0, l1, l2, l3⟩ := four_cells c1
        have q0 := c3.frozen 0
        have q1 := c3.frozen 1
        have q2 := c3.frozen 2
        have q3 := c3.frozen 3
        obtain ⟨m0, m1, m2, m3⟩ := four_cells c3
        have HC3 := Lib.hid (And.intro c3 (And.intro c4 (And.intro r1 r2)))
        clear c1 c2 c3 c4 r1 r2
        go_wp2
        clear l0 l1 l2 l3 q0 q1 q2 q3 m0 m1 m2 m3
        obtain ⟨c3, c4, r1, r2⟩ := HC3.out
        obtain ⟨p0, p1, p2, p3⟩ := four_cells (four_set c3 (.int .i64 i) (.int .i64 h) (.slice (some ⟨g1, 0, none⟩) n n) (.slice (some ⟨g2, 0, none⟩) m m))
        have ho := (((((Out.refl w.heap.size (w.heap.size + 1) wr).set (p := ⟨w.heap.size, 0, none⟩) (by simp) (by simp) (.int .i64 i)).set (p := ⟨w.heap.size, 1, none⟩) (by simp) (by simp) (.int .i64 h)).set (p := ⟨w.heap.size, 2, none⟩) (by simp) (by simp) (.slice (some ⟨g1, 0, none⟩) n n)).set (p := ⟨w.heap.size, 3, none⟩) (by simp) (by simp) (.slice (some ⟨g2, 0, none⟩) m m))
        have hz1 : g1 < wr.heap.size := by obtain ⟨f, h1, _⟩ := r1; exact h1.lt
        have hz2 : g2 < wr.heap.size := by obtain ⟨f, h1, _⟩ := r2; exact h1.lt
        have w1 := (RowN.of_row (lo := g1) (hi := g1 + 1) (by obtain ⟨f, h1, h2⟩ := r1; exact h1.congr (fun i hi => (h2 i hi).trans (sdL_cell s hi).symm)) (Nat.le_refl _) (Nat.lt_succ_self _)).out ho (.inr (by omega))
        have w2 := (RowN.of_row (lo := g2) (hi := g2 + 1) (by obtain ⟨f, h1, h2⟩ := r2; exact h1.congr (fun i hi => (h2 i hi).trans (sdL_cell (sdS s n) hi).symm)) (Nat.le_refl _) (Nat.lt_succ_self _)).out ho (.inr (by omega))
        exact bodyPost_ret (v := .tuple #[netV i h (some ⟨g1, 0, none⟩) n n (some ⟨g2, 0, none⟩) m m, .int .i64 (sdS (sdS s n) m), .bool true]) (by simp [results, Try.results16, go_sem, p0, p1, p2, p3]) rfl ⟨some ⟨g1, 0, none⟩, n, some ⟨g2, 0, none⟩, m, g1, g1 + 1, g2, g2 + 1, rfl, w1, w2, by omega, by omega, by simp; omega, by simp; omega, by omega, Out.below c4 ho (by omega)⟩
end Go.Proofs.Ytcpbaigghhjceaa
