/-
  The draw of a network, and DrawOutputOf.
-/
import Derived.Test.YtcpbaigghhjceaaOutD
namespace Go.Proofs.Ytcpbaigghhjceaa
open Go.ChangeShapes Go.WideShapes Go.ChangeAt Go.RowKit
set_option linter.unusedVariables false

theorem four_one {w : World} {g t : Nat} {p q r s : Value} (h : w.rowIs g t 4 (four p q r s)) (u : Value) : (w.setCell ⟨g, 1, none⟩ u).rowIs g t 4 (four p u r s) :=
  (h.set 1 u).congr fun i hi => by
    match i, hi with
    | 0, _ => rfl
    | 1, _ => rfl
    | 2, _ => rfl
    | 3, _ => rfl
theorem four_zero {w : World} {g t : Nat} {p q r s : Value} (h : w.rowIs g t 4 (four p q r s)) (u : Value) : (w.setCell ⟨g, 0, none⟩ u).rowIs g t 4 (four u q r s) :=
  (h.set 0 u).congr fun i hi => by
    match i, hi with
    | 0, _ => rfl
    | 1, _ => rfl
    | 2, _ => rfl
    | 3, _ => rfl
theorem four_three {w : World} {g t : Nat} {p q r s : Value} (h : w.rowIs g t 4 (four p q r s)) (u : Value) : (w.setCell ⟨g, 3, none⟩ u).rowIs g t 4 (four p q r u) :=
  (h.set 3 u).congr fun i hi => by
    match i, hi with
    | 0, _ => rfl
    | 1, _ => rfl
    | 2, _ => rfl
    | 3, _ => rfl
/-- what stays from draw to draw: the two lists in blocks gA and gB, the result's cells, the network's cells in block bx -/
structure NdAt (w0 : World) (g : Nat) (a : Option Addr) (n c : Nat) (xs : List Int) (w : World) (gA gB bx : Nat) (i h : Int) (nn cc mm dd : Nat) (wx : World) : Prop where
  first : ∃ zs : List Int, zs.length = nn ∧ RowN wx gA (gA + 1) 2 (some ⟨gA, 0, none⟩) nn (icell .i64 zs)
  second : ∃ zs : List Int, zs.length = mm ∧ RowN wx gB (gB + 1) 2 (some ⟨gB, 0, none⟩) mm (icell .i64 zs)
  res : wx.rowIs w.heap.size 27 4 (four (.int .i64 0) (.int .i64 0) (.slice none 0 0) (.slice none 0 0))
  box : wx.rowIs bx 27 4 (four (.int .i64 i) (.int .i64 h) (.slice (some ⟨gA, 0, none⟩) nn cc) (.slice (some ⟨gB, 0, none⟩) mm dd))
  dr : Drawing w0 g a n c xs wx
  gr : w.grownBy wx (some g)
section
variable {w0 w wx wy : World} {g n c gA gB bx nn cc mm dd : Nat} {a : Option Addr} {xs : List Int} {i h : Int}
theorem NdAt.draw (k : NdAt w0 g a n c xs w gA gB bx i h nn cc mm dd wx) (hd : Drawing w0 g a n c xs wy) (hg : wx.grownBy wy (some g)) (h1 : g < w.heap.size) (h2 : w.heap.size < gA) (h3 : w.heap.size < gB) (h4 : w.heap.size < bx) : NdAt w0 g a n c xs w gA gB bx i h nn cc mm dd wy :=
  ⟨by obtain ⟨zs, e, r⟩ := k.first; exact ⟨zs, e, r.grown hg (by omega)⟩, by obtain ⟨zs, e, r⟩ := k.second; exact ⟨zs, e, r.grown hg (by omega)⟩,
   k.res.of_block (hg.block _ k.res.lt (fun e => by cases e; omega)), k.box.of_block (hg.block _ k.box.lt (fun e => by cases e; omega)), hd, by_trans k.gr hg⟩
theorem NdAt.alloc (k : NdAt w0 g a n c xs w gA gB bx i h nn cc mm dd wx) (o : Obj) : NdAt w0 g a n c xs w gA gB bx i h nn cc mm dd (wx.alloc o) :=
  ⟨by obtain ⟨zs, e, r⟩ := k.first; exact ⟨zs, e, r.below ((Below.refl _ _).alloc (Nat.le_refl _) _)⟩, by obtain ⟨zs, e, r⟩ := k.second; exact ⟨zs, e, r.below ((Below.refl _ _).alloc (Nat.le_refl _) _)⟩,
   k.res.alloc o, k.box.alloc o, k.dr.alloc o, grown_al k.gr o⟩
theorem NdAt.drw (k : NdAt w0 g a n c xs w gA gB bx i h nn cc mm dd wx) : NdAt w0 g a n c xs w gA gB bx i h nn cc mm dd wx.drew :=
  ⟨k.first, k.second, k.res, k.box, k.dr.drw 1, by_drew k.gr⟩
theorem NdAt.put (k : NdAt w0 g a n c xs w gA gB bx i h nn cc mm dd wx) {j : Nat} (hj : j < nn) (u : Int) (h1 : g < w.heap.size) (h2 : w.heap.size < gA) (h3 : gA ≠ gB) (h4 : gA ≠ bx) : NdAt w0 g a n c xs w gA gB bx i h nn cc mm dd (wx.setCell ⟨gA, j, none⟩ (.int .i64 u)) := by
  have tw : Tw gA gA wx (wx.setCell ⟨gA, j, none⟩ (.int .i64 u)) := (Tw.refl gA gA wx).set (.inl rfl) _
  refine ⟨?_, ?_, k.res.of_block (tw.block _ (by omega) (by omega)), k.box.of_block (tw.block _ (by omega) (by omega)), k.dr.setB (by show g < gA; omega) _, grown_se k.gr (by show w.heap.size ≤ gA; omega) _⟩
  · obtain ⟨zs, e, r⟩ := k.first
    exact ⟨zs.set j u, by rw [List.length_set, e], (r.set hj (.int .i64 u)).congr fun q _ => icell_set u e hj q⟩
  · obtain ⟨zs, e, r⟩ := k.second
    exact ⟨zs, e, tw.row r (by omega) (by omega)⟩
def NdPost (w0 : World) (g : Nat) (a : Option Addr) (n c : Nat) (xs : List Int) (w : World) (e : Ending) (w' : World) : Prop :=
  ∃ (i h : Int) (A : Option Addr) (m c' : Nat) (ys : List Int) (B : Option Addr) (q d : Nat) (zs : List Int), e = .returned (netV i h A m c' B q d) ∧ m ≤ c' ∧ c' ≤ 9223372036854775807 ∧ m ≤ 1000 ∧ q ≤ 1000 ∧ Iv w' w.heap.size A m ys ∧ Iv w' w.heap.size B q zs ∧ Drawing w0 g a n c xs w' ∧ w.grownBy w' (some g)
theorem nd_end (k : NdAt w0 g a n c xs w gA gB bx i h nn cc mm dd wx) (tw : Tw w.heap.size bx wx wy) (h1 : g < w.heap.size) (h2 : w.heap.size < gA) (h3 : w.heap.size < gB) (h4 : w.heap.size < bx) (h5 : gA ≠ bx) (h6 : gB ≠ bx) (n0 : 0 < nn) (m0 : 0 < mm) (hn : nn ≤ 1000) (hm : mm ≤ 1000) (hc : nn ≤ cc) (hc2 : cc ≤ 9223372036854775807) {i' h' : Int} {m' : Nat} (hm' : m' ≤ mm) :
    NdPost w0 g a n c xs w (.returned (netV i' h' (some ⟨gA, 0, none⟩) nn cc (some ⟨gB, 0, none⟩) m' dd)) wy := by
  obtain ⟨ys, e1, r1⟩ := k.first
  obtain ⟨zs, e2, r2⟩ := k.second
  have hb := tw.below (B := w.heap.size) (Nat.le_refl _) (by omega)
  refine ⟨i', h', _, nn, cc, ys, _, m', dd, zs.take m', rfl, hc, hc2, hn, by omega, (iv_row (tw.row r1 (by omega) (by omega)) e1 n0).lower (by omega), ((iv_row (tw.row r2 (by omega) (by omega)) e2 m0).lower (by omega)).front hm', k.dr.keepB hb h1, grown_be k.gr hb (Nat.le_refl _)⟩
end
theorem pick3 (W : World) (p q r : Int) (t : TypeId) (T : Nat) (hT : T < 3) : ∃ v : Int, (W.alloc (.cells #[.int .i64 p, .int .i64 q, .int .i64 r] t)).cell? ⟨W.heap.size, T, none⟩ = some (.int .i64 v) := by
  have hc := new_cell W #[.int .i64 p, .int .i64 q, .int .i64 r] t T
  match T, hT with
  | 0, _ => exact ⟨_, hc⟩
  | 1, _ => exact ⟨_, hc⟩
  | 2, _ => exact ⟨_, hc⟩
set_option maxRecDepth 16000 in
set_option maxHeartbeats 3200000 in
theorem l23Draw_dr (w0 : World) (g : Nat) (a : Option Addr) (n c : Nat) (xs : List Int) (w : World) (I : Int) (hI1 : 1 ≤ I) (hI2 : I ≤ 32) (hd : Drawing w0 g a n c xs w) :
    Calls Try.prog 60 #[.pointer (some ⟨g, 0, none⟩), .int .i64 I] w fun e w' => NdPost w0 g a n c xs w e w' := by
  have NX := Lib.hid (fun m W hm hD => next_dr m w0 g a n c xs W hD hm)
  have hlt := hd.lt
  have D0 := Lib.hid (hd.alloc (.cells #[.int .i64 0, .int .i64 0, .slice none 0 0, .slice none 0 0] 27))
  have G0 := Lib.hid (grown_al (by_refl w (some g)) (.cells #[.int .i64 0, .int .i64 0, .slice none 0 0, .slice none 0 0] 27))
  have R0 := Lib.hid (four_new w (.int .i64 0) (.int .i64 0) (.slice none 0 0) (.slice none 0 0) 27)
  clear hd
  go_enter Try.func60, Try.ntmps60
  go_wp2_with fail
  refine (NX.out 4 _ (by omega) D0.out).mono ?_
  rintro e w1 ⟨x, rfl, x1, x2, hd1, hg1⟩
  have x3 : x < 4 := by omega
  have z1 := hg1.size
  simp only [World.size_alloc] at z1
  have D1 := Lib.hid hd1
  have G1 := Lib.hid (by_trans G0.out hg1)
  have R1 := Lib.hid (R0.out.of_block (hg1.block _ R0.out.lt (fun e => by cases e; omega)))
  clear x2 hd1 hg1
  go_wp2_with fail
  refine (NX.out 100000 _ (by omega) D1.out).mono ?_
  rintro e w2 ⟨y, rfl, y1, y2, hd2, hg2⟩
  have y3 : y < 100000 := by omega
  have z2 := hg2.size
  have D2 := Lib.hid hd2
  have G2 := Lib.hid (by_trans G1.out hg2)
  have R2 := Lib.hid (R1.out.of_block (hg2.block _ R1.out.lt (fun e => by cases e; omega)))
  clear y2 hd2 hg2
  obtain ⟨b1, b2⟩ := prod_bd hI1 hI2 (show 1 ≤ 1 + x by omega) (by omega)
  obtain ⟨nn, hnn⟩ := Int.eq_ofNat_of_zero_le (show 0 ≤ (1 + x) * (I + 1) by omega)
  obtain ⟨mm, hmm⟩ := Int.eq_ofNat_of_zero_le (show 0 ≤ (1 + x) + 1 by omega)
  have hok : sdOk I (1 + x) (1 + y) = true := by
    simp only [sdOk, Bool.and_eq_true]
    exact ⟨wB_true.2 (by omega), wB_true.2 (by omega), wB_true.2 (by omega)⟩
  have SD := Lib.hid (spec_SeededNetwork_cap I (1 + x) (1 + y) nn mm w2 hok hnn.symm hmm.symm)
  have n0 : 1 ≤ nn := by omega
  have n1 : nn ≤ 1000 := by omega
  have m0 : 1 ≤ mm := by omega
  have m1 : mm ≤ 1000 := by omega
  clear hok b1 b2 hnn hmm
  go_wp2_with fail
  refine SD.out.mono ?_
  rintro e w3 ⟨A, cc, B, dd, l1, u1, l2, u2, rfl, r1, r2, hl1, hl2, hu1, hu2, hdis, hb3, c1, c2, c3, c4⟩
  obtain ⟨gA, rfl, qa1, qa2, _, _⟩ := r1.blk (by omega)
  obtain ⟨gB, rfl, qb1, qb2, _, _⟩ := r2.blk (by omega)
  have z3 := hb3.size
  have hAB : gA ≠ gB := by omega
  have k1 : w.heap.size < gA := by omega
  have k2 : w.heap.size < gB := by omega
  have k3 : w.heap.size < w3.heap.size := by omega
  have k4 : gA ≠ w3.heap.size := by omega
  have k5 : gB ≠ w3.heap.size := by omega
  obtain ⟨h, hh⟩ : ∃ h, 1 + x = h := ⟨_, rfl⟩
  have AT : Hid (NdAt w0 g a n c xs w gA gB w3.heap.size I h nn cc mm dd (w3.alloc (.cells #[.int .i64 I, .int .i64 h, .slice (some ⟨gA, 0, none⟩) nn cc, .slice (some ⟨gB, 0, none⟩) mm dd] 27))) := Lib.hid
    ⟨⟨_, sdL_len _ _, (rown_at r1 (by omega)).below ((Below.refl _ _).alloc (Nat.le_refl _) _)⟩, ⟨_, sdL_len _ _, (rown_at r2 (by omega)).below ((Below.refl _ _).alloc (Nat.le_refl _) _)⟩,
      (rowIs_below R2.out hb3 R2.out.lt).alloc _, four_new w3 _ _ _ _ _, (D2.out.after hb3).alloc _, grown_al (grown_be G2.out hb3 (by omega)) _⟩
  rw [hh]
  obtain ⟨bx, hbx, hbx'⟩ : ∃ b, w3.heap.size = b ∧ b = w3.heap.size := ⟨_, rfl, rfl⟩
  have h1 : 1 ≤ h := by omega
  have h2 : h ≤ 4 := by omega
  clear hl1 hl2 hu1 hu2 hdis hb3 r1 r2 qa1 qa2 qb1 qb2 x1 x3 hh SD R0 R1 R2 D0 D1 D2 G0 G1 G2
  obtain ⟨v0, v1, v2, v3⟩ := four_cells AT.out.box
  have hnz : ((nn : Int) == 0) = false := by simp; omega
  clear hbx hbx' bx
  go_wp2_with fail
  refine (NX.out 2 _ (by omega) AT.out.dr).mono ?_
  rintro e w4 ⟨t, rfl, t1, t2, hd4, hg4⟩
  have A4 := Lib.hid (AT.out.draw hd4 hg4 hlt k1 k2 k3)
  clear t2 hd4 hg4 v0 v1 v2 v3
  go_upto_if 29 with fail
  go_cut [8] (fun _ wx => NdAt w0 g a n c xs w gA gB w3.heap.size I h nn cc mm dd wx)
  case first =>
    by_cases ht : t = 0
    · subst ht
      go_wp2_with fail
      refine (NX.out 6 _ (by omega) A4.out.dr).mono ?_
      rintro e w5 ⟨r, rfl, r1, r2, hd5, hg5⟩
      have r3 : r < 6 := by omega
      have A5 := Lib.hid (A4.out.draw hd5 hg5 hlt k1 k2 k3)
      clear r2 hd5 hg5
      go_wp2_with fail
      go_loopw [8] (fun r wr => ∃ q : Int, r = .int .i64 q ∧ 0 ≤ q ∧ q ≤ 6 ∧ Hid (NdAt w0 g a n c xs w gA gB w3.heap.size I h nn cc mm dd wr)) (fun r _ => (intOf r).toNat)
      case atStart => exact ⟨r, rfl, r1, by omega, A5⟩
      case round =>
        obtain ⟨q, rfl, q0, q1, hA⟩ := hrel
        by_cases hq : 0 < q
        · obtain ⟨v0, v1, v2, v3⟩ := four_cells hA.out.box
          go_wp2_with fail
          refine (NX.out nn _ (by omega) hA.out.dr).mono ?_
          rintro e w6 ⟨j0, rfl, j1, j2, hd6, hg6⟩
          obtain ⟨j, rfl⟩ := Int.eq_ofNat_of_zero_le j1
          have hj : j < nn := by omega
          have A6 := Lib.hid (hA.out.draw hd6 hg6 hlt k1 k2 k3)
          clear j1 j2 hd6 hg6 v0 v1 v2 v3
          obtain ⟨v0, v1, v2, v3⟩ := four_cells A6.out.box
          obtain ⟨zs, _, rz⟩ := A6.out.first
          obtain ⟨cj, fj⟩ := row_cells rz hj
          rw [icell] at cj
          obtain ⟨z, ez⟩ : ∃ z, zs.getD j 0 = z := ⟨_, rfl⟩
          rw [ez] at cj
          clear ez rz
          go_wp2_with fail
          go_region
          all_goals
            go_wp2_with fail
            go_roundw
            case rel => exact ⟨q - 1, by go_num, by omega, by omega, Lib.hid (by first | exact A6.out.drw.put hj _ hlt k1 hAB k4 | exact (A6.out.put hj _ hlt k1 hAB k4).drw)⟩
            case measure => simp [intOf]; omega
        · go_wp2_with fail
          go_meet
          exact hA.out
    · have nt : (t == 0) = false := by simpa using ht
      clear ht
      go_wp2_with fail
      go_meet
      exact A4.out
  case rest =>
    have A5 := Lib.hid hcut
    clear A4 AT hcut
    go_wp2_with fail
    refine (NX.out 24 _ (by omega) A5.out.dr).mono ?_
    rintro e w6 ⟨s, rfl, s1', s2', hd6, hg6⟩
    have A6 := Lib.hid (A5.out.draw hd6 hg6 hlt k1 k2 k3)
    clear s1' s2' hd6 hg6
    obtain ⟨v0, v1, v2, v3⟩ := four_cells A6.out.box
    obtain ⟨f0, f1, f2, f3⟩ : w6.frozen? ⟨w3.heap.size, 0, none⟩ = false ∧ w6.frozen? ⟨w3.heap.size, 1, none⟩ = false ∧ w6.frozen? ⟨w3.heap.size, 2, none⟩ = false ∧ w6.frozen? ⟨w3.heap.size, 3, none⟩ = false := ⟨A6.out.box.frozen 0, A6.out.box.frozen 1, A6.out.box.frozen 2, A6.out.box.frozen 3⟩
    clear v0 v1 v2 v3 f0 f1 f2 f3
    by_cases s0 : s = 0
    · subst s0
      obtain ⟨f0, f1, f2, f3⟩ : w6.frozen? ⟨w3.heap.size, 0, none⟩ = false ∧ w6.frozen? ⟨w3.heap.size, 1, none⟩ = false ∧ w6.frozen? ⟨w3.heap.size, 2, none⟩ = false ∧ w6.frozen? ⟨w3.heap.size, 3, none⟩ = false := ⟨A6.out.box.frozen 0, A6.out.box.frozen 1, A6.out.box.frozen 2, A6.out.box.frozen 3⟩
      obtain ⟨v0, v1, v2, v3⟩ := four_cells A6.out.box
      obtain ⟨r0, r1, r2, r3⟩ := four_cells A6.out.res
      obtain ⟨q0, q1, q2, q3⟩ : w6.frozen? ⟨w.heap.size, 0, none⟩ = false ∧ w6.frozen? ⟨w.heap.size, 1, none⟩ = false ∧ w6.frozen? ⟨w.heap.size, 2, none⟩ = false ∧ w6.frozen? ⟨w.heap.size, 3, none⟩ = false := ⟨A6.out.res.frozen 0, A6.out.res.frozen 1, A6.out.res.frozen 2, A6.out.res.frozen 3⟩
      go_wp2_with fail
      have A6d := Lib.hid A6.out.drw
      have A6a := Lib.hid (A6.out.alloc (.cells #[.int .i64 1048576, .int .i64 (-1048576), .int .i64 1048577] 2)).drw
      have P3 := Lib.hid (fun W T hT => pick3 W 1048576 (-1048576) 1048577 2 T hT)
      have HZ := Lib.hid (fun (W : World) (k : NdAt w0 g a n c xs w gA gB w3.heap.size I h nn cc mm dd W) => show ∃ z : Int, W.cell? ⟨gA, 0, none⟩ = some (.int .i64 z) ∧ W.frozen? ⟨gA, 0, none⟩ = false by
        obtain ⟨zs, _, rz⟩ := k.first
        obtain ⟨cj, fj⟩ := row_cells rz (i := 0) (by omega)
        exact ⟨_, cj, fj⟩)
      have l6 := A6.out.dr.lt
      have l7 := A6.out.box.lt
      have l8 := A6.out.res.lt
      have r0i : (0 : Int) < (nn : Int) := by omega
      go_region_with
        (first
          | (go_at_call 42; (with_reducible refine (NX.out 3 _ (by omega) A6d.out.dr).mono ?_); rintro e w8 ⟨t, rfl, t1, t2, hd8, hg8⟩; have A8 := Lib.hid (A6d.out.draw hd8 hg8 hlt k1 k2 k3); obtain ⟨T, rfl⟩ := Int.eq_ofNat_of_zero_le t1; have hT : T < 3 := (by omega); have hT2 : (T : Int) < 3 := (by omega); have hT1 : (0 : Int) ≤ (T : Int) := (by omega); obtain ⟨v, hv⟩ := P3.out w8 T hT; obtain ⟨z1, cz1, fz1⟩ := HZ.out _ A8.out; obtain ⟨z2, cz2, fz2⟩ := HZ.out _ (A8.out.alloc (.cells #[.int .i64 1048576, .int .i64 (-1048576), .int .i64 1048577] 2)); have l9 := A8.out.box.lt; have l10 := A8.out.res.lt; obtain ⟨y0, y1, y2, y3⟩ := four_cells A8.out.box; obtain ⟨r0, r1, r2, r3⟩ := four_cells A8.out.res; clear t2 hd8 hg8)
          | (go_at_call 42; (with_reducible refine (NX.out 3 _ (by omega) A6a.out.dr).mono ?_); rintro e w8 ⟨t, rfl, t1, t2, hd8, hg8⟩; have A8 := Lib.hid (A6a.out.draw hd8 hg8 hlt k1 k2 k3); obtain ⟨T, rfl⟩ := Int.eq_ofNat_of_zero_le t1; have hT : T < 3 := (by omega); have hT2 : (T : Int) < 3 := (by omega); have hT1 : (0 : Int) ≤ (T : Int) := (by omega); obtain ⟨v, hv0⟩ := P3.out w6 T hT; have hv := (by_cell hg8 (p := ⟨w6.heap.size, T, none⟩) (by simp) (by show w6.heap.size ≠ g; omega)).trans hv0; obtain ⟨z1, cz1, fz1⟩ := HZ.out _ A8.out; have l9 := A8.out.box.lt; have l10 := A8.out.res.lt; obtain ⟨y0, y1, y2, y3⟩ := four_cells A8.out.box; obtain ⟨r0, r1, r2, r3⟩ := four_cells A8.out.res; clear t2 hd8 hg8 hv0))
      all_goals
        obtain ⟨q0, q1, q2, q3⟩ : w8.frozen? ⟨w.heap.size, 0, none⟩ = false ∧ w8.frozen? ⟨w.heap.size, 1, none⟩ = false ∧ w8.frozen? ⟨w.heap.size, 2, none⟩ = false ∧ w8.frozen? ⟨w.heap.size, 3, none⟩ = false := ⟨A8.out.res.frozen 0, A8.out.res.frozen 1, A8.out.res.frozen 2, A8.out.res.frozen 3⟩
        have Y0 := Lib.hid ((A8.out.alloc (.cells #[.int .i64 1048576, .int .i64 (-1048576), .int .i64 1048577] 2)).put (j := 0) n0 v hlt k1 hAB k4)
        have W0 := Lib.hid (four_cells (four_set Y0.out.res (.int .i64 I) (.int .i64 h) (.slice (some ⟨gA, 0, none⟩) nn cc) (.slice (some ⟨gB, 0, none⟩) mm dd)))
        have Y2 := Lib.hid (A8.out.put (j := 0) n0 v hlt k1 hAB k4)
        have W2 := Lib.hid (four_cells (four_set Y2.out.res (.int .i64 I) (.int .i64 h) (.slice (some ⟨gA, 0, none⟩) nn cc) (.slice (some ⟨gB, 0, none⟩) mm dd)))
        go_wp2
        have W0' := W0.out
        have W2' := W2.out
        refine bodyPost_ret (v := netV I h (some ⟨gA, 0, none⟩) nn cc (some ⟨gB, 0, none⟩) mm dd) (by simp [results, Try.results60, go_sem, W0', W2']) rfl ?_
        first
          | (with_reducible exact nd_end Y0.out (((((Tw.refl w.heap.size w3.heap.size _).set (.inl rfl) _).set (.inl rfl) _).set (.inl rfl) _).set (.inl rfl) _) hlt k1 k2 k3 k4 k5 (by omega) (by omega) n1 m1 c1 c2 (Nat.le_refl _))
          | (with_reducible exact nd_end Y2.out (((((Tw.refl w.heap.size w3.heap.size _).set (.inl rfl) _).set (.inl rfl) _).set (.inl rfl) _).set (.inl rfl) _) hlt k1 k2 k3 k4 k5 (by omega) (by omega) n1 m1 c1 c2 (Nat.le_refl _))
    have t0 : (s == 0) = false := by simpa using s0
    by_cases s1 : s = 1
    · subst s1
      clear s0 t0
      obtain ⟨f0, f1, f2, f3⟩ : w6.frozen? ⟨w3.heap.size, 0, none⟩ = false ∧ w6.frozen? ⟨w3.heap.size, 1, none⟩ = false ∧ w6.frozen? ⟨w3.heap.size, 2, none⟩ = false ∧ w6.frozen? ⟨w3.heap.size, 3, none⟩ = false := ⟨A6.out.box.frozen 0, A6.out.box.frozen 1, A6.out.box.frozen 2, A6.out.box.frozen 3⟩
      obtain ⟨v0, v1, v2, v3⟩ := four_cells A6.out.box
      obtain ⟨r0, r1, r2, r3⟩ := four_cells A6.out.res
      obtain ⟨q0, q1, q2, q3⟩ : w6.frozen? ⟨w.heap.size, 0, none⟩ = false ∧ w6.frozen? ⟨w.heap.size, 1, none⟩ = false ∧ w6.frozen? ⟨w.heap.size, 2, none⟩ = false ∧ w6.frozen? ⟨w.heap.size, 3, none⟩ = false := ⟨A6.out.res.frozen 0, A6.out.res.frozen 1, A6.out.res.frozen 2, A6.out.res.frozen 3⟩
      go_wp2
      obtain ⟨p0, p1, p2, p3⟩ := four_cells (four_set (A6.out.res.setOther (a := ⟨w3.heap.size, 1, none⟩) (by show w.heap.size ≠ w3.heap.size; omega) (.int .i64 (h + 1))) (.int .i64 (I)) (.int .i64 (h + 1)) (.slice (some ⟨gA, 0, none⟩) nn cc) (.slice (some ⟨gB, 0, none⟩) mm dd))
      refine bodyPost_ret (v := netV (I) (h + 1) (some ⟨gA, 0, none⟩) nn cc (some ⟨gB, 0, none⟩) (mm) dd) (by simp [results, Try.results60, go_sem, p0, p1, p2, p3]) rfl (nd_end A6.out ((((((Tw.refl w.heap.size w3.heap.size _).set (p := ⟨w3.heap.size, 1, none⟩) (.inr rfl) (.int .i64 (h + 1))).set (.inl rfl) _).set (.inl rfl) _).set (.inl rfl) _).set (.inl rfl) _) hlt k1 k2 k3 k4 k5 (by omega) (by omega) n1 m1 c1 c2 (Nat.le_refl _))
    have t1 : (s == 1) = false := by simpa using s1
    by_cases s2 : s = 2
    · subst s2
      clear s0 t0 s1 t1
      have hmi : IntKind.i64.wrap ((mm : Int) - 1) = (mm : Int) - 1 := IntWalk.i64_in _ (by omega)
      have hmt : ((mm : Int) - 1).toNat = mm - 1 := by omega
      have hm1 : (mm : Int) - 1 = ((mm - 1 : Nat) : Int) := by omega
      have hm2 : mm - 1 ≤ dd := by omega
      obtain ⟨f0, f1, f2, f3⟩ : w6.frozen? ⟨w3.heap.size, 0, none⟩ = false ∧ w6.frozen? ⟨w3.heap.size, 1, none⟩ = false ∧ w6.frozen? ⟨w3.heap.size, 2, none⟩ = false ∧ w6.frozen? ⟨w3.heap.size, 3, none⟩ = false := ⟨A6.out.box.frozen 0, A6.out.box.frozen 1, A6.out.box.frozen 2, A6.out.box.frozen 3⟩
      obtain ⟨v0, v1, v2, v3⟩ := four_cells A6.out.box
      obtain ⟨r0, r1, r2, r3⟩ := four_cells A6.out.res
      obtain ⟨q0, q1, q2, q3⟩ : w6.frozen? ⟨w.heap.size, 0, none⟩ = false ∧ w6.frozen? ⟨w.heap.size, 1, none⟩ = false ∧ w6.frozen? ⟨w.heap.size, 2, none⟩ = false ∧ w6.frozen? ⟨w.heap.size, 3, none⟩ = false := ⟨A6.out.res.frozen 0, A6.out.res.frozen 1, A6.out.res.frozen 2, A6.out.res.frozen 3⟩
      go_wp2
      obtain ⟨p0, p1, p2, p3⟩ := four_cells (four_set (A6.out.res.setOther (a := ⟨w3.heap.size, 3, none⟩) (by show w.heap.size ≠ w3.heap.size; omega) (.slice (some ⟨gB, 0, none⟩) (mm - 1) dd)) (.int .i64 (I)) (.int .i64 (h)) (.slice (some ⟨gA, 0, none⟩) nn cc) (.slice (some ⟨gB, 0, none⟩) (mm - 1) dd))
      refine bodyPost_ret (v := netV (I) (h) (some ⟨gA, 0, none⟩) nn cc (some ⟨gB, 0, none⟩) (mm - 1) dd) (by simp [results, Try.results60, go_sem, p0, p1, p2, p3]) rfl (nd_end A6.out ((((((Tw.refl w.heap.size w3.heap.size _).set (p := ⟨w3.heap.size, 3, none⟩) (.inr rfl) (.slice (some ⟨gB, 0, none⟩) (mm - 1) dd)).set (.inl rfl) _).set (.inl rfl) _).set (.inl rfl) _).set (.inl rfl) _) hlt k1 k2 k3 k4 k5 (by omega) (by omega) n1 m1 c1 c2 (by omega))
    have t2 : (s == 2) = false := by simpa using s2
    by_cases s3 : s = 3
    · subst s3
      clear s0 t0 s1 t1 s2 t2
      have A7 := Lib.hid (A6.out.alloc (.cells #[.int .i64 0, .int .i64 33] 2))
      have l6 := A6.out.dr.lt
      go_wp2_with fail
      refine (NX.out 2 _ (by omega) A7.out.dr).mono ?_
      rintro e w8 ⟨t, rfl, t1, t2, hd8, hg8⟩
      have A8 := Lib.hid (A7.out.draw hd8 hg8 hlt k1 k2 k3)
      obtain ⟨T, rfl⟩ := Int.eq_ofNat_of_zero_le t1
      have hT : T < 2 := by omega
      obtain ⟨v, hv⟩ : ∃ v : Int, w8.cell? ⟨w6.heap.size, T, none⟩ = some (.int .i64 v) := by
        have hc := new_kept hg8 l6 T
        match T, hT with
        | 0, _ => exact ⟨_, hc⟩
        | 1, _ => exact ⟨_, hc⟩
      clear t2 hd8 hg8
      obtain ⟨f0, f1, f2, f3⟩ : w8.frozen? ⟨w3.heap.size, 0, none⟩ = false ∧ w8.frozen? ⟨w3.heap.size, 1, none⟩ = false ∧ w8.frozen? ⟨w3.heap.size, 2, none⟩ = false ∧ w8.frozen? ⟨w3.heap.size, 3, none⟩ = false := ⟨A8.out.box.frozen 0, A8.out.box.frozen 1, A8.out.box.frozen 2, A8.out.box.frozen 3⟩
      obtain ⟨v0, v1, v2, v3⟩ := four_cells A8.out.box
      obtain ⟨r0, r1, r2, r3⟩ := four_cells A8.out.res
      obtain ⟨q0, q1, q2, q3⟩ : w8.frozen? ⟨w.heap.size, 0, none⟩ = false ∧ w8.frozen? ⟨w.heap.size, 1, none⟩ = false ∧ w8.frozen? ⟨w.heap.size, 2, none⟩ = false ∧ w8.frozen? ⟨w.heap.size, 3, none⟩ = false := ⟨A8.out.res.frozen 0, A8.out.res.frozen 1, A8.out.res.frozen 2, A8.out.res.frozen 3⟩
      go_wp2
      obtain ⟨p0, p1, p2, p3⟩ := four_cells (four_set (A8.out.res.setOther (a := ⟨w3.heap.size, 0, none⟩) (by show w.heap.size ≠ w3.heap.size; omega) (.int .i64 v)) (.int .i64 (v)) (.int .i64 (h)) (.slice (some ⟨gA, 0, none⟩) nn cc) (.slice (some ⟨gB, 0, none⟩) mm dd))
      refine bodyPost_ret (v := netV (v) (h) (some ⟨gA, 0, none⟩) nn cc (some ⟨gB, 0, none⟩) (mm) dd) (by simp [results, Try.results60, go_sem, p0, p1, p2, p3]) rfl (nd_end A8.out ((((((Tw.refl w.heap.size w3.heap.size _).set (p := ⟨w3.heap.size, 0, none⟩) (.inr rfl) (.int .i64 v)).set (.inl rfl) _).set (.inl rfl) _).set (.inl rfl) _).set (.inl rfl) _) hlt k1 k2 k3 k4 k5 (by omega) (by omega) n1 m1 c1 c2 (Nat.le_refl _))
    have t3 : (s == 3) = false := by simpa using s3
    clear s0 s1 s2 s3
    obtain ⟨f0, f1, f2, f3⟩ : w6.frozen? ⟨w3.heap.size, 0, none⟩ = false ∧ w6.frozen? ⟨w3.heap.size, 1, none⟩ = false ∧ w6.frozen? ⟨w3.heap.size, 2, none⟩ = false ∧ w6.frozen? ⟨w3.heap.size, 3, none⟩ = false := ⟨A6.out.box.frozen 0, A6.out.box.frozen 1, A6.out.box.frozen 2, A6.out.box.frozen 3⟩
    obtain ⟨v0, v1, v2, v3⟩ := four_cells A6.out.box
    obtain ⟨r0, r1, r2, r3⟩ := four_cells A6.out.res
    obtain ⟨q0, q1, q2, q3⟩ : w6.frozen? ⟨w.heap.size, 0, none⟩ = false ∧ w6.frozen? ⟨w.heap.size, 1, none⟩ = false ∧ w6.frozen? ⟨w.heap.size, 2, none⟩ = false ∧ w6.frozen? ⟨w.heap.size, 3, none⟩ = false := ⟨A6.out.res.frozen 0, A6.out.res.frozen 1, A6.out.res.frozen 2, A6.out.res.frozen 3⟩
    go_wp2
    obtain ⟨p0, p1, p2, p3⟩ := four_cells (four_set A6.out.res (.int .i64 (I)) (.int .i64 (h)) (.slice (some ⟨gA, 0, none⟩) nn cc) (.slice (some ⟨gB, 0, none⟩) mm dd))
    refine bodyPost_ret (v := netV (I) (h) (some ⟨gA, 0, none⟩) nn cc (some ⟨gB, 0, none⟩) (mm) dd) (by simp [results, Try.results60, go_sem, p0, p1, p2, p3]) rfl (nd_end A6.out (((((Tw.refl w.heap.size w3.heap.size _).set (.inl rfl) _).set (.inl rfl) _).set (.inl rfl) _).set (.inl rfl) _) hlt k1 k2 k3 k4 k5 (by omega) (by omega) n1 m1 c1 c2 (Nat.le_refl _))
end Go.Proofs.Ytcpbaigghhjceaa
