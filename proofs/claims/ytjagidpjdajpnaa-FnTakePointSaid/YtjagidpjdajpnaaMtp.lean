/-
  The walks of MoneyTakePoint (both packages).
-/
import Derived.Test.YtjagidpjdajpnaaGcd
namespace Go.Proofs.Ytjagidpjdajpnaa
open Go.ChangeShapes Go.WideShapes Go.ChangeAt Go.RowKit

/-- the take points for money: numerators and denominators -/
def mtD : Nat → Int
  | 0 => 4
  | k + 1 => 4 * mtD k
def mtN : Nat → Int
  | 0 => 1
  | k + 1 => mtD k - mtN k
theorem mt_table : ∀ k : Fin 22, 0 ≤ mtN k.val ∧ mtN k.val ≤ mtD k.val ∧ 0 < mtD k.val ∧ mtD k.val ≤ 17592186044416 ∧ (Int.gcd (mtD k.val) (mtN k.val) : Int) = 1 := by decide +kernel
theorem mt_facts {k : Nat} (h : k ≤ 21) : 0 ≤ mtN k ∧ mtN k ≤ mtD k ∧ 0 < mtD k ∧ mtD k ≤ 17592186044416 ∧ (Int.gcd (mtD k) (mtN k) : Int) = 1 := mt_table ⟨k, by omega⟩
def mtpN (k : Int) : Int := if wB k 0 20 then mtN k.toNat else 0
def mtpD (k : Int) : Int := if wB k 0 20 then mtD k.toNat else 0
def mtpC (k : Int) : Int := if wB k 0 20 then 0 else 2
theorem ret_share {n d c n' d' c' : Int} (h1 : n' = n) (h2 : d' = d) (h3 : c' = c) : Ending.returned (.tuple #[shV n d, .int .i64 c]) = Ending.returned (.tuple #[shV n' d', .int .i64 c']) := by rw [h1, h2, h3]
theorem mtp_no {k : Int} (h : wB k 0 20 = false) : mtpN k = 0 ∧ mtpD k = 0 ∧ mtpC k = 2 := by simp [mtpN, mtpD, mtpC, h]
theorem mtp_yes {q : Nat} (h : wB (q : Int) 0 20 = true) : mtpN q = mtN q ∧ mtpD q = mtD q ∧ mtpC q = 0 := by simp [mtpN, mtpD, mtpC, h]

set_option maxHeartbeats 1600000 in
theorem impl_MoneyTakePoint_any (k : Int) (w : World) : Calls Try.prog 10 #[.int .i64 k] w fun e w' => e = .returned (.tuple #[shV (mtpN k) (mtpD k), .int .i64 (mtpC k)]) ∧ Below w.heap.size w w' := by
  cases hk : wB k 0 20
  · obtain ⟨h1, h2, h3⟩ := mtp_no hk
    have H1 := Lib.hid h1
    have H2 := Lib.hid h2
    have H3 := Lib.hid h3
    clear h1 h2 h3
    go_enter Try.func10, Try.ntmps10
    go_wp2_with (go_at_call 25; refine (within_any _ _ _ _).mono ?_; rintro e w' ⟨rfl, rfl⟩)
    refine bodyPost_ret (v := .tuple #[shV 0 0, .int .i64 2]) (by simp [results, Try.results10, go_sem]) rfl ⟨ret_share H1.out H2.out H3.out, ?_⟩
    exact (Below.refl w.heap.size w).alloc (Nat.le_refl _) _
  · obtain ⟨k1, k2⟩ := wB_true.1 hk
    obtain ⟨q, rfl⟩ := Int.eq_ofNat_of_zero_le k1
    obtain ⟨h1, h2, h3⟩ := mtp_yes hk
    have H1 := Lib.hid h1
    have H2 := Lib.hid h2
    have H3 := Lib.hid h3
    clear h1 h2 h3
    go_enter Try.func10, Try.ntmps10
    go_wp2_with (go_at_call 25; refine (within_any _ _ _ _).mono ?_; rintro e w' ⟨rfl, rfl⟩)
    clear hk
    go_loop [4, 5, 13] (fun a b i => ∃ (j : Nat) (n d : Int), j ≤ q ∧ i = .int .i64 j ∧ a = .int .i64 n ∧ b = .int .i64 d ∧ Hid (mtN j = n) ∧ Hid (mtD j = d)) (fun _ _ i => q - (intOf i).toNat)
    case atStart => exact ⟨0, 1, 4, Nat.zero_le _, rfl, rfl, rfl, rfl, rfl⟩
    case round =>
      obtain ⟨j, n, d, hj, rfl, rfl, rfl, hN, hD⟩ := hrel
      have hf := mt_facts (k := j) (by omega)
      rw [hN.out, hD.out] at hf
      obtain ⟨f1, f2, f3, f4, f5⟩ := hf
      have F5 := Lib.hid f5
      clear f5
      by_cases hlt : j < q
      · have HN := Lib.hid (show mtN (j + 1) = d - n by rw [mtN, hN.out, hD.out])
        have HD := Lib.hid (show mtD (j + 1) = 4 * d by rw [mtD, hD.out])
        go_wp2
        go_round
        case rel => exact ⟨j + 1, _, _, by omega, by go_num, rfl, rfl, HN, HD⟩
        case measure => simp [intOf]; omega
      · obtain rfl : j = q := by omega
        have eN := Lib.hid (loN_one F5.out)
        have eD := Lib.hid (loD_one F5.out)
        have eB := Lib.hid (show loB n d = true by rw [loB, loD_one F5.out]; simp; omega)
        go_wp2_with fail
        refine (makeShare_in n d _ f1 f3 f2 (by omega)).mono ?_
        rintro e w1 ⟨rfl, hb⟩
        rw [eN.out, eD.out, eB.out]
        obtain ⟨hc, hfz⟩ := bcell hb
        have hz := hb.size
        have HB1 : Below w.heap.size w w1 := ((Below.refl w.heap.size w).alloc (Nat.le_refl _) _).trans (hb.mono (by simp))
        have hr0 : w1.rowIs w.heap.size 23 2 (two 0 0) := rowIs_below (two_new w 0 0 _) hb (by simp)
        obtain ⟨q0, q1, g0, g1⟩ := two_cells hr0
        clear hc hfz
        have hz2 := hr0.lt
        go_wp2_with fail
        obtain ⟨p0, p1, _, _⟩ := two_cells ((two_set hr0 n d).alloc (.cells #[.int .i64 n, .int .i64 d] 23))
        refine bodyPost_ret (v := .tuple #[shV n d, .int .i64 0]) (by simp [results, Try.results10, go_sem, p0, p1]) rfl ⟨ret_share (H1.out.trans hN.out) (H2.out.trans hD.out) H3.out, ?_⟩
        exact ((HB1.setCell (Nat.le_refl _) _).setCell (Nat.le_refl _) _).alloc (by simp [World.setCell]; omega) _

set_option maxHeartbeats 1600000 in
theorem spec_MoneyTakePoint_any (k : Int) (w : World) : Calls Try.prog 9 #[.int .i64 k] w fun e w' => e = .returned (.tuple #[shV (mtpN k) (mtpD k), .int .i64 (mtpC k)]) ∧ Below w.heap.size w w' := by
  cases hk : wB k 0 20
  · obtain ⟨h1, h2, h3⟩ := mtp_no hk
    have H1 := Lib.hid h1
    have H2 := Lib.hid h2
    have H3 := Lib.hid h3
    clear h1 h2 h3
    go_enter Try.func9, Try.ntmps9
    go_wp2_with (go_at_call 23; refine (l01In_any _ _ _ _).mono ?_; rintro e w' ⟨rfl, rfl⟩)
    refine bodyPost_ret (v := .tuple #[shV 0 0, .int .i64 2]) (by simp [results, Try.results9, go_sem]) rfl ⟨ret_share H1.out H2.out H3.out, ?_⟩
    exact (Below.refl w.heap.size w).alloc (Nat.le_refl _) _
  · obtain ⟨k1, k2⟩ := wB_true.1 hk
    obtain ⟨q, rfl⟩ := Int.eq_ofNat_of_zero_le k1
    obtain ⟨h1, h2, h3⟩ := mtp_yes hk
    have H1 := Lib.hid h1
    have H2 := Lib.hid h2
    have H3 := Lib.hid h3
    clear h1 h2 h3
    go_enter Try.func9, Try.ntmps9
    go_wp2_with (go_at_call 23; refine (l01In_any _ _ _ _).mono ?_; rintro e w' ⟨rfl, rfl⟩)
    clear hk
    go_loopw [0] (fun i wr => ∃ (j : Nat) (n d : Int), j ≤ q ∧ i = .int .i64 (q - j) ∧ Hid (mtN j = n) ∧ Hid (mtD j = d) ∧ wr.rowIs (w.heap.size + 1) 23 2 (two n d) ∧ wr.rowIs w.heap.size 23 2 (two 0 0) ∧ Below w.heap.size w wr) (fun i _ => (intOf i).toNat)
    case atStart => exact ⟨0, 1, 4, Nat.zero_le _, by simp, rfl, rfl, by simpa using two_new (w.alloc (.cells #[.int .i64 0, .int .i64 0] 23)) 1 4 23, (two_new w 0 0 _).alloc _, ((Below.refl w.heap.size w).alloc (Nat.le_refl _) _).alloc (by simp) _⟩
    case round =>
      obtain ⟨j, n, d, hj, rfl, hN, hD, hr, hr0, hbel⟩ := hrel
      have hf := mt_facts (k := j) (by omega)
      rw [hN.out, hD.out] at hf
      obtain ⟨f1, f2, f3, f4, f5⟩ := hf
      clear f5
      obtain ⟨c0, c1, g0, g1⟩ := two_cells hr
      by_cases hlt : j < q
      · have HN := Lib.hid (show mtN (j + 1) = d - n by rw [mtN, hN.out, hD.out])
        have HD := Lib.hid (show mtD (j + 1) = 4 * d by rw [mtD, hD.out])
        have F5 := Lib.hid (mt_facts (k := j + 1) (by omega)).2.2.2.2
        have eN := Lib.hid (show loN (d - n) (4 * d) = d - n by rw [← HN.out, ← HD.out]; exact loN_one F5.out)
        have eD := Lib.hid (show loD (d - n) (4 * d) = 4 * d by rw [← HN.out, ← HD.out]; exact loD_one F5.out)
        go_wp2_with fail
        refine (l18Make_any (d - n) (4 * d) _ (by omega) (by omega) (by omega) (by omega)).mono ?_
        rintro e w1 ⟨rfl, hb⟩
        rw [eN.out, eD.out]
        have hr1 := rowIs_below hr hb hr.lt
        have hr01 := rowIs_below hr0 hb hr0.lt
        obtain ⟨a0, a1, b0, b1⟩ := two_cells hr1
        clear c0 c1 g0 g1
        have hbel1 := hbel.trans (hb.mono hbel.size)
        go_wp2_with fail
        go_roundw
        case rel => exact ⟨j + 1, d - n, 4 * d, by omega, by go_num, HN, HD, two_set hr1 _ _, (hr01.setOther (by simp) _).setOther (by simp) _, (hbel1.setCell (by simp) _).setCell (by simp) _⟩
        case measure => simp [intOf]; omega
      · obtain rfl : j = q := by omega
        obtain ⟨a0, a1, b0, b1⟩ := two_cells hr0
        go_wp2_with fail
        obtain ⟨p0, p1, _, _⟩ := two_cells (two_set hr0 n d)
        refine bodyPost_ret (v := .tuple #[shV n d, .int .i64 0]) (by simp [results, Try.results9, go_sem, p0, p1]) rfl ⟨ret_share (H1.out.trans hN.out) (H2.out.trans hD.out) H3.out, ?_⟩
        exact (hbel.setCell (Nat.le_refl _) _).setCell (Nat.le_refl _) _
end Go.Proofs.Ytjagidpjdajpnaa
