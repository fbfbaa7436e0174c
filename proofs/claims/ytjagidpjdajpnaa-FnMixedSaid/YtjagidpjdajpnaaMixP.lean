/-
  Plain facts of mixed take points: codes, ends, between.
-/
import Derived.Test.YtjagidpjdajpnaaMix
import Derived.Test.YtjagidpjdajpnaaCmp
namespace Go.Proofs.Ytjagidpjdajpnaa
open Go.ChangeShapes Go.WideShapes Go.ChangeAt Go.RowKit

theorem mixV_code {a b c d t : Int} (h : (mixV a b c d t).2.2 ≠ 0) : (mixV a b c d t).1 = 0 ∧ (mixV a b c d t).2.1 = 0 := by
  unfold mixV at h ⊢
  split
  · exact ⟨rfl, rfl⟩
  · split
    · exact ⟨rfl, rfl⟩
    · split
      · exact ⟨rfl, rfl⟩
      · split
        · exact ⟨rfl, rfl⟩
        · rename_i h1 h2 h3 h4
          rw [if_neg h1, if_neg h2, if_neg h3, if_neg h4] at h
          exact absurd rfl h
theorem mixV_ok {a b c d t : Int} (h : (mixV a b c d t).2.2 = 0) : shB a b = true ∧ shB c d = true ∧ wB t 0 1000 = true ∧ fitsB [a, b, c, d] 2 = true ∧ loB (mixN a b c d t) (mixD b d) = true := by
  cases hs : (shB a b && shB c d)
  · rw [mixV_1 hs] at h; exact absurd h (by decide)
  · cases ht : wB t 0 1000
    · rw [mixV_2 hs ht] at h; exact absurd h (by decide)
    · cases hf : fitsB [a, b, c, d] 2
      · rw [mixV_3 hs ht hf] at h; exact absurd h (by decide)
      · cases hl : loB (mixN a b c d t) (mixD b d)
        · rw [mixV_4 hs ht hf hl] at h; exact absurd h (by decide)
        · simp only [Bool.and_eq_true] at hs
          exact ⟨hs.1, hs.2, rfl, rfl, rfl⟩
theorem loB_of {a b : Int} (h : shB a b = true) : loB a b = true := by
  obtain ⟨h1, h2, h3, h4, h5⟩ := shB_out h
  rw [loB, loD_one h5]; exact decide_eq_true h2
theorem mixV_ends {a b c d t : Int} (h : (mixV a b c d t).2.2 = 0) : mixV a b c d 0 = (a, b, 0) ∧ mixV a b c d 1000 = (c, d, 0) := by
  obtain ⟨h1, h2, _, hf, _⟩ := mixV_ok h
  have hs : (shB a b && shB c d) = true := by rw [h1, h2]; rfl
  obtain ⟨b1, _, a1, _, g1⟩ := shB_out h1
  obtain ⟨d1, _, c1, _, g2⟩ := shB_out h2
  have e1 : mixN a b c d 0 = (d * 1000) * a := by unfold mixN; rw [Int.mul_zero, Int.add_zero, Int.sub_zero]; ac_rfl
  have e2 : mixD b d = (d * 1000) * b := by unfold mixD; ac_rfl
  have e3 : mixN a b c d 1000 = (b * 1000) * c := by unfold mixN; rw [Int.sub_self, Int.mul_zero, Int.zero_add]; ac_rfl
  have e4 : mixD b d = (b * 1000) * d := by unfold mixD; ac_rfl
  have p1 : 0 < d * 1000 := by omega
  have p2 : 0 < b * 1000 := by omega
  constructor
  · rw [mixV_5 hs (wB_true.2 ⟨by omega, by omega⟩) hf (by rw [e1, e2, lo_scaleB p1]; exact loB_of h1), e1, e2, (lo_scale p1).1, (lo_scale p1).2, loN_one g1, loD_one g1]
  · rw [mixV_5 hs (wB_true.2 ⟨by omega, by omega⟩) hf (by rw [e3, e4, lo_scaleB p2]; exact loB_of h2), e3, e4, (lo_scale p2).1, (lo_scale p2).2, loN_one g2, loD_one g2]
theorem mixV_sh {a b c d t : Int} (h : (mixV a b c d t).2.2 = 0) : shB (mixV a b c d t).1 (mixV a b c d t).2.1 = true := by
  obtain ⟨h1, h2, ht, hf, hl⟩ := mixV_ok h
  have hs : (shB a b && shB c d) = true := by rw [h1, h2]; rfl
  obtain ⟨_, _, _, _, ⟨m9, m10⟩, m11, m12⟩ := mix_facts hs ht hf
  rw [mixV_5 hs ht hf hl]
  show shB (loN _ _) (loD _ _) = true
  rw [shB_lo m9 m11 m10, hl]
theorem mixV_mid {a b c d t : Int} (h : (mixV a b c d t).2.2 = 0) : cmpS (mixV a b c d t).1 (mixV a b c d t).2.1 a b * cmpS (mixV a b c d t).1 (mixV a b c d t).2.1 c d ≤ 0 := by
  obtain ⟨h1, h2, ht, hf, hl⟩ := mixV_ok h
  have hs : (shB a b && shB c d) = true := by rw [h1, h2]; rfl
  obtain ⟨b1, _, a1, _, g1⟩ := shB_out h1
  obtain ⟨d1, _, c1, _, g2⟩ := shB_out h2
  obtain ⟨t1, t2⟩ := wB_true.1 ht
  obtain ⟨_, _, _, _, ⟨m9, m10⟩, m11, m12⟩ := mix_facts hs ht hf
  rw [mixV_5 hs ht hf hl]
  show cmpS (loN _ _) (loD _ _) a b * cmpS (loN _ _) (loD _ _) c d ≤ 0
  obtain ⟨f0, f1, f2, _⟩ := lo_facts m9 m11
  obtain ⟨G, hG⟩ : ∃ G, (Int.gcd (mixD b d) (mixN a b c d t) : Int) = G := ⟨_, rfl⟩
  obtain ⟨N, hN⟩ : ∃ G, loN (mixN a b c d t) (mixD b d) = G := ⟨_, rfl⟩
  obtain ⟨D, hD⟩ : ∃ G, loD (mixN a b c d t) (mixD b d) = G := ⟨_, rfl⟩
  rw [hN, hG] at f1
  rw [hD, hG] at f2
  rw [hG] at f0
  rw [hN, hD]
  have sg : ∀ x : Int, Int.sign x = Int.sign (x * G) := fun x => by rw [Int.sign_mul, Int.sign_eq_one_of_pos f0, Int.mul_one]
  have k1 : (N * b - a * D) * G = b * (t * (c * b - a * d)) := by
    have q1 : (N * b - a * D) * G = N * G * b - a * (D * G) := by rw [Int.sub_mul]; congr 1 <;> ac_rfl
    rw [q1, f1, f2]
    unfold mixN mixD
    rw [Int.add_mul, Int.mul_sub t, Int.mul_sub b]
    have q2 : a * d * (1000 - t) * b = 1000 * (a * d * b) - b * (t * (a * d)) := by rw [Int.mul_sub, Int.sub_mul]; congr 1 <;> ac_rfl
    have q3 : a * (1000 * b * d) = 1000 * (a * d * b) := by ac_rfl
    have q4 : c * b * t * b = b * (t * (c * b)) := by ac_rfl
    rw [q2, q3, q4]; omega
  have k2 : (N * d - c * D) * G = d * ((1000 - t) * (a * d - c * b)) := by
    have q1 : (N * d - c * D) * G = N * G * d - c * (D * G) := by rw [Int.sub_mul]; congr 1 <;> ac_rfl
    rw [q1, f1, f2]
    unfold mixN mixD
    rw [Int.add_mul, Int.sub_mul 1000, Int.mul_sub d, Int.mul_sub t]
    have q2 : a * d * (1000 - t) * d = 1000 * (a * d * d) - d * (t * (a * d)) := by rw [Int.mul_sub, Int.sub_mul]; congr 1 <;> ac_rfl
    have q3 : c * (1000 * b * d) = 1000 * (c * b * d) := by ac_rfl
    have q4 : c * b * t * d = d * (t * (c * b)) := by ac_rfl
    have q5 : d * (1000 * (a * d - c * b)) = 1000 * (a * d * d) - 1000 * (c * b * d) := by rw [Int.mul_sub 1000, Int.mul_sub d]; congr 1 <;> ac_rfl
    have q6 : d * (t * (a * d) - t * (c * b)) = d * (t * (a * d)) - d * (t * (c * b)) := Int.mul_sub ..
    rw [q2, q3, q4, q5, q6]; omega
  unfold cmpS
  rw [sg (N * b - a * D), sg (N * d - c * D), k1, k2, Int.sign_mul, Int.sign_mul, Int.sign_mul, Int.sign_mul, Int.sign_eq_one_of_pos (show 0 < b by omega), Int.sign_eq_one_of_pos (show 0 < d by omega)]
  have e : Int.sign (c * b - a * d) = - Int.sign (a * d - c * b) := by rw [← Int.sign_neg]; congr 1; omega
  rw [e]
  have s1 : Int.sign t = 0 ∨ Int.sign t = 1 := by
    rcases Int.lt_or_le 0 t with q | q
    · exact .inr (Int.sign_eq_one_of_pos q)
    · left; rw [show t = 0 by omega]; rfl
  have s2 : Int.sign (1000 - t) = 0 ∨ Int.sign (1000 - t) = 1 := by
    rcases Int.lt_or_le 0 (1000 - t) with q | q
    · exact .inr (Int.sign_eq_one_of_pos q)
    · left; rw [show 1000 - t = 0 by omega]; rfl
  have s3 : Int.sign (a * d - c * b) = 0 ∨ Int.sign (a * d - c * b) = 1 ∨ Int.sign (a * d - c * b) = -1 := by
    rcases Int.lt_trichotomy (a * d - c * b) 0 with q | q | q
    · exact .inr (.inr (Int.sign_eq_neg_one_of_neg q))
    · left; rw [q]; rfl
    · exact .inr (.inl (Int.sign_eq_one_of_pos q))
  rcases s1 with s1 | s1 <;> rcases s2 with s2 | s2 <;> rcases s3 with s3 | s3 | s3 <;> rw [s1, s2, s3] <;> decide

set_option maxHeartbeats 800000 in
theorem CompareShares_ok (a b c d : Int) (w : World) (h1 : shB a b = true) (h2 : shB c d = true) :
    Calls Try.prog 21 #[shV a b, shV c d] w fun e w' => e = .returned (.tuple #[.int .i64 (cmpS a b c d), .int .i64 0]) ∧ Below w.heap.size w w' := by
  have HB0 := ((Below.refl w.heap.size w).alloc (Nat.le_refl _) (.cells #[.int .i64 a, .int .i64 b] 23)).alloc (by simp) (.cells #[.int .i64 c, .int .i64 d] 23)
  have R0 := Lib.hid ((two_new w a b 23).alloc (.cells #[.int .i64 c, .int .i64 d] 23))
  have r1 := two_new (w.alloc (.cells #[.int .i64 a, .int .i64 b] 23)) c d 23
  rw [World.size_alloc] at r1
  have R1 := Lib.hid r1
  clear r1
  obtain ⟨b1, b2, a1, a2, _⟩ := shB_out h1
  obtain ⟨d1, d2, c1, c2, _⟩ := shB_out h2
  have KC := Lib.hid (fun W => l18Compare_any a b c d W a1 (by omega) (by omega) b2 c1 (by omega) (by omega) d2)
  obtain ⟨K, hK⟩ : ∃ K, cmpS a b c d = K := ⟨_, rfl⟩
  rw [hK] at KC
  rw [hK]
  clear hK
  go_enter Try.func21, Try.ntmps21
  go_wp2_with fail
  refine (spec_IsShare_any _ _ _).mono ?_
  rintro e v1 ⟨rfl, hb⟩
  rw [h1]
  replace R0 := Lib.hid (rowIs_below R0.out hb R0.out.lt)
  replace R1 := Lib.hid (rowIs_below R1.out hb R1.out.lt)
  replace HB0 := HB0.trans (hb.mono HB0.size)
  clear hb
  obtain ⟨x0, x1, _, _⟩ := two_cells R0.out
  obtain ⟨y0, y1, _, _⟩ := two_cells R1.out
  go_wp2_with fail
  refine (spec_IsShare_any _ _ _).mono ?_
  rintro e v2 ⟨rfl, hb⟩
  rw [h2]
  replace R0 := Lib.hid (rowIs_below R0.out hb R0.out.lt)
  replace R1 := Lib.hid (rowIs_below R1.out hb R1.out.lt)
  replace HB0 := HB0.trans (hb.mono HB0.size)
  clear hb x0 x1 y0 y1
  obtain ⟨x0, x1, _, _⟩ := two_cells R0.out
  obtain ⟨y0, y1, _, _⟩ := two_cells R1.out
  go_wp2_with fail
  refine (KC.out _).mono ?_
  rintro e v3 ⟨rfl, hb⟩
  replace HB0 := HB0.trans (hb.mono HB0.size)
  clear hb
  go_wp2_with fail
  go_ret2
  exact ⟨rfl, HB0⟩
end Go.Proofs.Ytjagidpjdajpnaa
