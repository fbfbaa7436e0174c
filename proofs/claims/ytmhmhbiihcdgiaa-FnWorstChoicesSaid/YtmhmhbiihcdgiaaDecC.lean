/-
  impl.checkExacts at three exact numbers.
-/
import Derived.Test.YtmhmhbiihcdgiaaDecT
import Derived.Test.YtmhmhbiihcdgiaaRec
namespace Go.Proofs.Ytmhmhbiihcdgiaa
open Go.ChangeShapes Go.WideShapes Go.ChangeAt Go.RowKit
set_option linter.unusedVariables false

def exA (s : Int) (xs : List Int) : Nat → Bool
  | 0 => true
  | k + 1 => exA s xs k && exB s (xs.getD (k * 2) 0) (xs.getD (k * 2 + 1) 0)
theorem exA_no {s : Int} {xs : List Int} {k : Nat} (h : exB s (xs.getD (k * 2) 0) (xs.getD (k * 2 + 1) 0) = false) : ∀ n, k < n → exA s xs n = false
  | 0, hk => absurd hk (by omega)
  | n + 1, hk => by
    rw [exA]
    by_cases e : k = n
    · subst e; rw [h, Bool.and_false]
    · rw [exA_no h n (by omega), Bool.false_and]
def chC (p c h s : Int) (xs : List Int) : Int := if vrB p c h s then (if exA s xs 3 then 0 else 2) else 1
theorem ret_int' {a b : Int} (h : b = a) : Ending.returned (.int .i64 a) = Ending.returned (.int .i64 b) := by rw [h]
set_option maxHeartbeats 1600000 in
theorem checkExacts_any (p c h s : Int) (b off cap : Nat) (xs : List Int) (w : World) (hb : b < w.heap.size) (hc0 : ∀ i, i < 3 * 2 → w.cell? ⟨b, off + i, none⟩ = some (.int .i64 (xs.getD i 0))) (hwf : ∀ k, k < 3 → xs.getD (k * 2 + 1) 0 ≤ 9223372036854775807) :
    Calls Try.prog 24 #[vrV p c h s, .slice (some ⟨b, off, none⟩) 3 cap] w fun e w' => e = .returned (.int .i64 (chC p c h s xs)) ∧ Below w.heap.size w w' := by
  have HC := Lib.hid hc0
  have HW := Lib.hid hwf
  clear hc0 hwf
  have HB0 := Lib.hid ((Below.refl w.heap.size w).alloc (Nat.le_refl _) (.cells #[.int .i64 p, .int .i64 c, .int .i64 h, .int .i64 s] 29))
  have R0 := Lib.hid (q4_new w (.int .i64 p) (.int .i64 c) (.int .i64 h) (.int .i64 s) 29)
  obtain ⟨K, hK⟩ : ∃ K, vrB p c h s = K := ⟨_, rfl⟩
  have IV := Lib.hid (fun W => hK ▸ impl_IsVariant_any p c h s W)
  cases K
  · have HV := Lib.hid (show chC p c h s xs = 1 by rw [chC, hK]; rfl)
    clear hK
    go_enter Try.func24, Try.ntmps24
    obtain ⟨v0, v1, v2, v3⟩ := q4_cells R0.out
    go_wp2_with fail
    (with_reducible refine (IV.out _).mono ?_)
    rintro e w1 ⟨rfl, hb1⟩
    have HB1 := Lib.hid (HB0.out.trans (hb1.mono HB0.out.size))
    clear hb1 v0 v1 v2 v3
    go_wp2_with fail
    go_ret
    exact ⟨ret_int' HV.out, HB1.out⟩
  obtain ⟨_, _, _, s1, s6⟩ := vrB_true.1 hK
  have HV := Lib.hid (show chC p c h s xs = if exA s xs 3 then 0 else 2 by rw [chC, hK]; rfl)
  clear hK
  go_enter Try.func24, Try.ntmps24
  obtain ⟨v0, v1, v2, v3⟩ := q4_cells R0.out
  go_wp2_with fail
  (with_reducible refine (IV.out _).mono ?_)
  rintro e w1 ⟨rfl, hb1⟩
  have HB1 := Lib.hid (HB0.out.trans (hb1.mono HB0.out.size))
  have R1 := Lib.hid (rowIs_below R0.out hb1 R0.out.lt)
  clear hb1 v0 v1 v2 v3
  go_wp2_with fail
  go_loopw [12] (fun i wr => ∃ k : Nat, k ≤ 3 ∧ i = .int .i64 k ∧ Hid (Below w.heap.size w wr) ∧ Hid (wr.rowIs w.heap.size 29 4 (q4 (.int .i64 p) (.int .i64 c) (.int .i64 h) (.int .i64 s))) ∧ Hid (exA s xs k = true)) (fun i _ => 3 - (intOf i).toNat)
  case atStart => exact ⟨0, by omega, rfl, HB1, R1, Lib.hid rfl⟩
  case round =>
    obtain ⟨k, hk, rfl, HB, HR, hall⟩ := hrel
    by_cases hlt : k < 3
    · obtain ⟨x, y, hx0, hx1, ex, ey⟩ := rec2_at (w := wr) (fun i hi => (HB.out.cell (p := ⟨b, off + i, none⟩) hb).trans (HC.out i hi)) hlt
      have hy : y ≤ 9223372036854775807 := ey.out ▸ HW.out k hlt
      obtain ⟨v0, v1, v2, v3⟩ := q4_cells HR.out
      have hlw : w.heap.size < wr.heap.size := HR.out.lt
      obtain ⟨E, hE⟩ : ∃ E, exB s x y = E := ⟨_, rfl⟩
      have EX := Lib.hid (fun W => hE ▸ isExact_any p c h s x y W s1 s6 hy)
      cases E
      · have HN := Lib.hid (show chC p c h s xs = 2 by rw [HV.out, exA_no (k := k) (by rw [ex.out, ey.out]; exact hE) 3 hlt]; rfl)
        clear hE
        go_wp2_with fail
        (with_reducible refine (EX.out _).mono ?_)
        rintro e w2 ⟨rfl, hb2⟩
        have HB2 := Lib.hid ((HB.out.alloc HB.out.size _).trans (hb2.mono (HB.out.alloc HB.out.size _).size))
        clear hb2 v0 v1 v2 v3 hx0 hx1
        go_wp2_with fail
        go_ret
        exact ⟨ret_int' HN.out, HB2.out⟩
      · have HY := Lib.hid (show exA s xs (k + 1) = true by rw [exA, hall.out, ex.out, ey.out, hE]; rfl)
        clear hE
        go_wp2_with fail
        (with_reducible refine (EX.out _).mono ?_)
        rintro e w2 ⟨rfl, hb2⟩
        have HB2 := Lib.hid ((HB.out.alloc HB.out.size _).trans (hb2.mono (HB.out.alloc HB.out.size _).size))
        have HR2 := Lib.hid (rowIs_below (HR.out.alloc _) hb2 (HR.out.alloc _).lt)
        clear hb2 v0 v1 v2 v3 hx0 hx1
        go_wp2_with fail
        go_roundw
        case rel => exact ⟨k + 1, by omega, by go_num, HB2, HR2, HY⟩
        case measure => simp [intOf]; omega
    · obtain rfl : k = 3 := by omega
      have HN := Lib.hid (show chC p c h s xs = 0 by rw [HV.out, hall.out]; rfl)
      go_wp2_with fail
      go_ret
      exact ⟨ret_int' HN.out, HB.out⟩
end Go.Proofs.Ytmhmhbiihcdgiaa
