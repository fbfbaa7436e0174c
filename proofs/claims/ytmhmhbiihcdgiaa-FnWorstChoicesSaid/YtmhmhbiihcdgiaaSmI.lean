/-
  Sorting in place: the walk of the library's insertion sort over a comparison that may make memory.
-/
import Derived.Test.YtmhmhbiihcdgiaaSmW
namespace Go.Proofs.Ytmhmhbiihcdgiaa
open Go.ChangeShapes Go.WideShapes Go.ChangeAt Go.RowKit Go.Deep
set_option linter.unusedVariables false
/-- what is asked of the comparison: called with a greater number ahead of a smaller one it tells whether the greater one comes first -/
def CmpOk (w0 : World) (g n : Nat) (p2 p3 : Value) (L : Int → Int → Bool) : Prop :=
  ∀ W, w0.grownBy W (some g) → ∀ x y : Int, 0 ≤ x → x < y → y < n → Calls Try.prog 26 #[.int .i64 y, .int .i64 x, p2, p3] W fun e w' => ∃ r : Int, e = .returned (.int .i64 r) ∧ decide (r < 0) = L y x ∧ Below W.heap.size W w'
abbrev cmpV (p2 p3 : Value) : Value := .func (.func 26) #[] #[p2, p3]
/-- what a sorting function leaves -/
def SrP (L : Int → Int → Bool) (w0 : World) (g n a b : Nat) (f : Nat → Int) (e : Ending) (w' : World) : Prop := DoneS e ∧ ∃ f', Srt w0 w' g n f' ∧ Tr n a b f f' ∧ SoF L a b f'
set_option maxHeartbeats 3200000 in
theorem insertion_any {L : Int → Int → Bool} (hL : STot L) (w0 w : World) (g n c a b : Nat) (f : Nat → Int) (p2 p3 : Value) (h : Srt w0 w g n f) (hC : CmpOk w0 g n p2 p3 L) (h1 : a ≤ b) (h2 : b ≤ n) (hn : n ≤ 1000)
    (hv : Vok n f) (asc : ∀ i j, a ≤ i → i < j → j < b → f i < f j) :
    Calls Try.prog 48 #[.slice (some ⟨g, 0, none⟩) n c, .int .i64 a, .int .i64 b, cmpV p2 p3] w fun e w' => SrP L w0 g n a b f e w' := by
  have H0 := Lib.hid h
  have HC := Lib.hid hC
  have HV := Lib.hid hv
  have HA := Lib.hid asc
  have e0 : IntKind.i64.wrap ((a : Int) + 1) = ((a + 1 : Nat) : Int) := by rw [IntWalk.i64_in _ (by omega)]; omega
  clear h hC hv asc
  go_enter Try.func48, Try.ntmps48
  go_wp2_with fail
  go_loopw [8] (fun iv wr => ∃ (i : Nat) (F : Nat → Int), iv = .int .i64 i ∧ a < i ∧ (i ≤ b ∨ i = a + 1) ∧ Hid (Srt w0 wr g n F) ∧ Hid (Tr n a (min i b) f F) ∧ Hid (SoF L a i F)) (fun i _ => b + 1 - (intOf i).toNat)
  case atStart => exact ⟨a + 1, f, rfl, by omega, by omega, H0, Lib.hid (Tr.refl _ _ _ _), Lib.hid (fun i j i1 i2 i3 => absurd i3 (by omega))⟩
  case round =>
    clear e0 H0
    obtain ⟨i, F, rfl, hai, hib, HS, HT, HO⟩ := hrel
    by_cases hlt : i < b
    · have hlt' : (i : Int) < (b : Int) := by omega
      have HM := Lib.hid (show Mg L F a i (i + 1) from ⟨HO.out, fun x y x1 x2 x3 => absurd x3 (by omega), fun x y x1 x2 y1 y2 => by
        obtain rfl : y = i := by omega
        rw [HT.out.out y (by omega)]
        obtain ⟨z, z1, z2, ez⟩ := HT.out.into x x1 (by omega)
        rw [ez]
        exact HA.out z y z1 (by omega) (by omega)⟩)
      have HVF := Lib.hid (HV.out.tr HT.out (by omega))
      clear hib
      obtain ⟨wo, hwo⟩ : ∃ wo, wo = wr := ⟨_, rfl⟩
      subst hwo
      go_wp2_with fail
      go_loopw [9] (fun jv wr => ∃ (j : Nat), jv = .int .i64 j ∧ a ≤ j ∧ j ≤ i ∧ Hid (Srt w0 wr g n (roF F j i (i + 1))) ∧ Hid (Tr n a (i + 1) F (roF F j i (i + 1))) ∧ Hid (∀ k, j ≤ k → k < i → L (F i) (F k) = true)) (fun j _ => (intOf j).toNat)
      case atStart => exact ⟨i, rfl, by omega, by omega, Lib.hid (HS.out.to (fun x _ => by rw [two_start])), Lib.hid (by rw [two_start]; exact Tr.refl _ _ _ _), Lib.hid (fun k k1 k2 => absurd k2 (by omega))⟩
      case round =>
        clear HS
        obtain ⟨j, rfl, haj, hji, HS, HTJ, HJ⟩ := hrel
        have DONE := Lib.hid (fun (lo : ∀ k, a ≤ k → k < j → L (F k) (F i) = true) => HM.out.two hL haj hji lo HJ.out)
        by_cases hja : a < j
        · obtain ⟨k, hk⟩ : ∃ k, k + 1 = j := ⟨j - 1, by omega⟩
          have e1 : IntKind.i64.wrap ((j : Int) - 1) = (k : Int) := by rw [IntWalk.i64_in _ (by omega)]; omega
          have hja' : (a : Int) < (j : Int) := by omega
          have hjd : decide ((a : Int) < (j : Int)) = true := decide_eq_true hja'
          have vj : roF F j i (i + 1) j = F i := by
            unfold roF
            rw [if_pos (by omega), if_pos (by omega)]
            congr 1
            omega
          have vk : roF F j i (i + 1) k = F k := by
            unfold roF
            rw [if_neg (by omega)]
          have q1 := HVF.out i (by omega)
          have q2 := HVF.out k (by omega)
          have q3 := HM.out.lt k i (by omega) (by omega) (by omega) (by omega)
          have HST := Lib.hid (two_step F i k (by omega))
          rw [hk] at HST
          obtain ⟨x, hx⟩ : ∃ x, F k = x := ⟨_, rfl⟩
          obtain ⟨y, hy⟩ : ∃ y, F i = y := ⟨_, rfl⟩
          have HSd := Lib.hid HS.out.drew
          have CC := Lib.hid (HC.out wr.drew HSd.out.by' x y (by omega) (by omega) (by omega))
          rw [hx] at vk
          rw [hy] at vj
          have d1 : wr.drew.cell? ⟨g, j, none⟩ = some (.int .i64 y) := by rw [← vj]; exact HS.out.cell (i := j) (by omega)
          have d2 : wr.drew.cell? ⟨g, k, none⟩ = some (.int .i64 x) := by rw [← vk]; exact HS.out.cell (i := k) (by omega)
          have hjn : (j : Int) < n := by omega
          have hkn : (k : Int) < n := by omega
          have hkj : k < j := by omega
          have hne : ¬ j = k := by omega
          have hkx := Lib.hid hk
          have hxx := Lib.hid hx
          have hyy := Lib.hid hy
          have vjj := Lib.hid vj
          have vkk := Lib.hid vk
          clear q1 q2 q3 hk hx hy vj vk
          go_wp2_with fail
          go_region_held3 (fun w' => w'.cell? ⟨g, j, none⟩ = some (.int .i64 y) ∧ w'.cell? ⟨g, k, none⟩ = some (.int .i64 x))
            (go_keep)
            ((go_at_call 26; (with_reducible refine CC.out.mono ?_); rintro e w2 ⟨r, rfl, hr, hb⟩; have HS2 := Lib.hid (HSd.out.below hb); have d1 := HS2.out.cell (i := j) (by omega); have d2 := HS2.out.cell (i := k) (by omega); rw [vjj.out] at d1; rw [vkk.out] at d2; have hr2 := Lib.hid hr; clear hb hr))
          all_goals
            cases hq : L y x
            · have hrn : ¬ r < 0 := by have := hr2.out; rw [hq] at this; exact of_decide_eq_false this
              have HF := Lib.hid (DONE.out (fun z z1 z2 => by
                have hl := HM.out.ahead hL (i := k) (j := i) (by have := hkx.out; omega) (by have := hkx.out; omega) (by omega) (by omega) (by rw [hyy.out, hxx.out]; exact hq)
                rcases HO.out.le (i := z) (j := k) z1 (by have := hkx.out; omega) (by have := hkx.out; omega) with h | h
                · exact hL.tra _ _ _ h hl
                · rw [h]; exact hl))
              go_wp2_with fail
              go_roundw
              case rel => exact ⟨i + 1, _, by go_num, by omega, by omega, HS2, Lib.hid ((HT.out.mono (Nat.le_refl _) (by omega)).trans (HTJ.out.mono (Nat.le_refl _) (by omega))), HF⟩
              case measure => simp [intOf]; omega
            · have hrn : r < 0 := by have := hr2.out; rw [hq] at this; exact of_decide_eq_true this
              obtain ⟨f1, f2⟩ : w2.frozen? ⟨g, j, none⟩ = false ∧ w2.frozen? ⟨g, k, none⟩ = false := ⟨HS2.out.row.frozen j, HS2.out.row.frozen k⟩
              obtain ⟨w3, hw3⟩ : ∃ w3, w3 = w2 := ⟨_, rfl⟩
              subst hw3
              go_wp2_with fail
              go_big_region
              go_wp2_with fail
              go_roundw
              case rel =>
                have hkq := hkx.out
                have HX := HS2.out.swap j k
                rw [vjj.out, vkk.out, HST.out] at HX
                refine ⟨k, by go_num, by omega, by omega, Lib.hid HX.drew, Lib.hid ?_, Lib.hid (fun z z1 z2 => ?_)⟩
                · rw [← HST.out]
                  exact HTJ.out.trans (Tr.swap _ (by omega) (by omega) (by omega) (by omega) (by omega))
                · by_cases ez : z = k
                  · rw [ez, hyy.out, hxx.out]; exact hq
                  · exact HJ.out z (by have := hkx.out; omega) z2
              case measure => simp [intOf]; omega
        · obtain rfl : j = a := by omega
          have HF := Lib.hid (DONE.out (fun k k1 k2 => absurd k2 (by omega)))
          have hja' : ¬ (j : Int) < (j : Int) := by omega
          have hjd : decide ((j : Int) < (j : Int)) = false := decide_eq_false hja'
          go_wp2_with fail
          go_region
          all_goals
            go_wp2_with fail
            go_roundw
            case rel => exact ⟨i + 1, _, by go_num, by omega, by omega, Lib.hid HS.out.drew, Lib.hid ((HT.out.mono (Nat.le_refl _) (by omega)).trans (HTJ.out.mono (Nat.le_refl _) (by omega))), HF⟩
            case measure => simp [intOf]; omega
    · have hlt' : ¬ (i : Int) < (b : Int) := by omega
      go_wp2_with fail
      go_end0
      refine ⟨rfl, F, HS.out, ?_, HO.out.part (Nat.le_refl _) (by omega)⟩
      exact HT.out.mono (Nat.le_refl _) (by omega)
end Go.Proofs.Ytmhmhbiihcdgiaa
