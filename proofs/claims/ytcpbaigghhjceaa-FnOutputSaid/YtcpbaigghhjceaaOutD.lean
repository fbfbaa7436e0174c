/-
  The draws of networks and of inputs for them.
-/
import Derived.Test.YtcpbaigghhjceaaDrK
import Derived.Test.YtcpbaigghhjceaaSd
import Derived.Test.YtcpbaigghhjceaaOut
import Derived.StillTailTactics
import Derived.RegionTactic
import Derived.BigRegion
import Derived.Deep.RegionWith
import Derived.Deep.RegionHeld3
import Derived.Deep.Cut
import Derived.Deep.CutRange
import Derived.Deep.DeepCutAuto
namespace Go.Proofs.Ytcpbaigghhjceaa
open Go.ChangeShapes Go.WideShapes Go.ChangeAt Go.RowKit
set_option linter.unusedVariables false

def DiPost (w0 : World) (g : Nat) (a : Option Addr) (n c : Nat) (xs : List Int) (w : World) (e : Ending) (w' : World) : Prop :=
  ∃ (A : Option Addr) (m d : Nat) (ys : List Int), e = .returned (.slice A m d) ∧ m ≤ 41 ∧ Iv w' w.heap.size A m ys ∧ Drawing w0 g a n c xs w' ∧ w.grownBy w' (some g)
theorem di_end {w0 w w' : World} {g n c : Nat} {a : Option Addr} {xs ys : List Int} {v : Value} (hg : Grows w' w.heap.size v ys) (hm : ys.length ≤ 41) (hd : Drawing w0 g a n c xs w') (hgr : w.grownBy w' (some g)) : DiPost w0 g a n c xs w (.returned v) w' := by
  obtain ⟨A, d, rfl, hi⟩ := hg.iv
  exact ⟨A, _, d, ys, rfl, hm, hi, hd, hgr⟩
set_option maxRecDepth 16000 in
set_option maxHeartbeats 1600000 in
theorem l23DrawInputs_dr (w0 : World) (g : Nat) (a : Option Addr) (n c : Nat) (xs : List Int) (w : World) (k : Int) (hd : Drawing w0 g a n c xs w) :
    Calls Try.prog 61 #[.pointer (some ⟨g, 0, none⟩), .int .i64 k] w fun e w' => DiPost w0 g a n c xs w e w' := by
  have NX := Lib.hid (fun m W hm hD => next_dr m w0 g a n c xs W hD hm)
  have hlt := hd.lt
  have D0 := Lib.hid (hd.alloc (.cells #[] 2))
  have G0 := Lib.hid (grown_al (by_refl w (some g)) (.cells #[] 2))
  have O0 := Lib.hid (Grows.new w w.heap.size (Nat.le_refl _))
  clear hd
  go_enter Try.func61, Try.ntmps61
  go_wp2_with fail
  go_loopw [5, 6] (fun v i wr => ∃ ys : List Int, Hid (Grows wr w.heap.size v ys) ∧ i = .int .i64 ys.length ∧ ys.length ≤ 40 ∧ Hid (Drawing w0 g a n c xs wr) ∧ Hid (w.grownBy wr (some g))) (fun _ i _ => 41 - (intOf i).toNat)
  case atStart => exact ⟨[], O0, rfl, by simp, D0, G0⟩
  case round =>
    obtain ⟨ys, hO, rfl, hl, hD, hG⟩ := hrel
    have zr := hG.out.size
    obtain ⟨L, hL⟩ : ∃ L, ys.length = L := ⟨_, rfl⟩
    rw [hL] at hl ⊢
    have HL := Lib.hid hL
    clear hL
    by_cases hc : (L : Int) < k ∧ (L : Int) < 40
    · obtain ⟨hc1, hc2⟩ := hc
      go_wp2_with fail
      refine (NX.out 8193 _ (by omega) hD.out).mono ?_
      rintro e w3 ⟨x, rfl, x1, x2, hd3, hg3⟩
      have x3 : x ≤ 8192 := by omega
      have D3 := Lib.hid (hd3.alloc (.cells #[.int .i64 (x - 4096)] 2))
      have G3 := Lib.hid (grown_al (by_trans hG.out hg3) (.cells #[.int .i64 (x - 4096)] 2))
      have O3 := Lib.hid ((hO.out.grown hg3 hlt).alloc (.cells #[.int .i64 (x - 4096)] 2))
      have z3 := hg3.size
      clear x2 hd3 hg3
      go_wp2_with (first | (at_builtin; refine app_grows rfl (.tmp 17) (.tmp 21) rfl rfl O3.out ⟨w3.heap.size, 0, none⟩ [x - 4096] 1 1 rfl rfl (news1 (new_cell w3 #[.int .i64 (x - 4096)] 2 0)) (by rw [HL.out]; omega) (by simp; omega) ?_; intro v5 w5 hg5 hb5))
      go_roundw
      case rel => exact ⟨ys ++ [x - 4096], Lib.hid hg5, by rw [List.length_append, HL.out]; go_num, by rw [List.length_append, HL.out]; simp; omega, Lib.hid (D3.out.keepB hb5 hlt), Lib.hid (grown_be G3.out hb5 (Nat.le_refl _))⟩
      case measure => simp [intOf]; omega
    · have REST : Hid (ys.length ≤ 40) := Lib.hid (by rw [HL.out]; exact hl)
      obtain ⟨A, d, hv, _, _⟩ := hO.out.out
      rw [HL.out] at hv
      have hcc : (decide ((L : Int) < k) = true ∧ decide ((L : Int) < 40) = false) ∨ decide ((L : Int) < k) = false := by
        by_cases h1 : (L : Int) < k
        · exact .inl ⟨decide_eq_true h1, decide_eq_false (fun h2 => hc ⟨h1, h2⟩)⟩
        · exact .inr (decide_eq_false h1)
      subst hv
      clear hc
      rcases hcc with ⟨hc1, hc2⟩ | hc1
      all_goals
        go_wp2_with fail
        refine (NX.out 24 _ (by omega) hD.out).mono ?_
        rintro e w3 ⟨s, rfl, s1, s2, hd3, hg3⟩
        have D3 := Lib.hid hd3
        have G3 := Lib.hid (by_trans hG.out hg3)
        have O3 := Lib.hid (hO.out.grown hg3 hlt)
        have z3 := hg3.size
        have l3 := hd3.lt
        clear s2 hd3 hg3
        by_cases h0 : s = 0
        · subst h0
          go_wp2_with (first | (at_builtin; refine app_grows rfl (.tmp 27) (.tmp 28) rfl rfl (O3.out.alloc _) ⟨w3.heap.size, 0, none⟩ [0] 1 1 rfl rfl (news1 (new_cell w3 #[.int .i64 0] 2 0)) (by rw [HL.out]; omega) (by simp; omega) ?_; intro v5 w5 hg5 hb5))
          go_ret
          exact di_end hg5 (by rw [List.length_append, HL.out]; simp; omega) ((D3.out.alloc _).keepB hb5 hlt) (grown_be (grown_al G3.out _) hb5 (Nat.le_refl _))
        have n0 : (s == 0) = false := by simpa using h0
        by_cases h1 : s = 1
        · subst h1
          clear h0 n0
          by_cases hL0 : L = 0
          · subst hL0
            go_wp2_with fail
            go_ret
            exact di_end O3.out (by rw [HL.out]; omega) D3.out G3.out
          · have hLp : 0 < L := by omega
            obtain ⟨gl, cap, hsh, hgl, _⟩ := O3.out.shape (by rw [HL.out]; exact hLp)
            injection hsh with e1 e2 e3
            subst e1
            clear hL0 e2 e3
            have D5 := Lib.hid (D3.out.alloc (.cells #[.int .i64 4097, .int .i64 (-4097)] 2))
            have G5 := Lib.hid (grown_al G3.out (.cells #[.int .i64 4097, .int .i64 (-4097)] 2))
            have O5 := Lib.hid (O3.out.alloc (.cells #[.int .i64 4097, .int .i64 (-4097)] 2))
            go_wp2_with fail
            refine (NX.out 2 _ (by omega) D5.out).mono ?_
            rintro e w6 ⟨t, rfl, t1, t2, hd6, hg6⟩
            have D6 := Lib.hid hd6
            have G6 := Lib.hid (by_trans G5.out hg6)
            have O6 := O5.out.grown hg6 hlt
            obtain ⟨T, rfl⟩ := Int.eq_ofNat_of_zero_le t1
            have hT : T < 2 := by omega
            obtain ⟨v, hv⟩ : ∃ v : Int, w6.cell? ⟨w3.heap.size, T, none⟩ = some (.int .i64 v) := by
              have hc := new_kept hg6 l3 T
              match T, hT with
              | 0, _ => exact ⟨_, hc⟩
              | 1, _ => exact ⟨_, hc⟩
            obtain ⟨A6, d6, e6, _, hr6⟩ := O6.out
            injection e6 with e1 e2 e3
            subst e1 e3
            rw [HL.out] at hr6
            obtain ⟨c0, f0⟩ := row_cells hr6 (i := 0) hLp
            rw [icell] at c0
            have P6 : Hid (Grows (w6.setCell ⟨gl, 0, none⟩ (.int .i64 v)) w.heap.size (.slice (some ⟨gl, 0, none⟩) L d) (ys.set 0 v)) := Lib.hid (by
              have q := (show Grows w6 w.heap.size (.slice (some ⟨gl, 0, none⟩) ys.length d) ys by rw [HL.out]; exact O6).put 0 v
              rw [HL.out] at q
              exact q)
            clear t2 hd6 hg6 O6 hr6 e2
            go_wp2
            go_ret
            exact di_end P6.out (by rw [List.length_set, HL.out]; omega) (D6.out.setB (by show g < gl; omega) _) (grown_se G6.out hgl _)
        · have n1 : (s == 1) = false := by simpa using h1
          clear h0 h1
          go_wp2
          go_ret
          exact di_end O3.out (by rw [HL.out]; omega) D3.out G3.out
end Go.Proofs.Ytcpbaigghhjceaa
