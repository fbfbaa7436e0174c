/-
  Sorting in place: the walks of the library's functions.
-/
import Derived.Test.YtmhmhbiihcdgiaaSmQ
import Derived.Test.YtmhmhbiihcdgiaaMem
import Derived.RegionTactic
import Derived.BigRegion
import Derived.RegionCalls
import Derived.Deep.RegionHeld3
namespace Go.Proofs.Ytmhmhbiihcdgiaa
open Go.ChangeShapes Go.WideShapes Go.ChangeAt Go.RowKit Go.Deep
set_option linter.unusedVariables false
def rwF (f : Nat → Int) : Nat → Value := fun i => .int .i64 (f i)
/-- block g holds f on n places; since w0 nothing else has turned -/
structure Srt (w0 w : World) (g n : Nat) (f : Nat → Int) : Prop where
  row : w.rowIs g 2 n (rwF f)
  by' : w0.grownBy w (some g)
section
variable {w0 w w' : World} {g n i j : Nat} {f : Nat → Int}
theorem Srt.cell (h : Srt w0 w g n f) (hi : i < n) : w.cell? ⟨g, i, none⟩ = some (.int .i64 (f i)) := h.row.cell hi
theorem Srt.drew (h : Srt w0 w g n f) : Srt w0 w.drew g n f := ⟨h.row, by_drew h.by'⟩
theorem Srt.below (h : Srt w0 w g n f) (hb : Below w.heap.size w w') : Srt w0 w' g n f :=
  ⟨rowIs_below h.row hb h.row.lt, ⟨hb.os.trans h.by'.os, hb.tape.trans h.by'.tape, hb.output.trans h.by'.output, Nat.le_trans h.by'.size hb.size, fun i hi hne => (hb.block i (Nat.lt_of_lt_of_le hi h.by'.size)).trans (h.by'.block i hi hne)⟩⟩
theorem Srt.swap (h : Srt w0 w g n f) (i j : Nat) : Srt w0 ((w.setCell ⟨g, i, none⟩ (.int .i64 (f j))).setCell ⟨g, j, none⟩ (.int .i64 (f i))) g n (swF f i j) :=
  ⟨((h.row.set i _).set j _).congr (fun k hk => by
    show (if k = j then _ else if k = i then _ else _) = Value.int .i64 (swF f i j k)
    unfold swF
    by_cases e1 : k = j
    · rw [if_pos e1, if_pos e1]
    · rw [if_neg e1, if_neg e1]
      by_cases e2 : k = i
      · rw [if_pos e2, if_pos e2]
      · rw [if_neg e2, if_neg e2]; rfl), by_set (by_set h.by' rfl _) rfl _⟩
theorem Srt.to (h : Srt w0 w g n f) {f' : Nat → Int} (e : ∀ i, i < n → f i = f' i) : Srt w0 w g n f' := ⟨h.row.congr (fun i hi => by show Value.int .i64 (f i) = Value.int .i64 (f' i); rw [e i hi]), h.by'⟩
end
abbrev DoneS (e : Ending) : Prop := e = .returned (.tuple #[])
set_option maxHeartbeats 1600000 in
theorem swapRange_any (w0 w : World) (g n c a b k : Nat) (f : Nat → Int) (fv : Value) (h : Srt w0 w g n f) (h1 : a + k ≤ b) (h2 : b + k ≤ n) (hn : n ≤ 1000) :
    Calls Try.prog 53 #[.slice (some ⟨g, 0, none⟩) n c, .int .i64 a, .int .i64 b, .int .i64 k, fv] w fun e w' => DoneS e ∧ Srt w0 w' g n (swR f a b k) := by
  have H0 := Lib.hid h
  clear h
  go_enter Try.func53, Try.ntmps53
  go_wp2_with fail
  go_loopw [10] (fun iv wr => ∃ i : Nat, iv = .int .i64 i ∧ i ≤ k ∧ Hid (Srt w0 wr g n (swR f a b i))) (fun i _ => k - (intOf i).toNat)
  case atStart => exact ⟨0, rfl, Nat.zero_le _, H0⟩
  case round =>
    obtain ⟨i, rfl, hi, HS⟩ := hrel
    by_cases hlt : i < k
    · have hlt' : (i : Int) < (k : Int) := by omega
      obtain ⟨p, hp⟩ : ∃ p, a + i = p := ⟨_, rfl⟩
      obtain ⟨q, hq⟩ : ∃ q, b + i = q := ⟨_, rfl⟩
      have e1 : IntKind.i64.wrap ((a : Int) + (i : Int)) = (p : Int) := by rw [← hp, IntWalk.i64_in _ (by omega)]; omega
      have e2 : IntKind.i64.wrap ((b : Int) + (i : Int)) = (q : Int) := by rw [← hq, IntWalk.i64_in _ (by omega)]; omega
      have c1 := HS.out.cell (i := p) (by omega)
      have c2 := HS.out.cell (i := q) (by omega)
      have f1 := HS.out.row.frozen p
      have f2 := HS.out.row.frozen q
      have hpn : (p : Int) < n := by omega
      have hqn : (q : Int) < n := by omega
      have HS2 := Lib.hid (HS.out.swap p q)
      have hne : ¬ p = q := by omega
      obtain ⟨x, hx⟩ : ∃ x, swR f a b i p = x := ⟨_, rfl⟩
      obtain ⟨y, hy⟩ : ∃ y, swR f a b i q = y := ⟨_, rfl⟩
      have HK := Lib.hid (show swF (swR f a b i) p q = swR f a b (i + 1) by rw [swR, ← hp, ← hq])
      rw [hx] at c1 HS2
      rw [hy] at c2 HS2
      clear hx hy hp hq
      go_wp2_with fail
      go_big_region
      go_wp2_with fail
      go_roundw
      case rel => exact ⟨i + 1, by go_num, by omega, Lib.hid (by rw [← HK.out]; exact HS2.out.drew)⟩
      case measure => simp [intOf]; omega
    · obtain rfl : i = k := by omega
      go_wp2_with fail
      go_end0
      exact ⟨rfl, HS.out⟩
set_option maxHeartbeats 1600000 in
theorem rotate_any (w0 w : World) (g n c a m b : Nat) (f : Nat → Int) (fv : Value) (h : Srt w0 w g n f) (h1 : a < m) (h2 : m < b) (h3 : b ≤ n) (hn : n ≤ 1000) :
    Calls Try.prog 52 #[.slice (some ⟨g, 0, none⟩) n c, .int .i64 a, .int .i64 m, .int .i64 b, fv] w fun e w' => DoneS e ∧ Srt w0 w' g n (roF f a m b) := by
  have H0 := Lib.hid h
  have SR := Lib.hid (fun W x y k f hs a1 a2 => swapRange_any w0 W g n c x y k f fv hs a1 a2 hn)
  obtain ⟨i0, hi0⟩ : ∃ i, m - a = i := ⟨_, rfl⟩
  obtain ⟨j0, hj0⟩ : ∃ j, b - m = j := ⟨_, rfl⟩
  have e1 : IntKind.i64.wrap ((m : Int) - (a : Int)) = (i0 : Int) := by rw [← hi0, IntWalk.i64_in _ (by omega)]; omega
  have e2 : IntKind.i64.wrap ((b : Int) - (m : Int)) = (j0 : Int) := by rw [← hj0, IntWalk.i64_in _ (by omega)]; omega
  have HR0 := Lib.hid (show ∀ x, roF f (m - i0) m (m + j0) x = roF f a m b x by
    intro x
    rw [show m - i0 = a by omega, show m + j0 = b by omega])
  have b1 : i0 ≤ m := by omega
  have b2 : m + j0 ≤ n := by omega
  have b3 : 0 < i0 := by omega
  have b4 : 0 < j0 := by omega
  clear h hi0 hj0
  go_enter Try.func52, Try.ntmps52
  go_wp2_with fail
  go_loopw [10, 11] (fun iv jv wr => ∃ (i j : Nat) (F : Nat → Int), iv = .int .i64 i ∧ jv = .int .i64 j ∧ i ≤ m ∧ m + j ≤ n ∧ 0 < i ∧ 0 < j ∧ Hid (Srt w0 wr g n F) ∧ Hid (∀ x, roF F (m - i) m (m + j) x = roF f a m b x)) (fun i j _ => (intOf i).toNat + (intOf j).toNat)
  case atStart => exact ⟨i0, j0, f, rfl, rfl, b1, b2, b3, b4, H0, HR0⟩
  case round =>
    clear e1 e2 b1 b2 b3 b4 HR0 H0
    obtain ⟨i, j, F, rfl, rfl, him, hjn, hi0, hj0, HS, HR⟩ := hrel
    obtain ⟨p, hp⟩ : ∃ p, m - i = p := ⟨_, rfl⟩
    have e1 : IntKind.i64.wrap ((m : Int) - (i : Int)) = (p : Int) := by rw [← hp, IntWalk.i64_in _ (by omega)]; omega
    by_cases hij : i = j
    · subst hij
      have HF := Lib.hid (show ∀ x, swR F p m i x = roF f a m b x by
        intro x
        rw [← HR.out x, ← hp]; exact roF_last F m i him x)
      have HC := Lib.hid (SR.out _ p m i F HS.out (by omega) (by omega))
      clear hp
      go_wp2_with fail
      refine HC.out.mono ?_
      rintro e w1 ⟨rfl, hs⟩
      go_wp2_with fail
      go_end0
      exact ⟨rfl, hs.to (fun x _ => HF.out x)⟩
    · have n1 : ¬ (i : Int) = (j : Int) := by omega
      have n2 : ((i : Int) == (j : Int)) = false := by rw [beq_eq_false_iff_ne]; exact n1
      have n3 : ((i : Int) != (j : Int)) = true := by rw [bne, n2]; rfl
      by_cases hlt : j < i
      · obtain ⟨d, hd⟩ : ∃ d, i - j = d := ⟨_, rfl⟩
        have e2 : IntKind.i64.wrap ((i : Int) - (j : Int)) = (d : Int) := by rw [← hd, IntWalk.i64_in _ (by omega)]; omega
        have hlt' : (j : Int) < (i : Int) := by omega
        have HF := Lib.hid (show ∀ x, roF (swR F p m j) (m - d) m (m + j) x = roF f a m b x by
          intro x
          rw [← HR.out x, ← hp, ← hd]; exact roF_step1 F m i j hlt him x)
        have HC := Lib.hid (SR.out _ p m j F HS.out (by omega) (by omega))
        have hd1 : d ≤ m := by omega
        have hd2 : 0 < d := by omega
        have hd3 : d < i := by omega
        clear hp hd
        go_wp2_with fail
        refine HC.out.mono ?_
        rintro e w1 ⟨rfl, hs⟩
        have HS1 := Lib.hid hs
        clear hs
        go_wp2_with fail
        go_roundw
        case rel => exact ⟨d, j, _, rfl, rfl, hd1, hjn, hd2, hj0, HS1, HF⟩
        case measure => simp [intOf]; omega
      · obtain ⟨d, hd⟩ : ∃ d, j - i = d := ⟨_, rfl⟩
        have e2 : IntKind.i64.wrap ((j : Int) - (i : Int)) = (d : Int) := by rw [← hd, IntWalk.i64_in _ (by omega)]; omega
        have hlt' : ¬ (j : Int) < (i : Int) := by omega
        obtain ⟨q, hq⟩ : ∃ q, m + j - i = q := ⟨_, rfl⟩
        have e3 : IntKind.i64.wrap ((m : Int) + (j : Int)) = (m : Int) + (j : Int) := IntWalk.i64_in _ (by omega)
        have e4 : IntKind.i64.wrap ((m : Int) + (j : Int) - (i : Int)) = (q : Int) := by rw [← hq, IntWalk.i64_in _ (by omega)]; omega
        have HF := Lib.hid (show ∀ x, roF (swR F p q i) (m - i) m (m + d) x = roF f a m b x by
          intro x
          rw [← HR.out x, ← hp, ← hd, ← hq]; exact roF_step2 F m i j (by omega) him x)
        have HC := Lib.hid (SR.out _ p q i F HS.out (by omega) (by omega))
        have hd1 : m + d ≤ n := by omega
        have hd2 : 0 < d := by omega
        have hd3 : d < j := by omega
        clear hp hd hq
        go_wp2_with fail
        refine HC.out.mono ?_
        rintro e w1 ⟨rfl, hs⟩
        have HS1 := Lib.hid hs
        clear hs
        go_wp2_with fail
        go_roundw
        case rel => exact ⟨i, d, _, rfl, rfl, him, hd1, hi0, hd2, HS1, HF⟩
        case measure => simp [intOf]; omega
end Go.Proofs.Ytmhmhbiihcdgiaa
