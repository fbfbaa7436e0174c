/-
  Sorting in place: the walk of the library's merging (SymMerge).
-/
import Derived.Test.YtmhmhbiihcdgiaaSmI
import Derived.Laws.BitsLemmas
namespace Go.Proofs.Ytmhmhbiihcdgiaa
open Go.ChangeShapes Go.WideShapes Go.ChangeAt Go.RowKit Go.Deep
set_option linter.unusedVariables false
def SymC (L : Int → Int → Bool) (w0 : World) (g n c : Nat) (p2 p3 : Value) (N : Nat) : Prop :=
  ∀ (w : World) (a m b : Nat) (f : Nat → Int), b - a ≤ N → a < m → m < b → b ≤ n → Srt w0 w g n f → Vok n f → Mg L f a m b →
    Calls Try.prog 49 #[.slice (some ⟨g, 0, none⟩) n c, .int .i64 a, .int .i64 m, .int .i64 b, cmpV p2 p3] w fun e w' => SrP L w0 g n a b f e w'
set_option maxHeartbeats 3200000 in
set_option maxRecDepth 16000 in
theorem sym_one {L : Int → Int → Bool} (hL : STot L) (w0 : World) (g n c : Nat) (p2 p3 : Value) (hC : CmpOk w0 g n p2 p3 L) (hn : n ≤ 1000) (w : World) (a b : Nat) (f : Nat → Int) (h2 : a + 1 < b) (h3 : b ≤ n) (h : Srt w0 w g n f) (hv : Vok n f) (hM : Mg L f a (a + 1) b) :
    Calls Try.prog 49 #[.slice (some ⟨g, 0, none⟩) n c, .int .i64 a, .int .i64 (a + 1 : Nat), .int .i64 b, cmpV p2 p3] w fun e w' => SrP L w0 g n a b f e w' := by
  have H0 := Lib.hid h
  have HC := Lib.hid hC
  have HV := Lib.hid hv
  have HM := Lib.hid hM
  obtain ⟨m, hm⟩ : ∃ m, a + 1 = m := ⟨_, rfl⟩
  have e0 : IntKind.i64.wrap ((m : Int) - (a : Int)) = 1 := by rw [← hm, IntWalk.i64_in _ (by omega)]; omega
  rw [hm] at HM h2
  rw [hm]
  have hma : a < m := by omega
  have hma2 : m ≤ a + 1 := by omega
  clear h hC hv hM hm
  go_enter Try.func49, Try.ntmps49
  go_wp2_with fail
  go_loopw [10, 11] (fun iv jv wr => ∃ (i j : Nat), iv = .int .i64 i ∧ jv = .int .i64 j ∧ m ≤ i ∧ i ≤ j ∧ j ≤ b ∧ Hid (Srt w0 wr g n f) ∧ Hid (∀ k, m ≤ k → k < i → L (f k) (f a) = true) ∧ Hid (∀ k, j ≤ k → k < b → L (f a) (f k) = true)) (fun i j _ => (intOf j).toNat - (intOf i).toNat)
  case atStart => exact ⟨m, b, rfl, rfl, by omega, by omega, by omega, H0, Lib.hid (fun k k1 k2 => absurd k2 (by omega)), Lib.hid (fun k k1 k2 => absurd k2 (by omega))⟩
  case round =>
    clear e0 H0
    obtain ⟨i, j, rfl, rfl, hmi, hij, hjb, HS, HI, HJ⟩ := hrel
    by_cases hlt : i < j
    · have hlt' : (i : Int) < (j : Int) := by omega
      obtain ⟨s, hs⟩ : ∃ s, i + j = s := ⟨_, rfl⟩
      have e1 : IntKind.i64.wrap ((i : Int) + (j : Int)) = (s : Int) := by rw [← hs, IntWalk.i64_in _ (by omega)]; omega
      have hs1 : s ≤ 2000 := by omega
      have e2 : IntKind.u64.wrap (s : Int) = (s : Int) := IntWalk.u64_in _ (by omega)
      obtain ⟨d, hd⟩ : ∃ d, s / 2 = d := ⟨_, rfl⟩
      have e3 : (s : Int) / 2 = (d : Int) := by omega
      have hid : i ≤ d := by omega
      have hdj : d < j := by omega
      have e4 : IntKind.i64.wrap ((d : Int) + 1) = ((d + 1 : Nat) : Int) := by rw [IntWalk.i64_in _ (by omega)]; omega
      have hlt2 := HM.out.lt a d (by omega) (by omega) (by omega) (by omega)
      have q1 := HV.out a (by omega)
      have q2 := HV.out d (by omega)
      obtain ⟨x, hx⟩ : ∃ x, f a = x := ⟨_, rfl⟩
      obtain ⟨y, hy⟩ : ∃ y, f d = y := ⟨_, rfl⟩
      have HSd := Lib.hid HS.out.drew
      have CC := Lib.hid (HC.out wr.drew HSd.out.by' x y (by omega) (by omega) (by omega))
      have d1 : wr.drew.cell? ⟨g, d, none⟩ = some (.int .i64 y) := by rw [← hy]; exact HS.out.cell (i := d) (by omega)
      have d2 : wr.drew.cell? ⟨g, a, none⟩ = some (.int .i64 x) := by rw [← hx]; exact HS.out.cell (i := a) (by omega)
      have hdn : (d : Int) < n := by omega
      have han : (a : Int) < n := by omega
      have hxx := Lib.hid hx
      have hyy := Lib.hid hy
      clear q1 q2 hlt2 hx hy hs hd
      go_wp2_with fail
      go_region_held3 (fun w' => w'.cell? ⟨g, d, none⟩ = some (.int .i64 y) ∧ w'.cell? ⟨g, a, none⟩ = some (.int .i64 x))
        (go_keep)
        ((go_at_call 26; (with_reducible refine CC.out.mono ?_); rintro e w2 ⟨r, rfl, hr, hb⟩; have HS2 := Lib.hid (HSd.out.below hb); have d1 := HS2.out.cell (i := d) (by omega); have d2 := HS2.out.cell (i := a) (by omega); rw [hyy.out] at d1; rw [hxx.out] at d2; have hr2 := Lib.hid hr; clear hb hr))
      all_goals
        cases hq : L y x
        · have hrn : ¬ r < 0 := by have := hr2.out; rw [hq] at this; exact of_decide_eq_false this
          have HJ2 := Lib.hid (show ∀ k, d ≤ k → k < b → L (f a) (f k) = true from fun k k1 k2 => by
            have hl := HM.out.ahead hL (i := a) (j := d) (by omega) (by omega) (by omega) (by omega) (by rw [hyy.out, hxx.out]; exact hq)
            exact hL.ch (.inr rfl) hl (HM.out.B.le (by omega) k1 k2))
          go_wp2_with fail
          go_roundw
          case rel => exact ⟨i, d, rfl, rfl, by omega, by omega, by omega, HS2, HI, HJ2⟩
          case measure => simp [intOf]; omega
        · have hrn : r < 0 := by have := hr2.out; rw [hq] at this; exact of_decide_eq_true this
          have HI2 := Lib.hid (show ∀ k, m ≤ k → k < d + 1 → L (f k) (f a) = true from fun k k1 k2 => hL.ch (HM.out.B.le (j := d) k1 (by omega) (by omega)) (by rw [hyy.out, hxx.out]; exact hq) (.inr rfl))
          go_wp2_with fail
          go_roundw
          case rel => exact ⟨d + 1, j, rfl, rfl, by omega, by omega, by omega, HS2, HI2, HJ⟩
          case measure => simp [intOf]; omega
    · have hlt' : ¬ (i : Int) < (j : Int) := by omega
      obtain rfl : i = j := by omega
      have hm : a + 1 = m := by omega
      have HF := Lib.hid (show SoF L a b (roF f a (a + 1) i) from Mg.one hL (by rw [hm]; exact HM.out) (by omega) (by omega) (by rw [hm]; exact HI.out) HJ.out)
      have e1 : IntKind.i64.wrap ((i : Int) - 1) = (i : Int) - 1 := IntWalk.i64_in _ (by omega)
      clear hm
      obtain ⟨wo, hwo⟩ : ∃ wo, wo = wr := ⟨_, rfl⟩
      subst hwo
      go_wp2_with fail
      go_loopw [13] (fun kv wr => ∃ k : Nat, kv = .int .i64 k ∧ a ≤ k ∧ k + 1 ≤ i ∧ Hid (Srt w0 wr g n (roF f a (a + 1) (k + 1))) ∧ Hid (Tr n a b f (roF f a (a + 1) (k + 1)))) (fun k _ => i - (intOf k).toNat)
      case atStart => exact ⟨a, rfl, by omega, by omega, Lib.hid (HS.out.to (fun x _ => by rw [one_start])), Lib.hid (by rw [one_start]; exact Tr.refl _ _ _ _)⟩
      case round =>
        clear HS
        obtain ⟨k, rfl, hak, hki, HS, HT⟩ := hrel
        by_cases hk2 : k + 1 < i
        · obtain ⟨k', hk'⟩ : ∃ k', k + 1 = k' := ⟨_, rfl⟩
          have hk3 : (k : Int) < (i : Int) - 1 := by omega
          have e2 : IntKind.i64.wrap ((k : Int) + 1) = (k' : Int) := by rw [IntWalk.i64_in _ (by omega)]; omega
          have HST := Lib.hid (one_step f a k hak)
          have HSW := Lib.hid (HS.out.swap k (k + 1))
          have HTW := Lib.hid (HT.out.trans (Tr.swap (i := k) (j := k + 1) (roF f a (a + 1) (k + 1)) h3 (by omega) (by omega) (by omega) (by omega)))
          rw [show k + 2 = k + 1 + 1 from rfl] at HST
          rw [HST.out] at HTW HSW
          rw [hk'] at HSW HTW
          have c1 := HS.out.cell (i := k) (by omega)
          have c2 := HS.out.cell (i := k + 1) (by omega)
          have f1 := HS.out.row.frozen k
          have f2 := HS.out.row.frozen (k + 1)
          rw [hk'] at c1 c2 f2
          obtain ⟨x, hx⟩ : ∃ x, roF f a (a + 1) k' k = x := ⟨_, rfl⟩
          obtain ⟨y, hy⟩ : ∃ y, roF f a (a + 1) k' k' = y := ⟨_, rfl⟩
          rw [hx] at c1 HSW
          rw [hy] at c2 HSW
          have hkn : (k : Int) < n := by omega
          have hkn' : (k' : Int) < n := by omega
          have hne : ¬ k = k' := by omega
          have hkb : k' + 1 ≤ i := by omega
          have hka : a ≤ k' := by omega
          have hkk := Lib.hid hk'
          clear hk' hx hy HST
          go_wp2_with fail
          go_big_region
          go_wp2_with fail
          go_roundw
          case rel => exact ⟨k', rfl, hka, hkb, Lib.hid HSW.out.drew, HTW⟩
          case measure =>
            have := hkk.out
            simp [intOf]; omega
        · have hk3 : ¬ (k : Int) < (i : Int) - 1 := by omega
          have hki2 : k + 1 = i := by omega
          rw [hki2] at HS HT
          clear hki2
          go_wp2_with fail
          go_end0
          exact ⟨rfl, _, HS.out, HT.out, HF.out⟩
set_option maxHeartbeats 3200000 in
set_option maxRecDepth 16000 in
theorem sym_two {L : Int → Int → Bool} (hL : STot L) (w0 : World) (g n c : Nat) (p2 p3 : Value) (hC : CmpOk w0 g n p2 p3 L) (hn : n ≤ 1000) (w : World) (a m : Nat) (f : Nat → Int) (h2 : a + 1 < m) (h3 : m + 1 ≤ n) (h : Srt w0 w g n f) (hv : Vok n f) (hM : Mg L f a m (m + 1)) :
    Calls Try.prog 49 #[.slice (some ⟨g, 0, none⟩) n c, .int .i64 a, .int .i64 m, .int .i64 (m + 1 : Nat), cmpV p2 p3] w fun e w' => SrP L w0 g n a (m + 1) f e w' := by
  have H0 := Lib.hid h
  have HC := Lib.hid hC
  have HV := Lib.hid hv
  have HM := Lib.hid hM
  obtain ⟨z, hz⟩ : ∃ z, m - a = z := ⟨_, rfl⟩
  have e0 : IntKind.i64.wrap ((m : Int) - (a : Int)) = (z : Int) := by rw [← hz, IntWalk.i64_in _ (by omega)]; omega
  have z1 : ¬ z = 1 := by omega
  have z2 : ¬ (z : Int) = 1 := by omega
  have z3 : ((z : Int) == 1) = false := by rw [beq_eq_false_iff_ne]; exact z2
  obtain ⟨b, hb⟩ : ∃ b, m + 1 = b := ⟨_, rfl⟩
  have e1 : IntKind.i64.wrap ((b : Int) - (m : Int)) = 1 := by rw [← hb, IntWalk.i64_in _ (by omega)]; omega
  have hbh := Lib.hid hb
  rw [hb]
  have hb1 : b ≤ n := by omega
  have hb2 : b ≤ m + 1 := by omega
  have hb3 : m < b := by omega
  clear h hC hv hM hb hz
  go_enter Try.func49, Try.ntmps49
  go_wp2_with fail
  go_loopw [14, 15] (fun iv jv wr => ∃ (i j : Nat), iv = .int .i64 i ∧ jv = .int .i64 j ∧ a ≤ i ∧ i ≤ j ∧ j ≤ m ∧ Hid (Srt w0 wr g n f) ∧ Hid (∀ k, a ≤ k → k < i → L (f k) (f m) = true) ∧ Hid (∀ k, j ≤ k → k < m → L (f m) (f k) = true)) (fun i j _ => (intOf j).toNat - (intOf i).toNat)
  case atStart => exact ⟨a, m, rfl, rfl, by omega, by omega, by omega, H0, Lib.hid (fun k k1 k2 => absurd k2 (by omega)), Lib.hid (fun k k1 k2 => absurd k2 (by omega))⟩
  case round =>
    clear e0 e1 H0 z1 z2 z3
    obtain ⟨i, j, rfl, rfl, hai, hij, hjm, HS, HI, HJ⟩ := hrel
    by_cases hlt : i < j
    · have hlt' : (i : Int) < (j : Int) := by omega
      obtain ⟨s, hs⟩ : ∃ s, i + j = s := ⟨_, rfl⟩
      have e1 : IntKind.i64.wrap ((i : Int) + (j : Int)) = (s : Int) := by rw [← hs, IntWalk.i64_in _ (by omega)]; omega
      have hs1 : s ≤ 2000 := by omega
      have e2 : IntKind.u64.wrap (s : Int) = (s : Int) := IntWalk.u64_in _ (by omega)
      obtain ⟨d, hd⟩ : ∃ d, s / 2 = d := ⟨_, rfl⟩
      have e3 : (s : Int) / 2 = (d : Int) := by omega
      have hid : i ≤ d := by omega
      have hdj : d < j := by omega
      have e4 : IntKind.i64.wrap ((d : Int) + 1) = ((d + 1 : Nat) : Int) := by rw [IntWalk.i64_in _ (by omega)]; omega
      have hlt2 := HM.out.lt d m (by omega) (by omega) (by omega) (by omega)
      have q1 := HV.out m (by omega)
      have q2 := HV.out d (by omega)
      obtain ⟨x, hx⟩ : ∃ x, f d = x := ⟨_, rfl⟩
      obtain ⟨y, hy⟩ : ∃ y, f m = y := ⟨_, rfl⟩
      have HSd := Lib.hid HS.out.drew
      have CC := Lib.hid (HC.out wr.drew HSd.out.by' x y (by omega) (by omega) (by omega))
      have d1 : wr.drew.cell? ⟨g, m, none⟩ = some (.int .i64 y) := by rw [← hy]; exact HS.out.cell (i := m) (by omega)
      have d2 : wr.drew.cell? ⟨g, d, none⟩ = some (.int .i64 x) := by rw [← hx]; exact HS.out.cell (i := d) (by omega)
      have hdn : (d : Int) < n := by omega
      have hmn : (m : Int) < n := by omega
      have hxx := Lib.hid hx
      have hyy := Lib.hid hy
      clear q1 q2 hlt2 hx hy hs hd
      go_wp2_with fail
      go_region_held3 (fun w' => w'.cell? ⟨g, m, none⟩ = some (.int .i64 y) ∧ w'.cell? ⟨g, d, none⟩ = some (.int .i64 x))
        (go_keep)
        ((go_at_call 26; (with_reducible refine CC.out.mono ?_); rintro e w2 ⟨r, rfl, hr, hb⟩; have HS2 := Lib.hid (HSd.out.below hb); have d1 := HS2.out.cell (i := m) (by omega); have d2 := HS2.out.cell (i := d) (by omega); rw [hyy.out] at d1; rw [hxx.out] at d2; have hr2 := Lib.hid hr; clear hb hr))
      all_goals
        cases hq : L y x
        · have hrn : ¬ r < 0 := by have := hr2.out; rw [hq] at this; exact of_decide_eq_false this
          have hrd : decide (r < 0) = false := decide_eq_false hrn
          simp only [hrd, Bool.not_false]
          have HI2 := Lib.hid (show ∀ k, a ≤ k → k < d + 1 → L (f k) (f m) = true from fun k k1 k2 => by
            have hl := HM.out.ahead hL (i := d) (j := m) (by omega) (by omega) (by omega) (by omega) (by rw [hyy.out, hxx.out]; exact hq)
            exact hL.ch (HM.out.A.le (j := d) k1 (by omega) (by omega)) hl (.inr rfl))
          go_wp2_with fail
          go_roundw
          case rel => exact ⟨d + 1, j, rfl, rfl, by omega, by omega, by omega, HS2, HI2, HJ⟩
          case measure => simp [intOf]; omega
        · have hrn : r < 0 := by have := hr2.out; rw [hq] at this; exact of_decide_eq_true this
          have hrd : decide (r < 0) = true := decide_eq_true hrn
          simp only [hrd, Bool.not_true]
          have HJ2 := Lib.hid (show ∀ k, d ≤ k → k < m → L (f m) (f k) = true from fun k k1 k2 => hL.ch (.inr rfl) (by rw [hyy.out, hxx.out]; exact hq) (HM.out.A.le (i := d) (by omega) k1 k2))
          go_wp2_with fail
          go_roundw
          case rel => exact ⟨i, d, rfl, rfl, by omega, by omega, by omega, HS2, HI, HJ2⟩
          case measure => simp [intOf]; omega
    · have hlt' : ¬ (i : Int) < (j : Int) := by omega
      obtain rfl : i = j := by omega
      have HF := Lib.hid (show SoF L a b (roF f i m (m + 1)) from by
        have := hbh.out
        subst this
        exact Mg.two hL HM.out hai (by omega) HI.out HJ.out)
      obtain ⟨wo, hwo⟩ : ∃ wo, wo = wr := ⟨_, rfl⟩
      subst hwo
      go_wp2_with fail
      go_loopw [17] (fun kv wr => ∃ k : Nat, kv = .int .i64 k ∧ i ≤ k ∧ k ≤ m ∧ Hid (Srt w0 wr g n (roF f k m (m + 1))) ∧ Hid (Tr n a b f (roF f k m (m + 1)))) (fun k _ => (intOf k).toNat)
      case atStart => exact ⟨m, rfl, by omega, by omega, Lib.hid (HS.out.to (fun x _ => by rw [two_start])), Lib.hid (by rw [two_start]; exact Tr.refl _ _ _ _)⟩
      case round =>
        clear HS
        obtain ⟨k, rfl, hik, hkm, HS, HT⟩ := hrel
        by_cases hk2 : i < k
        · obtain ⟨k', hk'⟩ : ∃ k', k' + 1 = k := ⟨k - 1, by omega⟩
          have hk3 : (i : Int) < (k : Int) := by omega
          have e2 : IntKind.i64.wrap ((k : Int) - 1) = (k' : Int) := by rw [IntWalk.i64_in _ (by omega)]; omega
          have HST := Lib.hid (two_step f m k' (by omega))
          rw [hk'] at HST
          have HSW := Lib.hid (HS.out.swap k k')
          have HTW := Lib.hid (HT.out.trans (Tr.swap (i := k) (j := k') (roF f k m (m + 1)) hb1 (by omega) (by omega) (by omega) (by omega)))
          rw [HST.out] at HTW HSW
          have c1 := HS.out.cell (i := k) (by omega)
          have c2 := HS.out.cell (i := k') (by omega)
          have f1 := HS.out.row.frozen k
          have f2 := HS.out.row.frozen k'
          obtain ⟨x, hx⟩ : ∃ x, roF f k m (m + 1) k = x := ⟨_, rfl⟩
          obtain ⟨y, hy⟩ : ∃ y, roF f k m (m + 1) k' = y := ⟨_, rfl⟩
          rw [hx] at c1 HSW
          rw [hy] at c2 HSW
          have hkn : (k : Int) < n := by omega
          have hkn' : (k' : Int) < n := by omega
          have hne : ¬ k = k' := by omega
          have hkb : i ≤ k' := by omega
          have hka : k' ≤ m := by omega
          have hkk := Lib.hid hk'
          clear hk' hx hy HST
          go_wp2_with fail
          go_big_region
          go_wp2_with fail
          go_roundw
          case rel => exact ⟨k', rfl, hkb, hka, Lib.hid HSW.out.drew, HTW⟩
          case measure =>
            have := hkk.out
            simp [intOf]; omega
        · have hk3 : ¬ (i : Int) < (k : Int) := by omega
          obtain rfl : i = k := by omega
          go_wp2_with fail
          go_end0
          exact ⟨rfl, _, HS.out, HT.out, HF.out⟩
end Go.Proofs.Ytmhmhbiihcdgiaa
