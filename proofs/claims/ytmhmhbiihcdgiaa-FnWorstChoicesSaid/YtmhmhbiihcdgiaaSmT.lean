/-
  Sorting in place: the walk of the library's merging (SymMerge), whole; the stable sort.
-/
import Derived.Test.YtmhmhbiihcdgiaaSmS
namespace Go.Proofs.Ytmhmhbiihcdgiaa
open Go.ChangeShapes Go.WideShapes Go.ChangeAt Go.RowKit Go.Deep
set_option linter.unusedVariables false
theorem Mg.same {L : Int → Int → Bool} {g g' : Nat → Int} {a m b : Nat} (M : Mg L g a m b) (h : ∀ i, a ≤ i → i < b → g' i = g i) (h1 : a ≤ m := by omega) (h2 : m ≤ b := by omega) : Mg L g' a m b :=
  ⟨M.A.same (fun i i1 i2 => h i i1 (by omega)), M.B.same (fun i i1 i2 => h i (by omega) i2), fun i j i1 i2 j1 j2 => by rw [h i i1 (by omega), h j (by omega) j2]; exact M.lt i j i1 i2 j1 j2⟩
theorem roF_none (f : Nat → Int) (s m e : Nat) (h1 : s ≤ m) (h2 : m ≤ e) (h : ¬ (s < m ∧ m < e)) : ∀ x, f x = roF f s m e x := by
  intro x
  unfold roF
  by_cases c : s ≤ x ∧ x < e
  · rw [if_pos c]
    by_cases c2 : x + (m - s) < e
    · rw [if_pos c2, show x + (m - s) = x by omega]
    · rw [if_neg c2, show x - (e - m) = x by omega]
  · rw [if_neg c]
theorem roF_tr {n a b : Nat} {f : Nat → Int} {s m e : Nat} (h1 : a ≤ s) (h2 : s ≤ m) (h3 : m ≤ e) (h4 : e ≤ b) (h5 : b ≤ n) : Tr n a b f (roF f s m e) := by
  have key : ∀ (N i j : Nat) (F : Nat → Int), i + j ≤ N → i ≤ m → s ≤ m - i → m + j ≤ e → Tr n a b F (roF F (m - i) m (m + j)) := by
    intro N
    induction N with
    | zero =>
      intro i j F hN hi hs hj
      obtain rfl : i = 0 := by omega
      obtain rfl : j = 0 := by omega
      have : roF F (m - 0) m (m + 0) = F := funext fun x => (roF_none F (m - 0) m (m + 0) (by omega) (by omega) (by omega) x).symm
      rw [this]
      exact Tr.refl _ _ _ _
    | succ N ih =>
      intro i j F hN hi hs hj
      by_cases h0 : 0 < i ∧ 0 < j
      · rcases Nat.lt_trichotomy i j with c | c | c
        · have t1 := swR_tr (n := n) (lo := a) (hi := b) F (m - i) (m + j - i) h5 (by omega) (by omega) i (by omega) (by omega)
          have t2 := ih i (j - i) (swR F (m - i) (m + j - i) i) (by omega) hi hs (by omega)
          have e : roF (swR F (m - i) (m + j - i) i) (m - i) m (m + (j - i)) = roF F (m - i) m (m + j) := funext (roF_step2 F m i j c hi)
          rw [e] at t2
          exact t1.trans t2
        · subst c
          have t1 := swR_tr (n := n) (lo := a) (hi := b) F (m - i) m h5 (by omega) (by omega) i (by omega) (by omega)
          have e : swR F (m - i) m i = roF F (m - i) m (m + i) := funext (roF_last F m i hi)
          rw [e] at t1
          exact t1
        · have t1 := swR_tr (n := n) (lo := a) (hi := b) F (m - i) m h5 (by omega) (by omega) j (by omega) (by omega)
          have t2 := ih (i - j) j (swR F (m - i) m j) (by omega) (by omega) (by omega) hj
          have e : roF (swR F (m - i) m j) (m - (i - j)) m (m + j) = roF F (m - i) m (m + j) := funext (roF_step1 F m i j c hi)
          rw [e] at t2
          exact t1.trans t2
      · have : roF F (m - i) m (m + j) = F := funext fun x => (roF_none F (m - i) m (m + j) (by omega) (by omega) (by omega) x).symm
        rw [this]
        exact Tr.refl _ _ _ _
  have := key ((m - s) + (e - m)) (m - s) (e - m) f (Nat.le_refl _) (by omega) (by omega) (by omega)
  rwa [show m - (m - s) = s by omega, show m + (e - m) = e by omega] at this
set_option maxHeartbeats 6400000 in
set_option maxRecDepth 16000 in
theorem sym_step {L : Int → Int → Bool} (hL : STot L) (w0 : World) (g n c : Nat) (p2 p3 : Value) (hC : CmpOk w0 g n p2 p3 L) (hn : n ≤ 1000) (N : Nat) (ih : SymC L w0 g n c p2 p3 N) (w : World) (a m b : Nat) (f : Nat → Int) (hN : b - a ≤ N + 1) (h1 : a + 1 < m) (h2 : m + 1 < b) (h3 : b ≤ n) (h : Srt w0 w g n f) (hv : Vok n f) (hM : Mg L f a m b) :
    Calls Try.prog 49 #[.slice (some ⟨g, 0, none⟩) n c, .int .i64 a, .int .i64 m, .int .i64 b, cmpV p2 p3] w fun e w' => SrP L w0 g n a b f e w' := by
  have H0 := Lib.hid h
  have HC := Lib.hid hC
  have HV := Lib.hid hv
  have HM := Lib.hid hM
  have IH := Lib.hid ih
  obtain ⟨z, hz⟩ : ∃ z, m - a = z := ⟨_, rfl⟩
  have e0 : IntKind.i64.wrap ((m : Int) - (a : Int)) = (z : Int) := by rw [← hz, IntWalk.i64_in _ (by omega)]; omega
  have z1 : ¬ z = 1 := by omega
  have z2 : ¬ (z : Int) = 1 := by omega
  obtain ⟨y, hy⟩ : ∃ y, b - m = y := ⟨_, rfl⟩
  have e1 : IntKind.i64.wrap ((b : Int) - (m : Int)) = (y : Int) := by rw [← hy, IntWalk.i64_in _ (by omega)]; omega
  have y1 : ¬ y = 1 := by omega
  have y2 : ¬ (y : Int) = 1 := by omega
  obtain ⟨t, ht⟩ : ∃ t, a + b = t := ⟨_, rfl⟩
  have e2 : IntKind.i64.wrap ((a : Int) + (b : Int)) = (t : Int) := by rw [← ht, IntWalk.i64_in _ (by omega)]; omega
  have e3 : IntKind.u64.wrap (t : Int) = (t : Int) := IntWalk.u64_in _ (by omega)
  obtain ⟨mid, hmid⟩ : ∃ mid, t / 2 = mid := ⟨_, rfl⟩
  have e4 : (t : Int) / 2 = (mid : Int) := by omega
  obtain ⟨q, hq⟩ : ∃ q, mid + m = q := ⟨_, rfl⟩
  have e5 : IntKind.i64.wrap ((mid : Int) + (m : Int)) = (q : Int) := by rw [← hq, IntWalk.i64_in _ (by omega)]; omega
  obtain ⟨p, hp⟩ : ∃ p, q - 1 = p := ⟨_, rfl⟩
  have e6 : IntKind.i64.wrap ((q : Int) - 1) = (p : Int) := by rw [← hp, IntWalk.i64_in _ (by omega)]; omega
  have am : a < mid := by omega
  have mb : mid < b := by omega
  have hmid2 := Lib.hid (show mid = (a + b) / 2 by omega)
  have hqq := Lib.hid hq
  have hpp := Lib.hid (show p + 1 = q by omega)
  have hq2 : q ≤ 2000 := by omega
  have hp2 : p ≤ 2000 := by omega
  have CASES : (∃ s0 r0 : Nat, Hid ((mid < m ∧ s0 = mid + m - b ∧ r0 = mid) ∨ (m ≤ mid ∧ s0 = a ∧ r0 = m)) ∧ a ≤ s0 ∧ s0 ≤ r0 ∧ r0 ≤ m ∧ r0 ≤ mid ∧ q ≤ s0 + b ∧ (((mid : Int) < (m : Int) ∧ IntKind.i64.wrap ((q : Int) - (b : Int)) = (s0 : Int) ∧ Hid (r0 = mid) ∧ Hid (s0 = s0)) ∨ (¬ (mid : Int) < (m : Int) ∧ True ∧ Hid (r0 = m) ∧ Hid (s0 = a)))) := by
    by_cases c : mid < m
    · refine ⟨mid + m - b, mid, Lib.hid (.inl ⟨c, rfl, rfl⟩), by omega, by omega, by omega, by omega, by omega, .inl ⟨by omega, ?_, rfl, rfl⟩⟩
      rw [IntWalk.i64_in _ (by omega)]; omega
    · exact ⟨a, m, Lib.hid (.inr ⟨by omega, rfl, rfl⟩), by omega, by omega, by omega, by omega, by omega, .inr ⟨by omega, trivial, rfl, rfl⟩⟩
  obtain ⟨s0, r0, HCS, s1, s2, s3, s4, s5, hcase⟩ := CASES
  clear h hC hv hM ih hz hy ht hmid hq hp
  have HROT := Lib.hid (fun W x y z f hs k1 k2 k3 => rotate_any w0 W g n c x y z f (cmpV p2 p3) hs k1 k2 k3 hn)
  go_enter Try.func49, Try.ntmps49
  rcases hcase with ⟨cm, e7, e8, e9⟩ | ⟨cm, e7, e8, e9⟩
  all_goals
    go_wp2_with fail
    clear e0 z1 z2 e1 y1 y2 e2 e3 e4 e5 e6
    go_loopw [20, 21] (fun sv rv wr => ∃ (s r : Nat), sv = .int .i64 s ∧ rv = .int .i64 r ∧ s0 ≤ s ∧ s ≤ r ∧ r ≤ r0 ∧ Hid (Srt w0 wr g n f) ∧ Hid (∀ c, s0 ≤ c → c < s → L (f c) (f (mid + m - 1 - c)) = true) ∧ Hid (∀ c, r ≤ c → c < r0 → L (f (mid + m - 1 - c)) (f c) = true)) (fun s r _ => (intOf r).toNat - (intOf s).toNat)
    case atStart => exact ⟨s0, r0, by first | rfl | rw [e9.out], by first | rfl | rw [e8.out], by omega, by omega, by omega, H0, Lib.hid (fun k k1 k2 => absurd k2 (by omega)), Lib.hid (fun k k1 k2 => absurd k2 (by omega))⟩
    case round =>
      clear e7 H0 cm
      obtain ⟨s, r, rfl, rfl, ss, sr, rr, HS, HLO, HHI⟩ := hrel
      by_cases hlt : s < r
      · have hlt' : (s : Int) < (r : Int) := by omega
        obtain ⟨u, hu⟩ : ∃ u, s + r = u := ⟨_, rfl⟩
        have e1 : IntKind.i64.wrap ((s : Int) + (r : Int)) = (u : Int) := by rw [← hu, IntWalk.i64_in _ (by omega)]; omega
        have hu1 : u ≤ 4000 := by omega
        have e2 : IntKind.u64.wrap (u : Int) = (u : Int) := IntWalk.u64_in _ (by omega)
        obtain ⟨d, hd⟩ : ∃ d, u / 2 = d := ⟨_, rfl⟩
        have e3 : (u : Int) / 2 = (d : Int) := by omega
        have hid : s ≤ d := by omega
        have hdj : d < r := by omega
        have e4 : IntKind.i64.wrap ((d : Int) + 1) = ((d + 1 : Nat) : Int) := by rw [IntWalk.i64_in _ (by omega)]; omega
        have hq1 := hqq.out
        have hp1 := hpp.out
        obtain ⟨v, hv⟩ : ∃ v, p - d = v := ⟨_, rfl⟩
        have e5 : IntKind.i64.wrap ((p : Int) - (d : Int)) = (v : Int) := by rw [← hv, IntWalk.i64_in _ (by omega)]; omega
        have hvm : mid + m - 1 - d = v := by omega
        have lt2 := HM.out.lt d v (by omega) (by omega) (by omega) (by omega)
        have q1 := HV.out v (by omega)
        have q2 := HV.out d (by omega)
        obtain ⟨x, hx⟩ : ∃ x, f d = x := ⟨_, rfl⟩
        obtain ⟨y, hy⟩ : ∃ y, f v = y := ⟨_, rfl⟩
        have HSd := Lib.hid HS.out.drew
        have CC := Lib.hid (HC.out wr.drew HSd.out.by' x y (by omega) (by omega) (by omega))
        have d1 : wr.drew.cell? ⟨g, v, none⟩ = some (.int .i64 y) := by rw [← hy]; exact HS.out.cell (i := v) (by omega)
        have d2 : wr.drew.cell? ⟨g, d, none⟩ = some (.int .i64 x) := by rw [← hx]; exact HS.out.cell (i := d) (by omega)
        have hdn : (d : Int) < n := by omega
        have hvn : (v : Int) < n := by omega
        have hvb : v < b := by omega
        have hmv : m ≤ v := by omega
        have hxx := Lib.hid hx
        have hyy := Lib.hid hy
        have HLO2 := Lib.hid (show L y x = false → ∀ c, s0 ≤ c → c < d + 1 → L (f c) (f (mid + m - 1 - c)) = true from fun hq c c1 c2 => by
          by_cases cs : c < s
          · exact HLO.out c c1 cs
          · have := HM.out.lo (p := mid + m - 1) (c := c) (h := d) hL (by omega) (by omega) (by omega) (by omega) (by omega) (by omega) (by rw [hvm, hyy.out, hxx.out]; exact hq)
            exact this)
        have HHI2 := Lib.hid (show L y x = true → ∀ c, d ≤ c → c < r0 → L (f (mid + m - 1 - c)) (f c) = true from fun hq c c1 c2 => by
          by_cases cs : r ≤ c
          · exact HHI.out c cs c2
          · exact HM.out.hi (p := mid + m - 1) (c := c) (h := d) hL (by omega) (by omega) (by omega) (by omega) (by omega) (by omega) (by rw [hvm, hyy.out, hxx.out]; exact hq))
        clear q1 q2 lt2 hx hy hu hd hv hvm hq1 hp1
        go_wp2_with fail
        go_region_held3 (fun w' => w'.cell? ⟨g, v, none⟩ = some (.int .i64 y) ∧ w'.cell? ⟨g, d, none⟩ = some (.int .i64 x))
          (go_keep)
          ((go_at_call 26; (with_reducible refine CC.out.mono ?_); rintro e w2 ⟨rc, rfl, hr, hb⟩; have HS2 := Lib.hid (HSd.out.below hb); have d1 := HS2.out.cell (i := v) (by omega); have d2 := HS2.out.cell (i := d) (by omega); rw [hyy.out] at d1; rw [hxx.out] at d2; have hr2 := Lib.hid hr; clear hb hr))
        all_goals
          cases hq : L y x
          · have hrn : ¬ rc < 0 := by have := hr2.out; rw [hq] at this; exact of_decide_eq_false this
            have hrd : decide (rc < 0) = false := decide_eq_false hrn
            simp only [hrd, Bool.not_false]
            have HF := Lib.hid (HLO2.out hq)
            go_wp2_with fail
            go_roundw
            case rel => exact ⟨d + 1, r, rfl, rfl, by omega, by omega, by omega, HS2, HF, HHI⟩
            case measure => simp [intOf]; omega
          · have hrn : rc < 0 := by have := hr2.out; rw [hq] at this; exact of_decide_eq_true this
            have hrd : decide (rc < 0) = true := decide_eq_true hrn
            simp only [hrd, Bool.not_true]
            have HF := Lib.hid (HHI2.out hq)
            go_wp2_with fail
            go_roundw
            case rel => exact ⟨s, d, rfl, rfl, by omega, by omega, by omega, HS2, HLO, HF⟩
            case measure => simp [intOf]; omega
      · have hlt' : ¬ (s : Int) < (r : Int) := by omega
        obtain rfl : s = r := by omega
        obtain ⟨e, he⟩ : ∃ e, q - s = e := ⟨_, rfl⟩
        have hq1 := hqq.out
        have e1 : IntKind.i64.wrap ((q : Int) - (s : Int)) = (e : Int) := by rw [← he, IntWalk.i64_in _ (by omega)]; omega
        have HCUT := Lib.hid (show Cut L f (roF f s m e) a s e b mid from by
          have := HM.out.cut hL (by omega) (by omega) hmid2.out HCS.out ss rr HLO.out HHI.out
          rwa [show mid + m - s = e by omega] at this)
        have HRT := Lib.hid (show Tr n a b f (roF f s m e) from roF_tr (by omega) (by omega) (by omega) (by omega) h3)
        have HVR := Lib.hid (HV.out.tr HRT.out h3)
        have h5 : a ≤ s := by omega
        have h6 : s ≤ m := by omega
        have h7 : m ≤ e := by omega
        have h8 : e ≤ b := by omega
        have h9 : s ≤ mid := by omega
        have h10 : mid ≤ e := by omega
        have hk1 : m < e ↔ s < mid := by omega
        have hk2 : mid < e ↔ s < m := by omega
        obtain ⟨G, hG⟩ : ∃ G, roF f s m e = G := ⟨_, rfl⟩
        have HNO := Lib.hid (fun (h : ¬ (s < m ∧ m < e)) => show ∀ x, f x = G x from hG ▸ roF_none f s m e h6 h7 h)
        rw [hG] at HCUT HRT HVR
        have HRO := Lib.hid (fun (c1 : s < m) (c2 : m < e) => show Calls Try.prog 52 #[.slice (some ⟨g, 0, none⟩) n c, .int .i64 s, .int .i64 m, .int .i64 e, cmpV p2 p3] wr fun e' w' => DoneS e' ∧ Srt w0 w' g n G from hG ▸ HROT.out wr s m e f HS.out c1 c2 (by omega))
        have HGW := Lib.hid (fun (h : ¬ (s < m ∧ m < e)) => HS.out.to (fun x _ => HNO.out h x))
        clear hG he hq1 HNO HLO HHI HROT HS
        by_cases A : s < m
        · have A1 : (s : Int) < (m : Int) := by omega
          have A2 : decide ((s : Int) < (m : Int)) = true := decide_eq_true A1
          have A3 : (mid : Int) < (e : Int) := by omega
          have A4 : decide ((mid : Int) < (e : Int)) = true := decide_eq_true A3
          by_cases B : s < mid
          · have B1 : (s : Int) < (mid : Int) := by omega
            have B2 : decide ((s : Int) < (mid : Int)) = true := decide_eq_true B1
            have B3 : (m : Int) < (e : Int) := by omega
            have B4 : decide ((m : Int) < (e : Int)) = true := decide_eq_true B3
            have HRO2 := Lib.hid (HRO.out A (by omega))
            go_wp2_with fail
            refine HRO2.out.mono ?_
            rintro e' w1 ⟨rfl, hs⟩
            have HG := Lib.hid hs
            clear hs
            clear HRO HGW
            by_cases l1 : a < s
            · have L1 : (a : Int) < (s : Int) := by omega
              have L2 : decide ((a : Int) < (s : Int)) = true := decide_eq_true L1
              have HR := Lib.hid (IH.out _ a s mid _ (by omega) (by omega) (by omega) (by omega) HG.out HVR.out HCUT.out.left)
              go_wp2_with fail
              refine HR.out.mono ?_
              rintro e' w2 ⟨rfl, F1, hs, ht, ho⟩
              have HG1 := Lib.hid hs
              have HT1 := Lib.hid ht
              have HO1 := Lib.hid ho
              clear hs ht ho
              have HM1 := Lib.hid (HCUT.out.right.same (fun i i1 i2 => HT1.out.out i (by omega)))
              have HV1 := Lib.hid (HVR.out.tr HT1.out (by omega))
              by_cases r2 : e < b
              · have R1 : (e : Int) < (b : Int) := by omega
                have R2 : decide ((e : Int) < (b : Int)) = true := decide_eq_true R1
                have HR := Lib.hid (IH.out _ mid e b _ (by omega) (by omega) (by omega) h3 HG1.out HV1.out HM1.out)
                go_wp2_with fail
                refine HR.out.mono ?_
                rintro e' w3 ⟨rfl, F2, hs, ht, ho⟩
                have HG2 := Lib.hid hs
                have HT2 := Lib.hid ht
                have HO2 := Lib.hid ho
                clear hs ht ho
                go_wp2_with fail
                go_end0
                exact ⟨rfl, F2, HG2.out, (HRT.out.trans (HT1.out.mono (Nat.le_refl _) (by omega))).trans (HT2.out.mono (by omega) (Nat.le_refl _)), HCUT.out.join hL HT1.out HO1.out HT2.out HO2.out⟩
              · have R1 : ¬ (e : Int) < (b : Int) := by omega
                have R2 : decide ((e : Int) < (b : Int)) = false := decide_eq_false R1
                have HO2 := Lib.hid (HM1.out.done (by omega) h10 h8)
                go_wp2_with fail
                go_end0
                exact ⟨rfl, _, HG1.out, HRT.out.trans (HT1.out.mono (Nat.le_refl _) (by omega)), HCUT.out.join hL HT1.out HO1.out (Tr.refl _ _ _ _) HO2.out⟩
            · have L1 : ¬ (a : Int) < (s : Int) := by omega
              have L2 : decide ((a : Int) < (s : Int)) = false := decide_eq_false L1
              have HG1 := HG
              have HT1 := Lib.hid (Tr.refl n a mid G)
              have HO1 := Lib.hid (HCUT.out.left.done (by omega) h5 h9)
              have HM1 := Lib.hid (HCUT.out.right.same (fun i i1 i2 => HT1.out.out i (by omega)))
              have HV1 := Lib.hid (HVR.out.tr HT1.out (by omega))
              by_cases r2 : e < b
              · have R1 : (e : Int) < (b : Int) := by omega
                have R2 : decide ((e : Int) < (b : Int)) = true := decide_eq_true R1
                have HR := Lib.hid (IH.out _ mid e b _ (by omega) (by omega) (by omega) h3 HG1.out HV1.out HM1.out)
                go_wp2_with fail
                refine HR.out.mono ?_
                rintro e' w3 ⟨rfl, F2, hs, ht, ho⟩
                have HG2 := Lib.hid hs
                have HT2 := Lib.hid ht
                have HO2 := Lib.hid ho
                clear hs ht ho
                go_wp2_with fail
                go_end0
                exact ⟨rfl, F2, HG2.out, (HRT.out.trans (HT1.out.mono (Nat.le_refl _) (by omega))).trans (HT2.out.mono (by omega) (Nat.le_refl _)), HCUT.out.join hL HT1.out HO1.out HT2.out HO2.out⟩
              · have R1 : ¬ (e : Int) < (b : Int) := by omega
                have R2 : decide ((e : Int) < (b : Int)) = false := decide_eq_false R1
                have HO2 := Lib.hid (HM1.out.done (by omega) h10 h8)
                go_wp2_with fail
                go_end0
                exact ⟨rfl, _, HG1.out, HRT.out.trans (HT1.out.mono (Nat.le_refl _) (by omega)), HCUT.out.join hL HT1.out HO1.out (Tr.refl _ _ _ _) HO2.out⟩
          · have B1 : ¬ (s : Int) < (mid : Int) := by omega
            have B2 : decide ((s : Int) < (mid : Int)) = false := decide_eq_false B1
            have B3 : ¬ (m : Int) < (e : Int) := by omega
            have B4 : decide ((m : Int) < (e : Int)) = false := decide_eq_false B3
            have HG := Lib.hid (HGW.out (by omega))
            clear HRO HGW
            by_cases l1 : a < s
            · have L1 : (a : Int) < (s : Int) := by omega
              have L2 : decide ((a : Int) < (s : Int)) = true := decide_eq_true L1
              have HG1 := HG
              have HT1 := Lib.hid (Tr.refl n a mid G)
              have HO1 := Lib.hid (HCUT.out.left.done (by omega) h5 h9)
              have HM1 := Lib.hid (HCUT.out.right.same (fun i i1 i2 => HT1.out.out i (by omega)))
              have HV1 := Lib.hid (HVR.out.tr HT1.out (by omega))
              by_cases r2 : e < b
              · have R1 : (e : Int) < (b : Int) := by omega
                have R2 : decide ((e : Int) < (b : Int)) = true := decide_eq_true R1
                have HR := Lib.hid (IH.out _ mid e b _ (by omega) (by omega) (by omega) h3 HG1.out HV1.out HM1.out)
                go_wp2_with fail
                refine HR.out.mono ?_
                rintro e' w3 ⟨rfl, F2, hs, ht, ho⟩
                have HG2 := Lib.hid hs
                have HT2 := Lib.hid ht
                have HO2 := Lib.hid ho
                clear hs ht ho
                go_wp2_with fail
                go_end0
                exact ⟨rfl, F2, HG2.out, (HRT.out.trans (HT1.out.mono (Nat.le_refl _) (by omega))).trans (HT2.out.mono (by omega) (Nat.le_refl _)), HCUT.out.join hL HT1.out HO1.out HT2.out HO2.out⟩
              · have R1 : ¬ (e : Int) < (b : Int) := by omega
                have R2 : decide ((e : Int) < (b : Int)) = false := decide_eq_false R1
                have HO2 := Lib.hid (HM1.out.done (by omega) h10 h8)
                go_wp2_with fail
                go_end0
                exact ⟨rfl, _, HG1.out, HRT.out.trans (HT1.out.mono (Nat.le_refl _) (by omega)), HCUT.out.join hL HT1.out HO1.out (Tr.refl _ _ _ _) HO2.out⟩
            · have L1 : ¬ (a : Int) < (s : Int) := by omega
              have L2 : decide ((a : Int) < (s : Int)) = false := decide_eq_false L1
              have HG1 := HG
              have HT1 := Lib.hid (Tr.refl n a mid G)
              have HO1 := Lib.hid (HCUT.out.left.done (by omega) h5 h9)
              have HM1 := Lib.hid (HCUT.out.right.same (fun i i1 i2 => HT1.out.out i (by omega)))
              have HV1 := Lib.hid (HVR.out.tr HT1.out (by omega))
              by_cases r2 : e < b
              · have R1 : (e : Int) < (b : Int) := by omega
                have R2 : decide ((e : Int) < (b : Int)) = true := decide_eq_true R1
                have HR := Lib.hid (IH.out _ mid e b _ (by omega) (by omega) (by omega) h3 HG1.out HV1.out HM1.out)
                go_wp2_with fail
                refine HR.out.mono ?_
                rintro e' w3 ⟨rfl, F2, hs, ht, ho⟩
                have HG2 := Lib.hid hs
                have HT2 := Lib.hid ht
                have HO2 := Lib.hid ho
                clear hs ht ho
                go_wp2_with fail
                go_end0
                exact ⟨rfl, F2, HG2.out, (HRT.out.trans (HT1.out.mono (Nat.le_refl _) (by omega))).trans (HT2.out.mono (by omega) (Nat.le_refl _)), HCUT.out.join hL HT1.out HO1.out HT2.out HO2.out⟩
              · have R1 : ¬ (e : Int) < (b : Int) := by omega
                have R2 : decide ((e : Int) < (b : Int)) = false := decide_eq_false R1
                have HO2 := Lib.hid (HM1.out.done (by omega) h10 h8)
                go_wp2_with fail
                go_end0
                exact ⟨rfl, _, HG1.out, HRT.out.trans (HT1.out.mono (Nat.le_refl _) (by omega)), HCUT.out.join hL HT1.out HO1.out (Tr.refl _ _ _ _) HO2.out⟩
        · have A1 : ¬ (s : Int) < (m : Int) := by omega
          have A2 : decide ((s : Int) < (m : Int)) = false := decide_eq_false A1
          have A3 : ¬ (mid : Int) < (e : Int) := by omega
          have A4 : decide ((mid : Int) < (e : Int)) = false := decide_eq_false A3
          by_cases B : s < mid
          · have B1 : (s : Int) < (mid : Int) := by omega
            have B2 : decide ((s : Int) < (mid : Int)) = true := decide_eq_true B1
            have B3 : (m : Int) < (e : Int) := by omega
            have B4 : decide ((m : Int) < (e : Int)) = true := decide_eq_true B3
            have HG := Lib.hid (HGW.out (by omega))
            clear HRO HGW
            by_cases l1 : a < s
            · have L1 : (a : Int) < (s : Int) := by omega
              have L2 : decide ((a : Int) < (s : Int)) = true := decide_eq_true L1
              have HR := Lib.hid (IH.out _ a s mid _ (by omega) (by omega) (by omega) (by omega) HG.out HVR.out HCUT.out.left)
              go_wp2_with fail
              refine HR.out.mono ?_
              rintro e' w2 ⟨rfl, F1, hs, ht, ho⟩
              have HG1 := Lib.hid hs
              have HT1 := Lib.hid ht
              have HO1 := Lib.hid ho
              clear hs ht ho
              have HM1 := Lib.hid (HCUT.out.right.same (fun i i1 i2 => HT1.out.out i (by omega)))
              have HV1 := Lib.hid (HVR.out.tr HT1.out (by omega))
              by_cases r2 : e < b
              · have R1 : (e : Int) < (b : Int) := by omega
                have R2 : decide ((e : Int) < (b : Int)) = true := decide_eq_true R1
                have HO2 := Lib.hid (HM1.out.done (by omega) h10 h8)
                go_wp2_with fail
                go_end0
                exact ⟨rfl, _, HG1.out, HRT.out.trans (HT1.out.mono (Nat.le_refl _) (by omega)), HCUT.out.join hL HT1.out HO1.out (Tr.refl _ _ _ _) HO2.out⟩
              · have R1 : ¬ (e : Int) < (b : Int) := by omega
                have R2 : decide ((e : Int) < (b : Int)) = false := decide_eq_false R1
                have HO2 := Lib.hid (HM1.out.done (by omega) h10 h8)
                go_wp2_with fail
                go_end0
                exact ⟨rfl, _, HG1.out, HRT.out.trans (HT1.out.mono (Nat.le_refl _) (by omega)), HCUT.out.join hL HT1.out HO1.out (Tr.refl _ _ _ _) HO2.out⟩
            · have L1 : ¬ (a : Int) < (s : Int) := by omega
              have L2 : decide ((a : Int) < (s : Int)) = false := decide_eq_false L1
              have HG1 := HG
              have HT1 := Lib.hid (Tr.refl n a mid G)
              have HO1 := Lib.hid (HCUT.out.left.done (by omega) h5 h9)
              have HM1 := Lib.hid (HCUT.out.right.same (fun i i1 i2 => HT1.out.out i (by omega)))
              have HV1 := Lib.hid (HVR.out.tr HT1.out (by omega))
              by_cases r2 : e < b
              · have R1 : (e : Int) < (b : Int) := by omega
                have R2 : decide ((e : Int) < (b : Int)) = true := decide_eq_true R1
                have HO2 := Lib.hid (HM1.out.done (by omega) h10 h8)
                go_wp2_with fail
                go_end0
                exact ⟨rfl, _, HG1.out, HRT.out.trans (HT1.out.mono (Nat.le_refl _) (by omega)), HCUT.out.join hL HT1.out HO1.out (Tr.refl _ _ _ _) HO2.out⟩
              · have R1 : ¬ (e : Int) < (b : Int) := by omega
                have R2 : decide ((e : Int) < (b : Int)) = false := decide_eq_false R1
                have HO2 := Lib.hid (HM1.out.done (by omega) h10 h8)
                go_wp2_with fail
                go_end0
                exact ⟨rfl, _, HG1.out, HRT.out.trans (HT1.out.mono (Nat.le_refl _) (by omega)), HCUT.out.join hL HT1.out HO1.out (Tr.refl _ _ _ _) HO2.out⟩
          · have B1 : ¬ (s : Int) < (mid : Int) := by omega
            have B2 : decide ((s : Int) < (mid : Int)) = false := decide_eq_false B1
            have B3 : ¬ (m : Int) < (e : Int) := by omega
            have B4 : decide ((m : Int) < (e : Int)) = false := decide_eq_false B3
            have HG := Lib.hid (HGW.out (by omega))
            clear HRO HGW
            by_cases l1 : a < s
            · have L1 : (a : Int) < (s : Int) := by omega
              have L2 : decide ((a : Int) < (s : Int)) = true := decide_eq_true L1
              have HG1 := HG
              have HT1 := Lib.hid (Tr.refl n a mid G)
              have HO1 := Lib.hid (HCUT.out.left.done (by omega) h5 h9)
              have HM1 := Lib.hid (HCUT.out.right.same (fun i i1 i2 => HT1.out.out i (by omega)))
              have HV1 := Lib.hid (HVR.out.tr HT1.out (by omega))
              by_cases r2 : e < b
              · have R1 : (e : Int) < (b : Int) := by omega
                have R2 : decide ((e : Int) < (b : Int)) = true := decide_eq_true R1
                have HO2 := Lib.hid (HM1.out.done (by omega) h10 h8)
                go_wp2_with fail
                go_end0
                exact ⟨rfl, _, HG1.out, HRT.out.trans (HT1.out.mono (Nat.le_refl _) (by omega)), HCUT.out.join hL HT1.out HO1.out (Tr.refl _ _ _ _) HO2.out⟩
              · have R1 : ¬ (e : Int) < (b : Int) := by omega
                have R2 : decide ((e : Int) < (b : Int)) = false := decide_eq_false R1
                have HO2 := Lib.hid (HM1.out.done (by omega) h10 h8)
                go_wp2_with fail
                go_end0
                exact ⟨rfl, _, HG1.out, HRT.out.trans (HT1.out.mono (Nat.le_refl _) (by omega)), HCUT.out.join hL HT1.out HO1.out (Tr.refl _ _ _ _) HO2.out⟩
            · have L1 : ¬ (a : Int) < (s : Int) := by omega
              have L2 : decide ((a : Int) < (s : Int)) = false := decide_eq_false L1
              have HG1 := HG
              have HT1 := Lib.hid (Tr.refl n a mid G)
              have HO1 := Lib.hid (HCUT.out.left.done (by omega) h5 h9)
              have HM1 := Lib.hid (HCUT.out.right.same (fun i i1 i2 => HT1.out.out i (by omega)))
              have HV1 := Lib.hid (HVR.out.tr HT1.out (by omega))
              by_cases r2 : e < b
              · have R1 : (e : Int) < (b : Int) := by omega
                have R2 : decide ((e : Int) < (b : Int)) = true := decide_eq_true R1
                have HO2 := Lib.hid (HM1.out.done (by omega) h10 h8)
                go_wp2_with fail
                go_end0
                exact ⟨rfl, _, HG1.out, HRT.out.trans (HT1.out.mono (Nat.le_refl _) (by omega)), HCUT.out.join hL HT1.out HO1.out (Tr.refl _ _ _ _) HO2.out⟩
              · have R1 : ¬ (e : Int) < (b : Int) := by omega
                have R2 : decide ((e : Int) < (b : Int)) = false := decide_eq_false R1
                have HO2 := Lib.hid (HM1.out.done (by omega) h10 h8)
                go_wp2_with fail
                go_end0
                exact ⟨rfl, _, HG1.out, HRT.out.trans (HT1.out.mono (Nat.le_refl _) (by omega)), HCUT.out.join hL HT1.out HO1.out (Tr.refl _ _ _ _) HO2.out⟩
end Go.Proofs.Ytmhmhbiihcdgiaa
