/-
  The walk of situation of the program: the match chances after some games.
-/
import Derived.Test.YtkioliioakmepaaMchU
namespace Go.Proofs.Ytkioliioakmepaa
open Go.ChangeShapes Go.WideShapes Go.ChangeAt Go.RowKit
set_option linter.unusedVariables false

/-- what situation leaves -/
def SitPost (M : Mm) (a b ph c : Int) (m : Nat) (ps : List Int) (w : World) (e : Ending) (w' : World) : Prop :=
  ∃ (v : Value) (code : Int), e = .returned (.tuple #[v, .int .i64 code]) ∧ Below w.heap.size w w' ∧ (¬ cdV M a b ph c = 0 → code = cdV M a b ph c) ∧
    (cdV M a b ph c = 0 → (∃ xs lo, M.afK a.toNat b.toNat ph ps m = some xs ∧ code = 0 ∧ Gs w' lo v m xs ∧ w.heap.size ≤ lo) ∨ (M.afK a.toNat b.toNat ph ps m = none ∧ code = 3))
theorem SitPost.err {M : Mm} {a b ph c code : Int} {m : Nat} {ps : List Int} {v : Value} {w w' : World} {e : Ending} (he : e = .returned (.tuple #[v, .int .i64 code])) (hb : Below w.heap.size w w') (hc : cdV M a b ph c = code) (hn : ¬ code = 0) : SitPost M a b ph c m ps w e w' :=
  ⟨v, code, he, hb, fun _ => hc.symm, fun h => absurd (hc.symm.trans h) hn⟩
set_option maxHeartbeats 3200000 in
theorem situation_any (M : Mm) (a b ph c : Int) (A : Option Addr) (m C : Nat) (ps : List Int) (w : World) (hA : M.at w w.heap.size) (hs : M.sz) (hP : Ints w w.heap.size .i64 A m ps) (hm : m ≤ 8) (hps : cdV M a b ph c = 0 → ∀ i, i < m → ¬ ps.getD i 0 = 0 ∧ -1000 ≤ ps.getD i 0 ∧ ps.getD i 0 ≤ 1000) :
    Calls Try.prog 50 #[.agg #[.slice M.a M.n M.c, .slice M.b M.m M.d, .slice M.e M.p M.f], .int .i64 a, .int .i64 b, .int .i64 ph, .int .i64 c, .slice A m C] w fun e w' => SitPost M a b ph c m ps w e w' := by
  have hb0 := (Below.refl w.heap.size w).alloc (Nat.le_refl _) (.cells #[.slice M.a M.n M.c, .slice M.b M.m M.d, .slice M.e M.p M.f] 26)
  have HB := Lib.hid hb0
  have HA := Lib.hid (hA.keep hb0)
  have HP := Lib.hid (hP.below hb0)
  have RM := Lib.hid (three_new w (.slice M.a M.n M.c) (.slice M.b M.m M.d) (.slice M.e M.p M.f) 26)
  have GA := Lib.hid hA
  have HPS := Lib.hid hps
  obtain ⟨K, hK⟩ : ∃ K, ckV M a b ph = K := ⟨_, rfl⟩
  have HK := Lib.hid hK
  clear hb0 hA hK hP hps
  go_enter Try.func50, Try.ntmps50
  go_wp2_with fail
  refine (checkMatch_any M a b ph _ (HA.out.more HB.out.size) hs K HK.out).mono ?_
  rintro e w1 ⟨rfl, hb1⟩
  have z1 := hb1.size
  simp only [World.size_alloc] at z1
  have B1 := Lib.hid (HB.out.trans (hb1.mono HB.out.size))
  have A1 := Lib.hid (HA.out.keep (hb1.mono HB.out.size))
  have P1 := Lib.hid (HP.out.below (hb1.mono HB.out.size))
  have M1 := Lib.hid (rowIs_below RM.out hb1 RM.out.lt)
  clear hb1
  by_cases hk : K = 0
  · subst hk
    have HG : Hid (M.good = true ∧ stB a b ph = true) := by
      have := HK.out
      unfold ckV at this
      split at this
      · split at this
        · exact ⟨‹_›, ‹_›⟩
        · exact absurd this (by decide)
      · exact absurd this (by decide)
    obtain ⟨U, hU⟩ : ∃ U, pwB c 64 = U := ⟨_, rfl⟩
    have HU := Lib.hid hU
    have HCD : Hid (cdV M a b ph c = if U = true then (if a = 0 ∨ b = 0 then 5 else 0) else 2) := by
      refine Lib.hid ?_
      unfold cdV
      rw [if_pos HG.out.1, HG.out.2, hU]
      cases U <;> rfl
    clear hU
    go_wp2_with fail
    refine (isCube_k c U HU.out _).mono ?_
    rintro e w2 ⟨rfl, rfl⟩
    cases U
    · have HF : Hid (cdV M a b ph c = 2) := HCD.out.trans (if_neg (by decide))
      go_wp2_with fail
      refine bodyPost_ret (v := .tuple #[.slice none 0 0, .int .i64 2]) (by simp [results, Try.results50, go_sem]) rfl (SitPost.err rfl B1.out HF.out (by decide))
    have HC2 : Hid (cdV M a b ph c = if a = 0 ∨ b = 0 then 5 else 0) := HCD.out.trans (if_pos rfl)
    by_cases ha : a = 0
    · have HF := Lib.hid (HC2.out.trans (if_pos (.inl ha)))
      subst ha
      go_wp2_with fail
      refine bodyPost_ret (v := .tuple #[.slice none 0 0, .int .i64 5]) (by simp [results, Try.results50, go_sem]) rfl (SitPost.err rfl B1.out HF.out (by decide))
    have ea : (a == 0) = false := by simpa using ha
    by_cases hb : b = 0
    · have HF := Lib.hid (HC2.out.trans (if_pos (.inr hb)))
      subst hb
      go_wp2_with fail
      refine bodyPost_ret (v := .tuple #[.slice none 0 0, .int .i64 5]) (by simp [results, Try.results50, go_sem]) rfl (SitPost.err rfl B1.out HF.out (by decide))
    have eb : (b == 0) = false := by simpa using hb
    have HF := Lib.hid (HC2.out.trans (if_neg (by rintro (h | h); exact ha h; exact hb h)))
    have HPP := Lib.hid (HPS.out HF.out)
    have hM := Mm.good_ok HG.out.1 GA.out
    obtain ⟨⟨a0, a9⟩, ⟨b0, b9⟩, ab, p0, p2⟩ := stB_out HG.out.2
    obtain ⟨X, rfl⟩ := Int.eq_ofNat_of_zero_le a0
    obtain ⟨Y, rfl⟩ := Int.eq_ofNat_of_zero_le b0
    obtain ⟨m0, m1, m2⟩ := three_cells M1.out
    clear ha hb
    go_wp2_with fail
    refine (newMatch_any M _).mono ?_
    rintro e w2 ⟨g, t, f, rfl, hL, hT, hb2⟩
    have z2 := hb2.size
    have B2 := Lib.hid (B1.out.trans (hb2.mono B1.out.size))
    have A2 := Lib.hid ((A1.out.keep (hb2.mono B1.out.size)).more (B1.out.size))
    have P2 := Lib.hid (P1.out.below (hb2.mono B1.out.size))
    have HT := Lib.hid hT
    have HL := Lib.hid hL
    have h18 := gB_18
    clear hT hb2 hL m0 m1 m2
    go_wp2_with fail
    go_loopw [16, 45] (fun v i wx => ∃ (k N : Nat) (xs : List Int), k ≤ m ∧ i = .int .i64 k ∧ N ≤ 2573485501354569 * k ∧ Hid (M.afK X Y ph ps k = some xs) ∧ Hid (Gs wx w2.heap.size v k xs) ∧ Hid (Tm M g t f N wx) ∧ Hid (Below w.heap.size w wx) ∧ Hid (M.at wx w1.heap.size) ∧ Hid (Ints wx w.heap.size .i64 A m ps) ∧ w2.heap.size ≤ wx.heap.size) (fun _ i _ => m - (intOf i).toNat)
    case atStart => exact ⟨0, 0, [], by omega, rfl, by omega, rfl, Gs.nil _ _, HT, B2, A2, P2, Nat.le_refl _⟩
    case round =>
      obtain ⟨k, N, xs, hk, rfl, hN, hafk, hgs, htm, hB, hAt, hPt, hz⟩ := hrel
      by_cases hkm : k < m
      · obtain ⟨bb, off, hAA, hbb, hcs⟩ := hPt.out.2 (by omega)
        have hcx := hcs k hkm
        obtain ⟨p, hp⟩ : ∃ p, ps.getD k 0 = p := ⟨_, rfl⟩
        rw [hp] at hcx
        have hpp := HPP.out k hkm
        rw [hp] at hpp
        obtain ⟨pn, pl, pu⟩ := hpp
        have HPK := Lib.hid hp
        have HPN := Lib.hid pn
        have HAA := Lib.hid hAA
        subst hAA
        clear hp pn hcs
        go_wp2_with fail
        refine (after_any M hM w1.heap.size w2.heap.size g t f HL.out z2 X Y ph p N _ (by omega) (by omega) p0 p2 HPN.out pl pu hAt.out htm.out hz (by omega)).mono ?_
        rintro e w3 ⟨x, y, ok, rfl, t3, o3, s3, n3⟩
        have z3 := o3.size
        have B3 := Lib.hid ((Out.below hB.out o3 (by have := B1.out.size; omega)).alloc (by have := hB.out.size; omega) (.cells #[.int .i64 x, .int .i64 y] 30))
        have T3 := Lib.hid (t3.alloc (.cells #[.int .i64 x, .int .i64 y] 30))
        have X3 := Lib.hid (two_new w3 x y 30)
        have G3 := Lib.hid ((hgs.out.out o3 (Nat.le_refl _)).alloc (.cells #[.int .i64 x, .int .i64 y] 30))
        have A3 := Lib.hid ((hAt.out.out o3 (by omega)).keep ((Below.refl w1.heap.size w3).alloc (by omega) (.cells #[.int .i64 x, .int .i64 y] 30)))
        have P3 := Lib.hid ((hPt.out.out o3 (by have := B1.out.size; omega) (by have := B1.out.size; omega)).below ((Below.refl w.heap.size w3).alloc (by have := hB.out.size; omega) (.cells #[.int .i64 x, .int .i64 y] 30)))
        have S3 := Lib.hid s3
        have N3 := Lib.hid n3
        obtain ⟨x0, x1, _, _⟩ := two_cells X3.out
        clear t3 o3 s3 n3 hcx
        cases ok
        · have HNO : Hid (M.afK X Y ph ps m = none) := Mm.afK_none HPK.out (N3.out rfl) m hkm
          go_wp2_with fail
          refine bodyPost_ret (v := .tuple #[.slice none 0 0, .int .i64 3]) (by simp [results, Try.results50, go_sem]) rfl ⟨_, _, rfl, B3.out, fun h => absurd HF.out h, fun _ => .inr ⟨HNO.out, rfl⟩⟩
        · have HYES : Hid (M.afK X Y ph ps (k + 1) = some (xs ++ [x, y])) := by
            obtain ⟨cc, hcc, hx, hy⟩ := S3.out rfl
            have := Mm.afK_some hafk.out HPK.out hcc
            rw [hx, hy]; exact this
          have G4 := Lib.hid (G3.out.alloc (.cells #[.int .i64 x, .int .i64 y] 30))
          have C4 := two_new (w3.alloc (.cells #[.int .i64 x, .int .i64 y] 30)) x y 30
          rw [World.size_alloc] at C4
          have HC4 := Lib.hid C4
          have T4 := Lib.hid (T3.out.alloc (.cells #[.int .i64 x, .int .i64 y] 30))
          have B4 := Lib.hid (B3.out.alloc (by have := hB.out.size; simp; omega) (.cells #[.int .i64 x, .int .i64 y] 30))
          have A4 := Lib.hid (A3.out.keep ((Below.refl w1.heap.size _).alloc (by simp; omega) (.cells #[.int .i64 x, .int .i64 y] 30)))
          have P4 := Lib.hid (P3.out.below ((Below.refl w.heap.size _).alloc (by have := hB.out.size; simp; omega) (.cells #[.int .i64 x, .int .i64 y] 30)))
          clear C4
          go_wp2_with (first | (at_builtin; refine app_share rfl (.tmp 60) (.tmp 62) rfl rfl G4.out (w3.heap.size + 1) x y rfl HC4.out (by omega) (by simp; omega) ?_; intro v5 w5 hg5 hb5))
          obtain ⟨_, l1, _, l2, _, l3, _, _, _⟩ := HL.out
          have z5 := hb5.size
          simp only [World.size_alloc] at z5
          have q1 := B1.out.size
          go_roundw
          case rel => exact ⟨k + 1, N + gB 18, xs ++ [x, y], by omega, by go_num, by omega, HYES, Lib.hid hg5, Lib.hid (T4.out.keep hb5 l1 l2 l3), Lib.hid (B4.out.trans (hb5.mono (by omega))), Lib.hid (A4.out.keep (hb5.mono (by omega))), Lib.hid (P4.out.below (hb5.mono (by omega))), by omega⟩
          case measure => simp [intOf]; omega
      · obtain rfl : k = m := by omega
        go_wp2_with fail
        refine bodyPost_ret (by simp [results, Try.results50, go_sem]) rfl ⟨_, _, rfl, hB.out, fun h => absurd HF.out h, fun _ => .inl ⟨xs, _, hafk.out, rfl, hgs.out, ?_⟩⟩
        have := B2.out.size
        omega
  · have ek : (K != 0) = true := by simpa using hk
    have HF : Hid (cdV M a b ph c = K) := by
      have hK := HK.out
      refine Lib.hid ?_
      unfold ckV at hK
      unfold cdV
      split at hK
      · split at hK
        · exact absurd hK.symm hk
        · rename_i h k; rw [if_pos h, if_neg (fun q => k q.1), hK]
      · rename_i h; rw [if_neg h, hK]
    have HKN := Lib.hid hk
    clear hk
    go_wp2_with fail
    refine bodyPost_ret (v := .tuple #[.slice none 0 0, .int .i64 K]) (by simp [results, Try.results50, go_sem]) rfl (SitPost.err rfl B1.out HF.out HKN.out)
end Go.Proofs.Ytkioliioakmepaa
