/-
  Sorting in place: the library's stable sort of at most 39 numbers that stand in ascending order.
-/
import Derived.Test.YtmhmhbiihcdgiaaSmT
namespace Go.Proofs.Ytmhmhbiihcdgiaa
open Go.ChangeShapes Go.WideShapes Go.ChangeAt Go.RowKit Go.Deep
set_option linter.unusedVariables false
theorem sym_all {L : Int → Int → Bool} (hL : STot L) (w0 : World) (g n c : Nat) (p2 p3 : Value) (hC : CmpOk w0 g n p2 p3 L) (hn : n ≤ 1000) : ∀ N, SymC L w0 g n c p2 p3 N
  | 0 => fun w a m b f h1 h2 h3 => by omega
  | N + 1 => fun w a m b f h1 h2 h3 h4 hs hv hm => by
    by_cases c1 : m = a + 1
    · subst c1
      exact sym_one hL w0 g n c p2 p3 hC hn w a b f h3 h4 hs hv hm
    · by_cases c2 : b = m + 1
      · subst c2
        exact sym_two hL w0 g n c p2 p3 hC hn w a m f (by omega) h4 hs hv hm
      · exact sym_step hL w0 g n c p2 p3 hC hn N (sym_all hL w0 g n c p2 p3 hC hn N) w a m b f h1 (by omega) (by omega) h4 hs hv hm
def idF : Nat → Int := fun i => (i : Int)
theorem Vok.id (n : Nat) : Vok n idF := fun i hi => by unfold idF; omega
set_option maxHeartbeats 3200000 in
theorem stable_any {L : Int → Int → Bool} (hL : STot L) (w0 w : World) (g n c : Nat) (p2 p3 : Value) (h : Srt w0 w g n idF) (hC : CmpOk w0 g n p2 p3 L) (hn : n ≤ 39) :
    Calls Try.prog 39 #[.slice (some ⟨g, 0, none⟩) n c, .int .i64 n, cmpV p2 p3] w fun e w' => SrP L w0 g n 0 n idF e w' := by
  have H0 := Lib.hid h
  have INS := Lib.hid (fun W a b f hs a1 a2 hv asc => insertion_any hL w0 W g n c a b f p2 p3 hs hC a1 a2 (by omega) hv asc)
  have SYM := Lib.hid (sym_all hL w0 g n c p2 p3 hC (by omega) n)
  clear h hC
  go_enter Try.func39, Try.ntmps39
  go_wp2_with fail
  go_loopw [7, 8] (fun av bv wr => ∃ F : Nat → Int, Hid (Srt w0 wr g n F) ∧ ((av = .int .i64 0 ∧ bv = .int .i64 20 ∧ Hid (F = idF)) ∨ (av = .int .i64 20 ∧ bv = .int .i64 40 ∧ 20 ≤ n ∧ Hid (Tr n 0 20 idF F) ∧ Hid (SoF L 0 20 F)))) (fun _ b _ => 60 - (intOf b).toNat)
  case atStart => exact ⟨idF, H0, .inl ⟨rfl, rfl, Lib.hid rfl⟩⟩
  case round =>
    clear H0
    obtain ⟨F, HS, hrel⟩ := hrel
    rcases hrel with ⟨rfl, rfl, HF⟩ | ⟨rfl, rfl, h20, HT, HO⟩
    · by_cases hle : 20 ≤ n
      · have hle' : (20 : Int) ≤ (n : Int) := by omega
        have HI := Lib.hid (INS.out _ 0 20 F HS.out (by omega) hle (by rw [HF.out]; exact Vok.id n) (by rw [HF.out]; intro i j i1 i2 i3; unfold idF; omega))
        go_wp2_with fail
        refine HI.out.mono ?_
        rintro e w1 ⟨rfl, F1, hs, ht, ho⟩
        have HS1 := Lib.hid hs
        have HT1 := Lib.hid (show Tr n 0 20 idF F1 by rw [← HF.out]; exact ht)
        have HO1 := Lib.hid ho
        clear hs ht ho
        go_wp2_with fail
        go_roundw
        case rel => exact ⟨F1, HS1, .inr ⟨by go_num, by go_num, hle, HT1, HO1⟩⟩
        case measure => simp [intOf]
      · have hle' : ¬ (20 : Int) ≤ (n : Int) := by omega
        have HI := Lib.hid (INS.out _ 0 n F HS.out (by omega) (by omega) (by rw [HF.out]; exact Vok.id n) (by rw [HF.out]; intro i j i1 i2 i3; unfold idF; omega))
        go_wp2_with fail
        refine HI.out.mono ?_
        rintro e w1 ⟨rfl, F1, hs, ht, ho⟩
        have HS1 := Lib.hid hs
        have HT1 := Lib.hid (show Tr n 0 n idF F1 by rw [← HF.out]; exact ht)
        have HO1 := Lib.hid ho
        clear hs ht ho HS
        have hlt : ¬ (20 : Int) < (n : Int) := by omega
        go_wp2_with fail
        go_loopw [6] (fun bv wr => bv = .int .i64 20 ∧ Hid (Srt w0 wr g n F1)) (fun _ _ => 0)
        case atStart => exact ⟨rfl, HS1⟩
        case round =>
          obtain ⟨rfl, HS2⟩ := hrel
          go_wp2_with fail
          go_end0
          exact ⟨rfl, F1, HS2.out, HT1.out, HO1.out⟩
    · have hle' : ¬ (40 : Int) ≤ (n : Int) := by omega
      have HV := Lib.hid ((Vok.id n).tr HT.out (by omega))
      have HI := Lib.hid (INS.out _ 20 n F HS.out h20 (by omega) HV.out (by
        intro i j i1 i2 i3
        rw [HT.out.out i (by omega), HT.out.out j (by omega)]; unfold idF; omega))
      go_wp2_with fail
      refine HI.out.mono ?_
      rintro e w1 ⟨rfl, F1, hs, ht, ho⟩
      have HS1 := Lib.hid hs
      have HV1 := Lib.hid (HV.out.tr ht (by omega))
      have HT1 := Lib.hid ((HT.out.mono (Nat.le_refl _) h20).trans (ht.mono (Nat.zero_le _) (Nat.le_refl _)))
      have HM1 := Lib.hid (show Mg L F1 0 20 n from ⟨HO.out.same (fun i i1 i2 => ht.out i (by omega)), ho, fun i j i1 i2 j1 j2 => by
        rw [ht.out i (by omega)]
        obtain ⟨i', a1, a2, e1⟩ := HT.out.into i i1 i2
        obtain ⟨j', b1, b2, e2⟩ := ht.into j j1 j2
        rw [e1, e2, HT.out.out j' (by omega)]
        unfold idF
        omega⟩)
      clear hs ht ho HS
      go_wp2_with fail
      go_loopw [6] (fun bv wr => ∃ F : Nat → Int, Hid (Srt w0 wr g n F) ∧ ((bv = .int .i64 20 ∧ Hid (F = F1)) ∨ (bv = .int .i64 40 ∧ Hid (Tr n 0 n idF F) ∧ Hid (SoF L 0 n F)))) (fun b _ => 60 - (intOf b).toNat)
      case atStart => exact ⟨F1, HS1, .inl ⟨rfl, Lib.hid rfl⟩⟩
      case round =>
        clear HS1
        obtain ⟨F2, HS2, hrel⟩ := hrel
        rcases hrel with ⟨rfl, HF2⟩ | ⟨rfl, HT2, HO2⟩
        · by_cases hlt : 20 < n
          · have hlt' : (20 : Int) < (n : Int) := by omega
            obtain ⟨wo, hwo⟩ : ∃ wo, wo = wr := ⟨_, rfl⟩
            subst hwo
            go_wp2_with fail
            go_loopw [7, 8] (fun av bv wr => av = .int .i64 0 ∧ bv = .int .i64 40 ∧ Hid (Srt w0 wr g n F2)) (fun _ _ _ => 0)
            case atStart => exact ⟨by go_num, by go_num, HS2⟩
            case round =>
              clear HS2
              obtain ⟨rfl, rfl, HS2⟩ := hrel
              have HR := Lib.hid (SYM.out wr 0 20 n F2 (by omega) (by omega) hlt (Nat.le_refl _) HS2.out (by rw [HF2.out]; exact HV1.out) (by rw [HF2.out]; exact HM1.out))
              go_wp2_with fail
              refine HR.out.mono ?_
              rintro e w3 ⟨rfl, F3, hs, ht, ho⟩
              have HS3 := Lib.hid hs
              have HT3 := Lib.hid (HT1.out.trans (show Tr n 0 n F1 F3 by rw [← HF2.out]; exact ht))
              have HO3 := Lib.hid ho
              clear hs ht ho
              go_wp2_with fail
              go_roundw
              case rel => exact ⟨F3, HS3, .inr ⟨by go_num, HT3, HO3⟩⟩
              case measure => simp [intOf]
          · have hlt' : ¬ (20 : Int) < (n : Int) := by omega
            have hn20 : n = 20 := by omega
            have HO3 := Lib.hid (show SoF L 0 n F2 by rw [HF2.out, hn20]; exact HM1.out.A)
            have HT3 := Lib.hid (show Tr n 0 n idF F2 by rw [HF2.out]; exact HT1.out)
            clear hn20
            go_wp2_with fail
            go_end0
            exact ⟨rfl, F2, HS2.out, HT3.out, HO3.out⟩
        · have hlt' : ¬ (40 : Int) < (n : Int) := by omega
          go_wp2_with fail
          go_end0
          exact ⟨rfl, F2, HS2.out, HT2.out, HO2.out⟩
theorem sortStable_any {L : Int → Int → Bool} (hL : STot L) (w0 w : World) (g n c : Nat) (p2 p3 : Value) (h : Srt w0 w g n idF) (hC : CmpOk w0 g n p2 p3 L) (hn : n ≤ 39) :
    Calls Try.prog 25 #[.slice (some ⟨g, 0, none⟩) n c, cmpV p2 p3] w fun e w' => SrP L w0 g n 0 n idF e w' := by
  have ST := Lib.hid (stable_any hL w0 w g n c p2 p3 h hC hn)
  clear h hC
  go_enter Try.func25, Try.ntmps25
  go_wp2_with fail
  refine ST.out.mono ?_
  rintro e w1 ⟨rfl, F, h1, h2, h3⟩
  go_wp2_with fail
  go_end0
  exact ⟨rfl, F, h1, h2, h3⟩
end Go.Proofs.Ytmhmhbiihcdgiaa
