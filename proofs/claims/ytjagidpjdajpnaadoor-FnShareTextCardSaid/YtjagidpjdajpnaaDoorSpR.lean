/-
  spec.l18Read, spec.l01Split, spec.ReadShare: the walks.
-/
import Derived.Test.YtjagidpjdajpnaaDoorSpRP
import Derived.Test.YtjagidpjdajpnaaDoorShW
import Derived.Test.YtjagidpjdajpnaaDoorApp
import Derived.RegionTactic
import Derived.BigRegion
namespace Go.Proofs.YtjagidpjdajpnaaDoor
open Go.ChangeShapes Go.WideShapes Go.ChangeAt Go.RowKit
set_option linter.unusedVariables false
theorem byte_at (s : ByteArray) (k : Nat) (b : UInt8) (hk : k < s.size) (hb : s.data.toList.getD k 0 = b) (W : World) :
    (Instr.index 9 (.string s) (.int .i64 (k : Int))).run Tryd.prog W = .ok (.int .u8 (b.toNat : Int)) W := by
  rw [run_index_string W 9 s .i64 k Tryd.underlying9, dif_pos ⟨by omega, by omega⟩]
  congr 3
  rw [← hb]
  have hk2 : k < s.data.toList.length := by
    have := Lib.size_eq s
    omega
  rw [List.getD_eq_getElem?_getD, List.getElem?_eq_getElem hk2]
  cases s with
  | mk a => simp [ByteArray.getElem_eq_getElem_data]
theorem word_at (s : ByteArray) (f k : Nat) (hf : f ≤ k) (hk : k ≤ s.size) (W : World) :
    (Instr.slice 9 (.string s) (some (.int .i64 (f : Int))) (some (.int .i64 (k : Int))) none).run Tryd.prog W = .ok (.string (s.extract f k)) W := by
  have := run_slice_string (P := Tryd.prog) W 9 s .i64 .i64 f k Tryd.underlying9 (by omega) (by omega) (by omega)
  rw [this]
  simp
theorem drop_at {l : List UInt8} {k : Nat} (h : k < l.length) : l.drop k = l.getD k 0 :: l.drop (k + 1) := by
  rw [List.drop_eq_getElem_cons h, List.getD_eq_getElem?_getD, List.getElem?_eq_getElem h]
  rfl
set_option maxHeartbeats 1600000 in
theorem l18Read_any (s : ByteArray) (w : World) (hs : s.size ≤ 2000000) : Calls Tryd.prog 14 #[.string s] w fun e w' => e = .returned (.int .i64 (rdV s.data.toList)) ∧ w = w' := by
  have hsl : s.data.toList.length = s.size := (Lib.size_eq s).symm
  by_cases hA : s.size < 1
  · have HV := Lib.hid (show rdV s.data.toList = -1 by rw [rdV, if_pos (Or.inl (by omega))])
    have h1 : (s.size : Int) < 1 := by omega
    go_enter Tryd.func14, Tryd.ntmps14
    go_wp2_with fail
    go_ret
    exact ⟨by rw [HV.out]; rfl, rfl⟩
  by_cases hB : 16 < s.size
  · have HV := Lib.hid (show rdV s.data.toList = -1 by rw [rdV, if_pos (Or.inr (by omega))])
    have h1 : ¬ (s.size : Int) < 1 := by omega
    have h2 : (16 : Int) < s.size := by omega
    go_enter Tryd.func14, Tryd.ntmps14
    go_wp2_with fail
    go_ret
    exact ⟨by rw [HV.out]; rfl, rfl⟩
  have HV := Lib.hid (show rdV s.data.toList = rd18 s.data.toList 0 by rw [rdV, if_neg (by omega)])
  have h1 : ¬ (s.size : Int) < 1 := by omega
  have h2 : ¬ (16 : Int) < s.size := by omega
  have h3 : s.size ≤ 16 := by omega
  have BA := Lib.hid (byte_at s)
  have HL := Lib.hid hsl
  clear hsl hA hB
  go_enter Tryd.func14, Tryd.ntmps14
  go_wp2_with fail
  go_loop [3, 4] (fun n i => ∃ (k : Nat) (m : Int), n = .int .i64 m ∧ i = .int .i64 k ∧ k ≤ s.size ∧ 0 ≤ m ∧ Hid (m + 1 ≤ ((10 ^ k : Nat) : Int)) ∧ Hid (rdV s.data.toList = rd18 (s.data.toList.drop k) m)) (fun _ i => s.size - (intOf i).toNat)
  case atStart => exact ⟨0, 0, rfl, rfl, by omega, by omega, Lib.hid (by simp), Lib.hid (by rw [HV.out]; rfl)⟩
  case round =>
    obtain ⟨k, m, rfl, rfl, hk, hm0, HM, HR⟩ := hrel
    by_cases hlt : k < s.size
    · obtain ⟨b, hb⟩ : ∃ b, s.data.toList.getD k 0 = b := ⟨_, rfl⟩
      have hi := fun W => BA.out k b hlt hb W
      have hP : (10 : Nat) ^ k ≤ 1000000000000000 := Nat.le_trans (Nat.pow_le_pow_right (by omega) (show k ≤ 15 by omega)) (by decide)
      have HM1 := HM.out
      have hm1 : m ≤ 999999999999999 := by omega
      have HD := Lib.hid (show s.data.toList.drop k = b :: s.data.toList.drop (k + 1) by rw [drop_at (by rw [HL.out]; omega), hb])
      have hb2 : b.toNat < 256 := b.toNat_lt
      clear hb HM1 hP
      obtain ⟨d, hd⟩ : ∃ d : Nat, b.toNat = d := ⟨_, rfl⟩
      have hd' := Lib.hid hd
      rw [hd] at hi hb2
      clear hd
      by_cases hA : d < 48
      · have HV2 := Lib.hid (show rdV s.data.toList = -1 by rw [HR.out, HD.out, rd18, if_pos (Or.inl (by rw [hd'.out]; exact hA))])
        have e1 : (d : Int) < 48 := by omega
        go_wp2_with fail
        go_ret
        exact ⟨by rw [HV2.out]; rfl, rfl⟩
      · by_cases hB : 57 < d
        · have HV2 := Lib.hid (show rdV s.data.toList = -1 by rw [HR.out, HD.out, rd18, if_pos (Or.inr (by rw [hd'.out]; exact hB))])
          have e1 : ¬ (d : Int) < 48 := by omega
          have e2 : (57 : Int) < d := by omega
          go_wp2_with fail
          go_ret
          exact ⟨by rw [HV2.out]; rfl, rfl⟩
        · have e1 : ¬ (d : Int) < 48 := by omega
          have e2 : ¬ (57 : Int) < d := by omega
          have e3 : IntKind.u8.wrap ((d : Int) - 48) = (d : Int) - 48 := IntWalk.u8_in _ (by omega)
          have e4 : IntKind.i64.wrap ((d : Int) - 48) = (d : Int) - 48 := IntWalk.i64_in _ (by omega)
          have e5 : IntKind.i64.wrap (10 * m) = 10 * m := IntWalk.i64_in _ (by omega)
          have e6 : IntKind.i64.wrap (10 * m + ((d : Int) - 48)) = 10 * m + ((d : Int) - 48) := IntWalk.i64_in _ (by omega)
          go_wp2_with fail
          go_round
          case rel =>
            refine ⟨k + 1, 10 * m + ((d : Int) - 48), by go_num, by go_num, by omega, by omega, Lib.hid ?_, Lib.hid ?_⟩
            · have := HM.out
              rw [Nat.pow_succ]
              omega
            · rw [HR.out, HD.out, rd18, hd'.out, if_neg (by omega)]
          case measure => simp [intOf]; omega
    · have HV2 := Lib.hid (show rdV s.data.toList = m by
        have hk' : k = s.size := by omega
        rw [HR.out, hk', ← HL.out, List.drop_length]; rfl)
      go_wp2_with fail
      go_ret
      exact ⟨by rw [HV2.out]; rfl, rfl⟩
def wordV (l : List UInt8) : Value := .string ⟨l.toArray⟩
theorem info_str1 : (Tryd.prog.info? 9).map (fun i => (i.zero, i.size, i.bytes)) = some (some (.string ⟨#[]⟩), 1, 16) := by kernel_rfl
theorem word_cells {L : List (List UInt8)} : ∀ u ∈ L.map wordV, u.oneCell' = true := by
  intro u hu
  obtain ⟨l, _, rfl⟩ := List.mem_map.1 hu
  rfl
theorem word_list (s : ByteArray) (f k : Nat) (hf : f ≤ k) (hk : k ≤ s.size) : (Value.string (s.extract f k)) = wordV ((s.data.toList.drop f).take (k - f)) := by
  unfold wordV
  congr 1
  have e : (s.extract f k).data.toList = (s.data.toList.drop f).take (k - f) := by
    rw [ByteArray.data_extract, Array.toList_extract, List.extract_eq_take_drop]
  rw [← e]
theorem take_more {l : List UInt8} {f k : Nat} (hf : f ≤ k) (hk : k < l.length) : (l.drop f).take (k + 1 - f) = (l.drop f).take (k - f) ++ [l.getD k 0] := by
  have e : k + 1 - f = (k - f) + 1 := by omega
  rw [e, List.take_add_one, List.getElem?_drop, show f + (k - f) = k by omega, List.getD_eq_getElem?_getD, List.getElem?_eq_getElem hk]
  rfl
/-- what is left to be split -/
def splR (l : List UInt8) (f k : Nat) : List (List UInt8) := if k ≤ l.length then splA 47 ((l.drop f).take (k - f)) (l.drop k) else []
theorem splR_cut {l : List UInt8} {f k : Nat} (hk : k < l.length) (h : l.getD k 0 = 47) : splR l f k = (l.drop f).take (k - f) :: splR l (k + 1) (k + 1) := by
  rw [splR, if_pos (by omega), drop_at hk, h, splA, if_pos rfl, splR, if_pos (by omega), Nat.sub_self, List.take_zero]
theorem splR_on {l : List UInt8} {f k : Nat} (hf : f ≤ k) (hk : k < l.length) (h : l.getD k 0 ≠ 47) : splR l f k = splR l f (k + 1) := by
  rw [splR, if_pos (by omega), drop_at hk, splA, if_neg h, splR, if_pos (by omega), take_more hf hk]
theorem splR_end {l : List UInt8} {f : Nat} : splR l f l.length = [(l.drop f).take (l.length - f)] := by
  rw [splR, if_pos (by omega), List.drop_length, splA]
set_option maxHeartbeats 1600000 in
theorem l01Split_any (s : ByteArray) (w : World) (hs : s.size ≤ 2000000) : Calls Tryd.prog 13 #[.string s, .int .u8 47] w fun e w' =>
    ∃ (g cap n : Nat), e = .returned (.slice (some ⟨g, 0, none⟩) n cap) ∧ Own w' w.heap.size 9 1 g cap n ((splA 47 [] s.data.toList).map wordV) ∧ Below w.heap.size w w' := by
  have hsl : s.data.toList.length = s.size := (Lib.size_eq s).symm
  have HV := Lib.hid (show splR s.data.toList 0 0 = splA 47 [] s.data.toList by rw [splR, if_pos (by omega)]; rfl)
  have BA := Lib.hid (byte_at s)
  have WA := Lib.hid (word_at s)
  have WL := Lib.hid (word_list s)
  have HL := Lib.hid hsl
  clear hsl
  go_enter Tryd.func13, Tryd.ntmps13
  go_wp2_with fail
  go_loopw [5, 6, 7] (fun v ff kk wr => ∃ (g cap n f k : Nat) (L : List (List UInt8)), v = .slice (some ⟨g, 0, none⟩) n cap ∧ ff = .int .i64 f ∧ kk = .int .i64 k ∧ n ≤ f ∧ f ≤ s.size + 1 ∧ k ≤ s.size + 1 ∧ (k ≤ s.size → f ≤ k) ∧ Hid (Own wr w.heap.size 9 1 g cap n (L.map wordV)) ∧ Hid (Below w.heap.size w wr) ∧ Hid (L ++ splR s.data.toList f k = splA 47 [] s.data.toList)) (fun _ _ i _ => s.size + 1 - (intOf i).toNat)
  case atStart => exact ⟨w.heap.size, 0, 0, 0, 0, [], rfl, rfl, rfl, by omega, by omega, by omega, by omega, Lib.hid (Own.new w w.heap.size 9 1 #[] 0 (Nat.le_refl _) (by unfold maxLen; omega) rfl), Lib.hid ((Below.refl w.heap.size w).alloc (Nat.le_refl _) _), Lib.hid (by rw [List.nil_append, HV.out])⟩
  case round =>
    obtain ⟨g, cap, n, f, k, L, rfl, rfl, rfl, hn, hf, hk, hfk, HO, HB, HR⟩ := hrel
    by_cases hle : k ≤ s.size
    · have hfk2 := hfk hle
      have hle' : (k : Int) ≤ s.size := by omega
      have hz := HB.out.size
      have hlg := HO.out.ge
      have hw := fun W => WA.out f k hfk2 hle W
      obtain ⟨D, hD⟩ : ∃ D, s.extract f k = D := ⟨_, rfl⟩
      have hwl := Lib.hid (hD ▸ WL.out f k hfk2 hle)
      rw [hD] at hw
      clear hD hfk
      by_cases hlt : k < s.size
      · have hne : ¬ ((k : Int) = s.size) := by omega
        obtain ⟨b, hb⟩ : ∃ b, s.data.toList.getD k 0 = b := ⟨_, rfl⟩
        have hi := fun W => BA.out k b hlt hb W
        by_cases h47 : b = 47
        · subst h47
          have HS := Lib.hid (splR_cut (f := f) (by rw [HL.out]; omega) hb)
          have hbn : ((47 : UInt8).toNat : Int) = 47 := rfl
          rw [hbn] at hi
          clear hb hbn
          go_wp2_with (at_builtin; refine app_own rfl (.tmp 26) (.tmp 31) 33 rfl w.heap.size 9 (.string ⟨#[]⟩) 1 16 Tryd.underlying33 info_str1 rfl (by omega) (by omega) g cap n (L.map wordV) rfl (HO.out.alloc _) ⟨wr.heap.size, 0, none⟩ 1 1 [.string D] rfl rfl (one_news (one_cell _ _ _)) (by intro u hu; simp at hu; subst hu; rfl) (by omega) (by simp; omega) ?_; intro g1 p1 w1 ho1 hg1; have HB1 := Lib.hid ((HB.out.alloc hz (.cells #[.string D] 9)).grown hg1 (by simp; omega) (fun k e => by injection e with e; omega)); have HO1 := Lib.hid ho1; clear ho1 hg1)
          go_roundw
          case rel =>
            refine ⟨g1, p1, n + 1, k + 1, k + 1, L ++ [(s.data.toList.drop f).take (k - f)], rfl, by go_num, by go_num, by omega, by omega, by omega, by omega, Lib.hid ?_, HB1, Lib.hid ?_⟩
            · have := HO1.out
              rw [List.map_append, List.map_cons, List.map_nil, ← hwl.out]
              exact this
            · rw [List.append_assoc, List.singleton_append, ← HS.out, HR.out]
          case measure => simp [intOf]; omega
        · have HS := Lib.hid (splR_on hfk2 (by rw [HL.out]; omega) (by rw [hb]; exact h47))
          have hbn : ¬ b.toNat = 47 := fun e => h47 (UInt8.toNat_inj.1 (by
            have : (47 : UInt8).toNat = 47 := rfl
            omega))
          clear hb
          obtain ⟨d, hd⟩ : ∃ d : Nat, b.toNat = d := ⟨_, rfl⟩
          rw [hd] at hi hbn
          clear hd
          have hbn2 : ((d : Int) == 47) = false := by rw [beq_eq_false_iff_ne]; omega
          have hne2 : ((k : Int) == (s.size : Int)) = false := by rw [beq_eq_false_iff_ne]; omega
          go_wp2_with fail
          go_roundw
          case rel => exact ⟨g, cap, n, f, k + 1, L, rfl, rfl, by go_num, by omega, by omega, by omega, by omega, HO, HB, Lib.hid (by rw [← HS.out, HR.out])⟩
          case measure => simp [intOf]; omega
      · obtain rfl : k = s.size := by omega
        have HS := Lib.hid (show splR s.data.toList f s.size = [(s.data.toList.drop f).take (s.size - f)] by
          have hk' := HL.out
          rw [← hk', splR_end])
        go_wp2_with (at_builtin; refine app_own rfl (.tmp 26) (.tmp 31) 33 rfl w.heap.size 9 (.string ⟨#[]⟩) 1 16 Tryd.underlying33 info_str1 rfl (by omega) (by omega) g cap n (L.map wordV) rfl (HO.out.alloc _) ⟨wr.heap.size, 0, none⟩ 1 1 [.string D] rfl rfl (one_news (one_cell _ _ _)) (by intro u hu; simp at hu; subst hu; rfl) (by omega) (by simp; omega) ?_; intro g1 p1 w1 ho1 hg1; have HB1 := Lib.hid ((HB.out.alloc hz (.cells #[.string D] 9)).grown hg1 (by simp; omega) (fun k e => by injection e with e; omega)); have HO1 := Lib.hid ho1; clear ho1 hg1)
        go_roundw
        case rel =>
          refine ⟨g1, p1, n + 1, s.size + 1, s.size + 1, L ++ [(s.data.toList.drop f).take (s.size - f)], rfl, by go_num, by go_num, by omega, by omega, by omega, by omega, Lib.hid ?_, HB1, Lib.hid ?_⟩
          · have := HO1.out
            rw [List.map_append, List.map_cons, List.map_nil, ← hwl.out]
            exact this
          · rw [← HR.out, HS.out, splR, if_neg (by rw [HL.out]; omega), List.append_nil]
        case measure => simp [intOf]
    · have HS := Lib.hid (show L = splA 47 [] s.data.toList by
        rw [← HR.out, splR, if_neg (by rw [HL.out]; omega), List.append_nil])
      have hle' : ¬ (k : Int) ≤ s.size := by omega
      go_wp2_with fail
      go_ret
      exact ⟨g, cap, n, rfl, by rw [← HS.out]; exact HO.out, HB.out⟩
theorem specR_no {s : ByteArray} {L : List (List UInt8)} (h : splA 47 [] s.data.toList = L) (hl : L.length ≠ 2) : specR s = (0, 0, false) := by
  unfold specR
  rw [h]
  match L, hl with
  | [], _ => rfl
  | [_], _ => rfl
  | [_, _], hl => exact absurd rfl hl
  | _ :: _ :: _ :: _, _ => rfl
theorem specR_two {s : ByteArray} {a b : List UInt8} (h : splA 47 [] s.data.toList = [a, b]) : specR s = if shB (rdV a) (rdV b) = true ∧ shT (rdV a) (rdV b) = s then (rdV a, rdV b, true) else (0, 0, false) := by
  unfold specR
  rw [h]
theorem splA_len {c : UInt8} : ∀ (l cur : List UInt8), (splA c cur l).length ≤ l.length + 1 ∧ ∀ a ∈ splA c cur l, a.length ≤ cur.length + l.length
  | [], cur => by simp [splA]
  | b :: l, cur => by
    rw [splA]
    split
    · have ih := splA_len (c := c) l []
      refine ⟨by simp only [List.length_cons]; omega, fun a ha => ?_⟩
      rcases List.mem_cons.1 ha with rfl | ha
      · simp
      · have := ih.2 a ha
        simp only [List.length_cons, List.length_nil] at this ⊢
        omega
    · have ih := splA_len (c := c) l (cur ++ [b])
      refine ⟨by simp only [List.length_cons]; omega, fun a ha => ?_⟩
      have := ih.2 a ha
      simp only [List.length_append, List.length_cons, List.length_nil] at this ⊢
      omega
set_option maxHeartbeats 1600000 in
theorem spec_ReadShare_any (s : ByteArray) (w : World) (hs : s.size ≤ 2000000) :
    Calls Tryd.prog 5 #[.string s] w fun e w' => e = .returned (.tuple #[shV (rdS s).1 (rdS s).2.1, .bool (rdS s).2.2]) ∧ Below w.heap.size w w' := by
  have HE := Lib.hid (specR_eq s)
  have HB0 := Lib.hid ((Below.refl w.heap.size w).alloc (Nat.le_refl _) (.cells #[.int .i64 0, .int .i64 0] 23))
  have RX := Lib.hid (two_new w 0 0 23)
  have SP := Lib.hid (fun W => l01Split_any s W hs)
  have hsl : s.data.toList.length = s.size := (Lib.size_eq s).symm
  have hlen := splA_len (c := 47) s.data.toList []
  go_enter Tryd.func5, Tryd.ntmps5
  go_wp2_with fail
  refine (SP.out _).mono ?_
  rintro e w1 ⟨g, cap, n, rfl, ho, hb⟩
  have HB1 := Lib.hid (HB0.out.trans (hb.mono HB0.out.size))
  have X1 := Lib.hid (rowIs_below RX.out hb RX.out.lt)
  have hn := ho.len
  rw [List.length_map, Nat.mul_one] at hn
  have hgl := ho.ge
  simp only [World.size_alloc] at hgl
  have hrow := ho.row
  clear hb SP
  by_cases hn2 : n = 2
  · subst hn2
    obtain ⟨a, b, hL⟩ : ∃ a b, splA 47 [] s.data.toList = [a, b] := by
      match h : splA 47 [] s.data.toList, hn with
      | [a, b], _ => exact ⟨a, b, rfl⟩
    have HV := Lib.hid (specR_two hL)
    rw [hL] at hrow hlen
    have za : (⟨a.toArray⟩ : ByteArray).size ≤ 2000000 := by
      have := hlen.2 a (by simp)
      rw [Lib.size_eq]
      simp only [List.length_nil] at this ⊢
      omega
    have zb : (⟨b.toArray⟩ : ByteArray).size ≤ 2000000 := by
      have := hlen.2 b (by simp)
      rw [Lib.size_eq]
      simp only [List.length_nil] at this ⊢
      omega
    have LA := Lib.hid (fun W => l18Read_any ⟨a.toArray⟩ W za)
    have LB := Lib.hid (fun W => l18Read_any ⟨b.toArray⟩ W zb)
    simp only [] at LA LB
    obtain ⟨gg, hge, _, _, _, hcells⟩ := hrow.blk (by omega)
    injection hge with hge
    injection hge with hge
    subst hge
    have k0 := (hcells 0 (by omega)).1
    have k1 := (hcells 1 (by omega)).1
    simp only [List.map_cons, List.map_nil, List.getD_cons_zero, List.getD_cons_succ, wordV] at k0 k1
    obtain ⟨A, hA⟩ : ∃ A : ByteArray, ⟨a.toArray⟩ = A := ⟨_, rfl⟩
    obtain ⟨B, hB⟩ : ∃ B : ByteArray, ⟨b.toArray⟩ = B := ⟨_, rfl⟩
    obtain ⟨x, hx⟩ : ∃ x, rdV a = x := ⟨_, rfl⟩
    obtain ⟨y, hy⟩ : ∃ y, rdV b = y := ⟨_, rfl⟩
    rw [hA] at LA k0
    rw [hB] at LB k1
    have LA' : Hid (∀ W : World, Calls Tryd.prog 14 #[.string A] W fun e w' => e = .returned (.int .i64 x) ∧ W = w') := Lib.hid (fun W => by
      have := LA.out W
      rw [← hA] at this
      rw [← hA, ← hx]
      exact this)
    have LB' : Hid (∀ W : World, Calls Tryd.prog 14 #[.string B] W fun e w' => e = .returned (.int .i64 y) ∧ W = w') := Lib.hid (fun W => by
      have := LB.out W
      rw [← hB] at this
      rw [← hB, ← hy]
      exact this)
    rw [hx, hy] at HV
    clear LA LB hx hy hA hB za zb hcells hrow hL hlen hn ho
    have d0 : w1.drew.cell? ⟨g, 0, none⟩ = some (.string A) := k0
    have d1 : w1.drew.cell? ⟨g, 1, none⟩ = some (.string B) := k1
    have HBd := Lib.hid (show Below w.heap.size w w1.drew from below_drewN HB1.out 1)
    have Xa : Hid ((w1.alloc (.cells #[.int .i64 x, .int .i64 y] 23)).drew.rowIs w.heap.size 23 2 (two 0 0)) := Lib.hid (X1.out.alloc _)
    have Nd : Hid ((w1.alloc (.cells #[.int .i64 x, .int .i64 y] 23)).drew.rowIs w1.heap.size 23 2 (two x y)) := Lib.hid (two_new w1 x y 23)
    have HBa : Hid (Below w.heap.size w (w1.alloc (.cells #[.int .i64 x, .int .i64 y] 23)).drew) := Lib.hid (below_drewN (HB1.out.alloc HB1.out.size _) 1)
    obtain ⟨K, hK⟩ : ∃ K, shB x y = K := ⟨_, rfl⟩
    obtain ⟨T, hT⟩ : ∃ T, shT x y = T := ⟨_, rfl⟩
    have IS := Lib.hid (fun W => hK ▸ spec_IsShare_any x y W)
    have ST := Lib.hid (fun W => hT ▸ spec_ShareText_any x y W)
    rw [hK, hT] at HV
    have hw1 : w.heap.size < w1.heap.size := by omega
    clear hK hT
    go_wp2_with fail
    go_region_held3 (fun w' => w'.cell? ⟨g, 0, none⟩ = some (.string A) ∧ w'.cell? ⟨g, 1, none⟩ = some (.string B))
      (go_keep)
      (first
        | (go_at_call 14; (with_reducible refine (LA'.out _).mono ?_); rintro e w2 ⟨rfl, rfl⟩)
        | (go_at_call 14; (with_reducible refine (LB'.out _).mono ?_); rintro e w2 ⟨rfl, rfl⟩))
    all_goals
      obtain ⟨c0, c1, f0, f1⟩ := two_cells Nd.out
      obtain ⟨y0, y1, _, _⟩ := two_cells Xa.out
      have q0 := Xa.out.frozen 0
      have q1 := Xa.out.frozen 1
      cases K
      · go_wp2_with fail
        refine (IS.out _).mono ?_
        rintro e w2 ⟨rfl, hb⟩
        have X2 := Lib.hid (rowIs_below Xa.out hb Xa.out.lt)
        have HB2 := Lib.hid (HBa.out.trans (hb.mono HBa.out.size))
        clear hb y0 y1 q0 q1 c0 c1 f0 f1
        obtain ⟨y0, y1, q0, q1⟩ := two_cells X2.out
        go_wp2_with fail
        obtain ⟨z0, z1, _, _⟩ := two_cells (two_set X2.out 0 0)
        refine bodyPost_ret (v := .tuple #[shV 0 0, .bool false]) (by simp [results, Tryd.results5, go_sem, z0, z1]) rfl ⟨by rw [← HE.out, HV.out]; simp, (HB2.out.setCell (by simp) _).setCell (by simp) _⟩
      · go_wp2_with fail
        refine (IS.out _).mono ?_
        rintro e w2 ⟨rfl, hb⟩
        have X2 := Lib.hid (rowIs_below Xa.out hb Xa.out.lt)
        have N2 := Lib.hid (rowIs_below Nd.out hb Nd.out.lt)
        have HB2 := Lib.hid (HBa.out.trans (hb.mono HBa.out.size))
        clear hb y0 y1 q0 q1 c0 c1 f0 f1
        obtain ⟨c0, c1, f0, f1⟩ := two_cells N2.out
        go_wp2_with fail
        refine (ST.out _).mono ?_
        rintro e w3 ⟨rfl, hb⟩
        have X3 := Lib.hid (rowIs_below X2.out hb X2.out.lt)
        have N3 := Lib.hid (rowIs_below N2.out hb N2.out.lt)
        have HB3 := Lib.hid (HB2.out.trans (hb.mono HB2.out.size))
        clear hb c0 c1 f0 f1
        obtain ⟨c0, c1, f0, f1⟩ := two_cells N3.out
        obtain ⟨y0, y1, q0, q1⟩ := two_cells X3.out
        by_cases hT : T = s
        · subst hT
          go_wp2_with fail
          obtain ⟨z0, z1, _, _⟩ := two_cells (two_set X3.out x y)
          refine bodyPost_ret (v := .tuple #[shV x y, .bool true]) (by simp [results, Tryd.results5, go_sem, z0, z1]) rfl ⟨by rw [← HE.out, HV.out]; simp, (HB3.out.setCell (by simp) _).setCell (by simp) _⟩
        · have hq : (T.toList == s.toList) = false := by
            rw [beq_eq_false_iff_ne, ByteArray.toList_eq, ByteArray.toList_eq]
            intro e
            exact hT (by
              cases s with
              | mk a => cases T with
                | mk b => exact congrArg ByteArray.mk (Array.toList_inj.1 e))
          go_wp2_with fail
          obtain ⟨z0, z1, _, _⟩ := two_cells (two_set X3.out 0 0)
          refine bodyPost_ret (v := .tuple #[shV 0 0, .bool false]) (by simp [results, Tryd.results5, go_sem, z0, z1]) rfl ⟨by rw [← HE.out, HV.out, if_neg (fun h => hT h.2)], (HB3.out.setCell (by simp) _).setCell (by simp) _⟩
  · have HV := Lib.hid (specR_no (s := s) rfl (by rw [hn]; exact hn2))
    have hn3 : ¬ ((n : Int) = 2) := by omega
    have hn4 : ((n : Int) == 2) = false := by rw [beq_eq_false_iff_ne]; omega
    obtain ⟨c0, c1, _, _⟩ := two_cells X1.out
    have fz := X1.out.frozen 0
    have fz1 := X1.out.frozen 1
    clear hrow hlen hn ho
    go_wp2_with fail
    obtain ⟨z0, z1, _, _⟩ := two_cells (two_set X1.out 0 0)
    refine bodyPost_ret (v := .tuple #[shV 0 0, .bool false]) (by simp [results, Tryd.results5, go_sem, z0, z1]) rfl ⟨by rw [← HE.out, HV.out], (HB1.out.setCell (by simp) _).setCell (by simp) _⟩
end Go.Proofs.YtjagidpjdajpnaaDoor
