/-
  impl.WorstChoices: the walk.
-/
import Derived.Test.YtmhmhbiihcdgiaaWcP
import Derived.Test.YtmhmhbiihcdgiaaRes
import Derived.Test.YtmhmhbiihcdgiaaApp
namespace Go.Proofs.Ytmhmhbiihcdgiaa
open Go.ChangeShapes Go.WideShapes Go.ChangeAt Go.RowKit Go.Deep
set_option linter.unusedVariables false

/-- i put into a sorted list -/
def insA (L : Int → Int → Bool) (i : Int) : List Int → List Int
  | [] => [i]
  | y :: ys => if L i y then i :: y :: ys else y :: insA L i ys
/-- the numbers below n, sorted -/
def wcY (L : Int → Int → Bool) : Nat → List Int
  | 0 => []
  | n + 1 => insA L n (wcY L n)
theorem insA_perm (L : Int → Int → Bool) (i : Int) : ∀ ys, (insA L i ys).Perm (i :: ys)
  | [] => .refl _
  | y :: ys => by
    rw [insA]
    split
    · exact .refl _
    · exact ((insA_perm L i ys).cons y).trans (.swap i y ys)
theorem insA_pw {L : Int → Int → Bool} (hL : STot L) {i : Int} : ∀ {ys : List Int}, i ∉ ys → ys.Pairwise (fun x y => L x y = true) → (insA L i ys).Pairwise (fun x y => L x y = true)
  | [], _, _ => by simp [insA]
  | y :: ys, hi, h => by
    rw [List.pairwise_cons] at h
    rw [List.mem_cons, not_or] at hi
    rw [insA]
    split
    · rename_i hl
      rw [List.pairwise_cons]
      refine ⟨fun z hz => ?_, by rw [List.pairwise_cons]; exact h⟩
      rcases List.mem_cons.1 hz with rfl | hz
      · exact hl
      · exact hL.tra _ _ _ hl (h.1 z hz)
    · rename_i hl
      rw [List.pairwise_cons]
      refine ⟨fun z hz => ?_, insA_pw hL hi.2 h.2⟩
      have := (insA_perm L i ys).mem_iff.1 hz
      rcases List.mem_cons.1 this with rfl | hz
      · exact hL.tot _ _ hi.1 (by simpa using hl)
      · exact h.1 z hz
theorem lsF_succ (n : Nat) (f : Nat → Int) : lsF (n + 1) f = lsF n f ++ [f n] := by simp [lsF, List.range_succ]
theorem mem_id {n : Nat} {x : Int} : x ∈ lsF n idF ↔ 0 ≤ x ∧ x < n := by
  unfold lsF idF
  rw [List.mem_map]
  constructor
  · rintro ⟨k, hk, rfl⟩
    have := List.mem_range.1 hk
    omega
  · intro h
    exact ⟨x.toNat, List.mem_range.2 (by omega), by omega⟩
theorem wcY_ok {L : Int → Int → Bool} (hL : STot L) : ∀ n, (wcY L n).Perm (lsF n idF) ∧ (wcY L n).Pairwise (fun x y => L x y = true)
  | 0 => ⟨by simp [wcY, lsF], by simp [wcY]⟩
  | n + 1 => by
    obtain ⟨h1, h2⟩ := wcY_ok hL n
    have hn : (n : Int) ∉ wcY L n := fun h => by
      have := mem_id.1 (h1.mem_iff.1 h)
      omega
    refine ⟨?_, insA_pw hL hn h2⟩
    rw [wcY, lsF_succ]
    exact (insA_perm L n _).trans ((h1.cons _).trans (List.perm_append_comm (l₁ := [(n : Int)]) (l₂ := lsF n idF)))
theorem wcY_len {L : Int → Int → Bool} (hL : STot L) (n : Nat) : (wcY L n).length = n := by
  rw [(wcY_ok hL n).1.length_eq, lsF_len]
theorem wcY_of {L : Int → Int → Bool} (hL : STot L) {n : Nat} {f : Nat → Int} (ht : Tr n 0 n idF f) (hs : SoF L 0 n f) : lsF n f = wcY L n :=
  sorted_one hL _ _ (ht.perm.trans (wcY_ok hL n).1.symm) hs.pw (wcY_ok hL n).2
/-- the code of a variant and a list -/
def wcC (p c h s : Int) (n : Nat) (xs : List Int) : Int := if vrB p c h s then (if 30 < n then 3 else if exA s xs n then 0 else 2) else 1
/-- what both packages' WorstChoices leave -/
def WcPost (p c h s : Int) (n : Nat) (xs : List Int) (w : World) (e : Ending) (w' : World) : Prop :=
  (wcC p c h s n xs ≠ 0 ∧ e = .returned (.tuple #[.slice none 0 0, .int .i64 (wcC p c h s n xs)]) ∧ Below w.heap.size w w') ∨
  (wcC p c h s n xs = 0 ∧ ∃ (a : Option Addr) (cap : Nat), e = .returned (.tuple #[.slice a n cap, .int .i64 0]) ∧ RowN w' w.heap.size w'.heap.size 2 a n (icell .i64 (wcY (wcL (s * s) xs) n)) ∧ Below w.heap.size w w')
/-- the program's own says the capacity too -/
def WcPostC (p c h s : Int) (n : Nat) (xs : List Int) (w : World) (e : Ending) (w' : World) : Prop :=
  (wcC p c h s n xs ≠ 0 ∧ e = .returned (.tuple #[.slice none 0 0, .int .i64 (wcC p c h s n xs)]) ∧ Below w.heap.size w w') ∨
  (wcC p c h s n xs = 0 ∧ ∃ a : Option Addr, e = .returned (.tuple #[.slice a n n, .int .i64 0]) ∧ RowN w' w.heap.size w'.heap.size 2 a n (icell .i64 (wcY (wcL (s * s) xs) n)) ∧ Below w.heap.size w w')
theorem WcPostC.to {p c h s : Int} {n : Nat} {xs : List Int} {w w' : World} {e : Ending} (H : WcPostC p c h s n xs w e w') : WcPost p c h s n xs w e w' := by
  rcases H with H | ⟨h1, a, h2⟩
  · exact .inl H
  · exact .inr ⟨h1, a, n, h2⟩
theorem ret_code {x : Int} {n : Nat} {a : Option Addr} {C : Int} (h : C = x) : Ending.returned (.tuple #[.slice a n 0, .int .i64 x]) = Ending.returned (.tuple #[.slice a n 0, .int .i64 C]) := by rw [h]
theorem make_i64w (n : Nat) (hn : n ≤ 1048576) (W : World) : (Instr.makeSlice 26 (.int .i64 (n : Int)) (.int .i64 (n : Int))).run Try.prog W = .ok (.slice (some ⟨W.heap.size, 0, none⟩) n n) (W.alloc (.cells (madeCells #[.int .i64 0] n) 2)) :=
  run_make_row' (P := Try.prog) 26 2 (.int .i64 0) 8 Try.underlying26 info_int rfl .i64 .i64 n (by omega) (by omega) W
theorem lsF_row {n : Nat} {f : Nat → Int} {ys : List Int} (h : lsF n f = ys) : ∀ i, i < n → rwF f i = icell .i64 ys i := by
  intro i hi
  rw [← h]
  unfold icell rwF lsF
  rw [List.getD_eq_getElem?_getD, List.getElem?_map, List.getElem?_range hi]
  rfl
set_option maxHeartbeats 3200000 in
theorem impl_WorstChoices_cap (p c h s : Int) (b n cap : Nat) (xs : List Int) (w : World) (hb : b < w.heap.size) (hn : n ≤ 1048576) (hc0 : ∀ i, i < n * 2 → w.cell? ⟨b, i, none⟩ = some (.int .i64 (xs.getD i 0))) (hwf : ∀ k, k < n → xs.getD (k * 2 + 1) 0 ≤ 9223372036854775807) :
    Calls Try.prog 9 #[vrV p c h s, .slice (some ⟨b, 0, none⟩) n cap] w fun e w' => WcPostC p c h s n xs w e w' := by
  have HC := Lib.hid hc0
  have HW := Lib.hid hwf
  clear hc0 hwf
  have HB0 := Lib.hid (((Below.refl w.heap.size w).alloc (Nat.le_refl _) (.cells #[.int .i64 p, .int .i64 c, .int .i64 h, .int .i64 s] 29)).alloc (by simp) (.cells #[.slice (some ⟨b, 0, none⟩) n cap] 31))
  have R0 := Lib.hid ((q4_new w (.int .i64 p) (.int .i64 c) (.int .i64 h) (.int .i64 s) 29).alloc (.cells #[.slice (some ⟨b, 0, none⟩) n cap] 31))
  have X0 := Lib.hid (show ((w.alloc (.cells #[.int .i64 p, .int .i64 c, .int .i64 h, .int .i64 s] 29)).alloc (.cells #[.slice (some ⟨b, 0, none⟩) n cap] 31)).rowIs (w.heap.size + 1) 31 1 (fun _ => .slice (some ⟨b, 0, none⟩) n cap) by
    have := World.rowIs_alloc (w.alloc (.cells #[.int .i64 p, .int .i64 c, .int .i64 h, .int .i64 s] 29)) #[.slice (some ⟨b, 0, none⟩) n cap] 31 (fun _ => .slice (some ⟨b, 0, none⟩) n cap) (fun j hj => by
      match j, hj with
      | 0, _ => rfl)
    rw [World.size_alloc] at this
    exact this)
  obtain ⟨K, hK⟩ : ∃ K, vrB p c h s = K := ⟨_, rfl⟩
  have IV := Lib.hid (fun W => hK ▸ impl_IsVariant_any p c h s W)
  cases K
  · have HV := Lib.hid (show wcC p c h s n xs = 1 by rw [wcC, hK]; rfl)
    clear hK
    go_enter Try.func9, Try.ntmps9
    obtain ⟨v0, v1, v2, v3⟩ := q4_cells R0.out
    go_wp2_with fail
    (with_reducible refine (IV.out _).mono ?_)
    rintro e w1 ⟨rfl, hb1⟩
    have HB1 := Lib.hid (HB0.out.trans (hb1.mono HB0.out.size))
    clear hb1 v0 v1 v2 v3
    go_wp2_with fail
    go_ret2
    exact .inl ⟨by rw [HV.out]; decide, ret_code HV.out, HB1.out⟩
  have HK := Lib.hid hK
  obtain ⟨_, _, _, s1, s6⟩ := vrB_true.1 hK
  by_cases h30 : 30 < n
  · have HV := Lib.hid (show wcC p c h s n xs = 3 by rw [wcC, hK, if_pos rfl, if_pos h30])
    have h30' : (30 : Int) < n := by omega
    clear hK
    go_enter Try.func9, Try.ntmps9
    obtain ⟨v0, v1, v2, v3⟩ := q4_cells R0.out
    go_wp2_with fail
    (with_reducible refine (IV.out _).mono ?_)
    rintro e w1 ⟨rfl, hb1⟩
    have HB1 := Lib.hid (HB0.out.trans (hb1.mono HB0.out.size))
    have X1 := Lib.hid (rowIs_below X0.out hb1 X0.out.lt)
    clear hb1 v0 v1 v2 v3
    have x0 := X1.out.cell (i := 0) (by omega)
    go_wp2_with fail
    go_ret2
    exact .inl ⟨by rw [HV.out]; decide, ret_code HV.out, HB1.out⟩
  have h30' : ¬ (30 : Int) < n := by omega
  have CH := Lib.hid (fun W (hW : Below w.heap.size w W) => checkExactsN_any p c h s b 0 n cap xs W (by omega) (by have := hW.size; omega) (fun i hi => by rw [Nat.zero_add]; exact (hW.cell (p := ⟨b, i, none⟩) hb).trans (HC.out i hi)) HW.out)
  have hch : chN p c h s n xs = if exA s xs n then 0 else 2 := by rw [chN, hK]; rfl
  obtain ⟨E, hE⟩ : ∃ E, exA s xs n = E := ⟨_, rfl⟩
  cases E
  · have HV := Lib.hid (show wcC p c h s n xs = 2 by rw [wcC, hK, if_pos rfl, if_neg h30, hE]; rfl)
    rw [hE] at hch
    rw [hch] at CH
    clear hK hE hch
    go_enter Try.func9, Try.ntmps9
    obtain ⟨v0, v1, v2, v3⟩ := q4_cells R0.out
    go_wp2_with fail
    (with_reducible refine (IV.out _).mono ?_)
    rintro e w1 ⟨rfl, hb1⟩
    have HB1 := Lib.hid (HB0.out.trans (hb1.mono HB0.out.size))
    have R1 := Lib.hid (rowIs_below R0.out hb1 R0.out.lt)
    have X1 := Lib.hid (rowIs_below X0.out hb1 X0.out.lt)
    clear hb1 v0 v1 v2 v3
    have x0 := X1.out.cell (i := 0) (by omega)
    obtain ⟨v0, v1, v2, v3⟩ := q4_cells R1.out
    go_wp2_with fail
    (with_reducible refine (CH.out _ HB1.out).mono ?_)
    rintro e w2 ⟨rfl, hb1⟩
    have HB2 := Lib.hid (HB1.out.trans (hb1.mono HB1.out.size))
    clear hb1 v0 v1 v2 v3 x0
    go_wp2_with fail
    go_ret2
    exact .inl ⟨by rw [HV.out]; decide, ret_code HV.out, HB2.out⟩
  · have HV := Lib.hid (show wcC p c h s n xs = 0 by rw [wcC, hK, if_pos rfl, if_neg h30, hE]; rfl)
    have HX := Lib.hid (exA_all n hE)
    rw [hE] at hch
    rw [hch] at CH
    clear hK hE hch
    go_enter Try.func9, Try.ntmps9
    obtain ⟨v0, v1, v2, v3⟩ := q4_cells R0.out
    go_wp2_with fail
    (with_reducible refine (IV.out _).mono ?_)
    rintro e w1 ⟨rfl, hb1⟩
    have HB1 := Lib.hid (HB0.out.trans (hb1.mono HB0.out.size))
    have R1 := Lib.hid (rowIs_below R0.out hb1 R0.out.lt)
    have X1 := Lib.hid (rowIs_below X0.out hb1 X0.out.lt)
    clear hb1 v0 v1 v2 v3
    have x0 := X1.out.cell (i := 0) (by omega)
    obtain ⟨v0, v1, v2, v3⟩ := q4_cells R1.out
    go_wp2_with fail
    (with_reducible refine (CH.out _ HB1.out).mono ?_)
    rintro e w2 ⟨rfl, hb1⟩
    have HB2 := Lib.hid (HB1.out.trans (hb1.mono HB1.out.size))
    have R2 := Lib.hid (rowIs_below R1.out hb1 R1.out.lt)
    have X2 := Lib.hid (rowIs_below X1.out hb1 X1.out.lt)
    clear hb1 v0 v1 v2 v3 x0
    have x0 := X2.out.cell (i := 0) (by omega)
    have hmk := make_i64w n hn
    have hl2 := X2.out.lt
    go_wp2_with fail
    go_loopw [26] (fun iv wr => ∃ (i : Nat) (F : Nat → Int), iv = .int .i64 i ∧ i ≤ n ∧ Hid (wr.rowIs w2.heap.size 2 n (rwF F)) ∧ Hid (∀ j, j < i → F j = (j : Int)) ∧ Hid (Below w2.heap.size w2 wr)) (fun i _ => n - (intOf i).toNat)
    case atStart => exact ⟨0, fun _ => 0, rfl, Nat.zero_le _, Lib.hid ((World.rowIs_made w2 _ n _).congr (fun i hi => rfl)), Lib.hid (fun j hj => absurd hj (by omega)), Lib.hid ((Below.refl _ _).alloc (Nat.le_refl _) _)⟩
    case round =>
      clear x0
      obtain ⟨i, F, rfl, hi, HR, HF, HB⟩ := hrel
      by_cases hlt : i < n
      · have hlt' : (i : Int) < (n : Int) := by omega
        have cy := HR.out.cell hlt
        have fz := HR.out.frozen i
        obtain ⟨y, hy⟩ : ∃ y, rwF F i = y := ⟨_, rfl⟩
        rw [hy] at cy
        clear hy
        go_wp2_with fail
        go_roundw
        case rel =>
          refine ⟨i + 1, fun j => if j = i then (i : Int) else F j, by go_num, by omega, Lib.hid ((HR.out.set i (.int .i64 (i : Int))).congr (fun j hj => ?_)), Lib.hid (fun j hj => ?_), Lib.hid (HB.out.setCell (Nat.le_refl _) _)⟩
          · show (if j = i then _ else _) = Value.int .i64 (if j = i then (i : Int) else F j)
            by_cases e : j = i
            · rw [if_pos e, if_pos e]
            · rw [if_neg e, if_neg e]; rfl
          · show (if j = i then (i : Int) else F j) = _
            by_cases e : j = i
            · rw [if_pos e, e]
            · rw [if_neg e]; exact HF.out j (by omega)
        case measure => simp [intOf]; omega
      · have hlt' : ¬ (i : Int) < (n : Int) := by omega
        have HS := Lib.hid (show Srt wr wr w2.heap.size n idF from ⟨HR.out.congr (fun j hj => by show Value.int .i64 (F j) = Value.int .i64 (idF j); rw [HF.out j (by omega)]; rfl), by_refl _ _⟩)
        have hB3 := HB2.out.trans (HB.out.mono HB2.out.size)
        have hsz := HB2.out.size
        have HCM := Lib.hid (show CmpOk wr w2.heap.size n (.pointer (some ⟨w.heap.size, 0, none⟩)) (.pointer (some ⟨w.heap.size + 1, 0, none⟩)) (wcL (s * s) xs) from fun W hW x y x0 xy yn => by
          obtain ⟨i, rfl⟩ := Int.eq_ofNat_of_zero_le x0
          obtain ⟨j, rfl⟩ := Int.eq_ofNat_of_zero_le (show 0 ≤ y by omega)
          have hR3 := rowIs_below R2.out HB.out R2.out.lt
          have hX3 := rowIs_below X2.out HB.out X2.out.lt
          have g1 := hW.block w.heap.size hR3.lt (fun e => by injection e with e; omega)
          have g2 := hW.block (w.heap.size + 1) hX3.lt (fun e => by injection e with e; omega)
          have hR4 := hR3.of_block g1
          have hX4 := hX3.of_block g2
          exact closure_any p c h s b n cap w.heap.size (w.heap.size + 1) xs W s1 s6 (by have := hB3.size; have := hW.size; omega)
            (fun k hk => (by_cell hW (p := ⟨b, k, none⟩) (by have := hB3.size; show b < _; omega) (by show b ≠ _; omega)).trans ((hB3.cell (p := ⟨b, k, none⟩) hb).trans (HC.out k hk)))
            HX.out hR4 (hX4.cell (i := 0) (by omega)) (by omega) i j (by omega) (by omega) (by omega))
        have SO := Lib.hid (sortStable_any (wcL_tot (s * s) xs) wr wr w2.heap.size n n _ _ HS.out HCM.out (by omega))
        have HB3 := Lib.hid hB3
        clear hB3
        go_wp2_with fail
        refine SO.out.mono ?_
        rintro e w4 ⟨rfl, F', hs, ht, ho⟩
        have HB4 := Lib.hid (HB3.out.grown hs.by' HB3.out.size (fun k e => by injection e with e; omega))
        have HRW := Lib.hid (hs.row.congr (lsF_row (wcY_of (wcL_tot (s * s) xs) ht ho)))
        clear hs ht ho
        go_wp2_with fail
        go_ret2
        exact .inr ⟨HV.out, _, rfl, .of_row HRW.out (by omega) HRW.out.lt, HB4.out⟩
theorem impl_WorstChoices_any (p c h s : Int) (b n cap : Nat) (xs : List Int) (w : World) (hb : b < w.heap.size) (hn : n ≤ 1048576) (hc0 : ∀ i, i < n * 2 → w.cell? ⟨b, i, none⟩ = some (.int .i64 (xs.getD i 0))) (hwf : ∀ k, k < n → xs.getD (k * 2 + 1) 0 ≤ 9223372036854775807) :
    Calls Try.prog 9 #[vrV p c h s, .slice (some ⟨b, 0, none⟩) n cap] w fun e w' => WcPost p c h s n xs w e w' :=
  (impl_WorstChoices_cap p c h s b n cap xs w hb hn hc0 hwf).mono fun _ _ H => H.to
end Go.Proofs.Ytmhmhbiihcdgiaa
