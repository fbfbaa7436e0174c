/-
  legalSteps of the program, l04Legal of the reference: the list of the legal steps.
-/
import Derived.Test.YtjfmpnkbocilpaaHwM
import Derived.Test.YtjfmpnkbocilpaaHwQ
namespace Go.Proofs.Ytjfmpnkbocilpaa
open Go.ChangeShapes Go.WideShapes Go.ChangeAt Go.RowKit
set_option linter.unusedVariables false

theorem lgU_step (f : Int → Option St) (P F : Nat) (hF : F ≤ P) : lgU f (P : Int) (P + 1 - F) = lgU f P (P + 1 - (F + 1)) ++ (f F).toList := by
  obtain ⟨i, hi⟩ : ∃ i, P + 1 - (F + 1) = i := ⟨_, rfl⟩
  rw [hi, show P + 1 - F = i + 1 from by omega, lgU, show (P : Int) - i = F from by omega]
theorem lgU_none (P : Int) : ∀ i, lgU (fun _ => none) P i = []
  | 0 => rfl
  | i + 1 => by rw [lgU, lgU_none P i]; rfl
theorem lgF_G (P H : Int) (own oth : List Int) (die : Int) : lgF P H own oth die = lgU (stG P H own oth die) P (P.toNat + 1) := by
  unfold lgF
  cases h : ovB own oth
  · rw [if_neg (by simp)]
    congr 1
    funext fr
    rw [stG, h]; rfl
  · rw [if_pos rfl]
    have : stG P H own oth die = fun _ => none := by funext fr; rw [stG, h]; rfl
    rw [this, lgU_none]
def LsPost (l : List St) (w : World) (e : Ending) (w' : World) : Prop := ∃ v, e = .returned v ∧ StsO w' w.heap.size v l ∧ Below w.heap.size w w'

set_option maxRecDepth 16000 in
set_option maxHeartbeats 3200000 in
theorem legalSteps_any (P : Nat) (c H s : Int) (a : Option Addr) (n ca : Nat) (xs : List Int) (b : Option Addr) (m cb : Nat) (ys : List Int) (die : Int) (B : Nat) (w : World) (h1 : Ints w B .i64 a n xs) (h2 : Ints w B .i64 b m ys) (hB : B ≤ w.heap.size) (hP0 : 1 ≤ P) (hP : P ≤ 24) (hn : n = P + 1) (hm : m = P + 1) (d0 : 1 ≤ die) (d1 : die ≤ 6) (hX : ∀ i, i < n → 0 ≤ xs.getD i 0 ∧ xs.getD i 0 ≤ 15) (hY : ∀ i, i < m → 0 ≤ ys.getD i 0 ∧ ys.getD i 0 ≤ 15) :
    Calls Try.prog 31 #[vrV P c H s, bdV a n ca b m cb, .int .i64 die] w fun e w' => LsPost (lgF P H xs ys die) w e w' := by
  have HB0 := ((Below.refl w.heap.size w).alloc (Nat.le_refl _) (.cells #[.int .i64 P, .int .i64 c, .int .i64 H, .int .i64 s] 30)).alloc (by simp) (.cells #[.slice a n ca, .slice b m cb] 32)
  have V0 := (vr4_new w (.int .i64 P) (.int .i64 c) (.int .i64 H) (.int .i64 s) 30).alloc (.cells #[.slice a n ca, .slice b m cb] 32)
  have D0 := pr_new (w.alloc (.cells #[.int .i64 P, .int .i64 c, .int .i64 H, .int .i64 s] 30)) (.slice a n ca) (.slice b m cb) 32
  simp only [World.size_alloc] at D0
  obtain ⟨W0, hW0⟩ : ∃ W, (w.alloc (.cells #[.int .i64 P, .int .i64 c, .int .i64 H, .int .i64 s] 30)).alloc (.cells #[.slice a n ca, .slice b m cb] 32) = W := ⟨_, rfl⟩
  have zW : w.heap.size + 2 ≤ W0.heap.size := by rw [← hW0]; simp
  have HZ := Lib.hid (show W0.heap.size = w.heap.size + 1 + 1 by rw [← hW0]; simp)
  rw [hW0] at HB0 V0 D0
  have HW0 := Lib.hid hW0
  clear hW0
  have k1 := h1.below (HB0.mono hB)
  have k2 := h2.below (HB0.mono hB)
  have BW : B ≤ W0.heap.size := by omega
  have ho : (psum xs n == 0 || psum ys m == 0) = ovB xs ys := by unfold ovB; rw [h1.len, h2.len]
  have HOV := Lib.hid (boardOver_any a n ca xs b m cb ys B W0 k1 k2 BW (by omega) (by omega) (by omega) (by omega) hX hY)
  rw [ho] at HOV
  have ST := Lib.hid (fun (F : Nat) (W : World) (hF : F ≤ P) (hb : Below w.heap.size w W) => stepFrom_any P c H s a n ca xs b m cb ys F die B W (h1.below (hb.mono hB)) (h2.below (hb.mono hB)) (by have := hb.size; omega) hP0 hP hn hm hF d0 d1 hX)
  obtain ⟨f, hf⟩ : ∃ f, stF P H xs ys die = f := ⟨_, rfl⟩
  rw [hf] at ST
  have HF := Lib.hid hf
  obtain ⟨v0, v1, v2, v3⟩ := vr4_cells V0
  obtain ⟨v4, v5⟩ := pr_cells D0
  clear ho hf k1 k2 h1 h2 hX hY hn hm
  go_enter Try.func31, Try.ntmps31
  go_wp2_with fail
  rw [HW0.out]
  cases hov : ovB xs ys
  rotate_left
  · rw [hov] at HOV
    go_wp2_with fail
    refine HOV.out.mono ?_
    rintro e w1 ⟨rfl, hb1⟩
    have hB2 := Lib.hid (HB0.trans (hb1.mono HB0.size))
    clear hb1
    go_wp2_with fail
    go_ret
    exact ⟨_, rfl, by rw [lgF_over hov]; exact ow_nil _ _ _ _, hB2.out⟩
  have HO := Lib.hid hov
  rw [hov] at HOV
  clear hov
  go_wp2_with fail
  refine HOV.out.mono ?_
  rintro e w1 ⟨rfl, hb1⟩
  have V1 := Lib.hid (rowIs_below V0 hb1 V0.lt)
  have D1 := Lib.hid (rowIs_below D0 hb1 D0.lt)
  have HB1 := Lib.hid (HB0.trans (hb1.mono HB0.size))
  clear hb1 v0 v1 v2 v3 v4 v5 V0 D0
  obtain ⟨v0, v1, v2, v3⟩ := vr4_cells V1.out
  obtain ⟨v4, v5⟩ := pr_cells D1.out
  go_wp2_with fail
  go_loopw [7, 8] (fun sl fr wr => ∃ (k : Nat) (x : Int) (sv : Value), sv = sl ∧ k ≤ P + 1 ∧ fr = .int .i64 x ∧ x = (k : Int) - 1 ∧ StsO wr (w.heap.size + 2) sv (lgU f P (P + 1 - k)) ∧ wr.rowIs w.heap.size 30 4 (vr4 (.int .i64 P) (.int .i64 c) (.int .i64 H) (.int .i64 s)) ∧ wr.rowIs (w.heap.size + 1) 32 2 (pr (.slice a n ca) (.slice b m cb)) ∧ Below w.heap.size w wr ∧ w.heap.size + 2 ≤ wr.heap.size) (fun _ fr _ => (intOf fr + 1).toNat)
  case atStart => exact ⟨P + 1, P, _, rfl, Nat.le_refl _, rfl, by omega, by rw [Nat.sub_self]; exact ow_nil _ _ _ _, V1.out, D1.out, HB1.out, by have := D1.out.lt; omega⟩
  case round =>
    obtain ⟨k, x, sv, rfl, hk, rfl, hx, hl, hv, hd, hbw, hz⟩ := hrel
    have HL := Lib.hid hl
    have HV := Lib.hid hv
    have HD := Lib.hid hd
    have HBW := Lib.hid hbw
    clear hl hv hd hbw
    rcases k with _ | F
    · obtain rfl : x = -1 := by omega
      clear hx hk
      go_wp2_with fail
      go_ret
      exact ⟨_, rfl, by unfold lgF; rw [HO.out, if_neg (by simp), Int.toNat_natCast, HF.out]; exact ow_lower HL.out (by omega), HBW.out⟩
    · obtain rfl : x = (F : Int) := by omega
      clear hx
      have LE := lgU_len (f := f) (P := (P : Int)) (P + 1 - (F + 1))
      have LS := Lib.hid (lgU_step f P F (by omega))
      have SF := Lib.hid (ST.out F wr (by omega) HBW.out)
      obtain ⟨q0, q1, q2, q3⟩ := vr4_cells HV.out
      obtain ⟨q4, q5⟩ := pr_cells HD.out
      have wF : IntKind.i64.wrap ((F : Int) - 1) = (F : Int) - 1 := IntWalk.i64_in _ (by omega)
      have gF : decide (0 ≤ (F : Int)) = true := decide_eq_true (by omega)
      obtain ⟨o, ho⟩ : ∃ o, f F = o := ⟨_, rfl⟩
      rw [ho] at SF LS
      clear ho
      rcases o with _ | ⟨fr, to, di, hit⟩
      · go_wp2_with fail
        refine SF.out.mono ?_
        rintro e w2 ⟨he, hb⟩
        obtain rfl : e = .returned (.tuple #[.agg #[.int .i64 0, .int .i64 0, .int .i64 0, .bool false], .bool false]) := he
        have X := Lib.hid (show StsO (w2.alloc (.cells #[.int .i64 0, .int .i64 0, .int .i64 0, .bool false] 72)) (w.heap.size + 2) sv (lgU f P (P + 1 - (F + 1))) from ow_alloc (ow_below HL.out hb) _)
        have Y1 := Lib.hid ((rowIs_below HV.out hb HV.out.lt).alloc (.cells #[.int .i64 0, .int .i64 0, .int .i64 0, .bool false] 72))
        have Y2 := Lib.hid ((rowIs_below HD.out hb HD.out.lt).alloc (.cells #[.int .i64 0, .int .i64 0, .int .i64 0, .bool false] 72))
        have Y3 := Lib.hid ((HBW.out.trans (hb.mono HBW.out.size)).alloc (by have := HBW.out.size; have := hb.size; omega) (.cells #[.int .i64 0, .int .i64 0, .int .i64 0, .bool false] 72))
        have z2 := hb.size
        clear hb
        go_wp2_with fail
        go_roundw
        case rel => exact ⟨F, (F : Int) - 1, _, rfl, by omega, by go_num, rfl, by rw [LS.out]; show StsO _ _ _ (_ ++ []); rw [List.append_nil]; exact X.out, Y1.out, Y2.out, Y3.out, by rw [World.size_alloc]; omega⟩
        case measure => (simp [intOf]; try omega)
      · go_wp2_with fail
        refine SF.out.mono ?_
        rintro e w2 ⟨he, hb⟩
        obtain rfl : e = .returned (.tuple #[.agg #[.int .i64 fr, .int .i64 to, .int .i64 di, .bool hit], .bool true]) := he
        have X := Lib.hid (show StsO ((w2.alloc (.cells #[.int .i64 fr, .int .i64 to, .int .i64 di, .bool hit] 72)).alloc (.cells #[.int .i64 fr, .int .i64 to, .int .i64 di, .bool hit] 72)) (w.heap.size + 2) sv (lgU f P (P + 1 - (F + 1))) from ow_alloc (ow_alloc (ow_below HL.out hb) _) _)
        have Y1 := Lib.hid (((rowIs_below HV.out hb HV.out.lt).alloc (.cells #[.int .i64 fr, .int .i64 to, .int .i64 di, .bool hit] 72)).alloc (.cells #[.int .i64 fr, .int .i64 to, .int .i64 di, .bool hit] 72))
        have Y2 := Lib.hid (((rowIs_below HD.out hb HD.out.lt).alloc (.cells #[.int .i64 fr, .int .i64 to, .int .i64 di, .bool hit] 72)).alloc (.cells #[.int .i64 fr, .int .i64 to, .int .i64 di, .bool hit] 72))
        have Y3 := Lib.hid (((HBW.out.trans (hb.mono HBW.out.size)).alloc (by have := HBW.out.size; have := hb.size; omega) (.cells #[.int .i64 fr, .int .i64 to, .int .i64 di, .bool hit] 72)).alloc (by have := HBW.out.size; have := hb.size; simp; omega) (.cells #[.int .i64 fr, .int .i64 to, .int .i64 di, .bool hit] 72))
        have Y4 := Lib.hid (vr4_new (w2.alloc (.cells #[.int .i64 fr, .int .i64 to, .int .i64 di, .bool hit] 72)) (.int .i64 fr) (.int .i64 to) (.int .i64 di) (.bool hit) 72)
        simp only [World.size_alloc] at Y4
        have z2 := hb.size
        clear hb
        go_wp2_with (first | (at_builtin; refine app_st rfl (.tmp 28) (.tmp 30) rfl rfl X.out (w2.heap.size + 1) rfl ⟨fr, to, di, hit⟩ Y4.out (by omega) (by simp; omega) ?_; intro v5 w5 hg5 hr5))
        have R5 := fun b e => (ow_in X.out b e).1
        have hb5 : Below (w.heap.size + 2) ((w2.alloc (.cells #[.int .i64 fr, .int .i64 to, .int .i64 di, .bool hit] 72)).alloc (.cells #[.int .i64 fr, .int .i64 to, .int .i64 di, .bool hit] 72)) w5 := grown_below' (Below.refl _ _) hr5 R5 (by simp; omega)
        have z5 := hb5.size
        simp only [World.size_alloc] at z5
        go_roundw
        case rel => exact ⟨F, (F : Int) - 1, _, rfl, by omega, by go_num, rfl, by rw [LS.out]; exact hg5, rowIs_below Y1.out hb5 (by omega), rowIs_below Y2.out hb5 (by omega), Y3.out.trans (hb5.mono (by omega)), by omega⟩
        case measure => (simp [intOf]; try omega)
set_option maxRecDepth 16000 in
set_option maxHeartbeats 3200000 in
theorem l04Legal_any (P : Nat) (c H s : Int) (a : Option Addr) (n ca : Nat) (xs : List Int) (b : Option Addr) (m cb : Nat) (ys : List Int) (die : Int) (B : Nat) (w : World) (h1 : Ints w B .i64 a n xs) (h2 : Ints w B .i64 b m ys) (hB : B ≤ w.heap.size) (hP0 : 1 ≤ P) (hP : P ≤ 24) (hn : n = P + 1) (hm : m = P + 1) (d0 : 1 ≤ die) (d1 : die ≤ 6) (hX : ∀ i, i < n → 0 ≤ xs.getD i 0 ∧ xs.getD i 0 ≤ 15) (hY : ∀ i, i < m → 0 ≤ ys.getD i 0 ∧ ys.getD i 0 ≤ 15) :
    Calls Try.prog 66 #[vrV P c H s, bdV a n ca b m cb, .int .i64 die] w fun e w' => LsPost (lgF P H xs ys die) w e w' := by
  have HB0 := ((Below.refl w.heap.size w).alloc (Nat.le_refl _) (.cells #[.int .i64 P, .int .i64 c, .int .i64 H, .int .i64 s] 30)).alloc (by simp) (.cells #[.slice a n ca, .slice b m cb] 32)
  have V0 := (vr4_new w (.int .i64 P) (.int .i64 c) (.int .i64 H) (.int .i64 s) 30).alloc (.cells #[.slice a n ca, .slice b m cb] 32)
  have D0 := pr_new (w.alloc (.cells #[.int .i64 P, .int .i64 c, .int .i64 H, .int .i64 s] 30)) (.slice a n ca) (.slice b m cb) 32
  simp only [World.size_alloc] at D0
  obtain ⟨W0, hW0⟩ : ∃ W, (w.alloc (.cells #[.int .i64 P, .int .i64 c, .int .i64 H, .int .i64 s] 30)).alloc (.cells #[.slice a n ca, .slice b m cb] 32) = W := ⟨_, rfl⟩
  have zW : w.heap.size + 2 ≤ W0.heap.size := by rw [← hW0]; simp
  have HZ := Lib.hid (show W0.heap.size = w.heap.size + 1 + 1 by rw [← hW0]; simp)
  rw [hW0] at HB0 V0 D0
  have HW0 := Lib.hid hW0
  clear hW0
  have k1 := h1.below (HB0.mono hB)
  have k2 := h2.below (HB0.mono hB)
  have BW : B ≤ W0.heap.size := by omega
  have ho : (psum xs n == 0 || psum ys m == 0) = ovB xs ys := by unfold ovB; rw [h1.len, h2.len]
  have ST := Lib.hid (fun (F : Nat) (W : World) (hF : F ≤ P) (hb : Below w.heap.size w W) => l04Step_any P c H s a n ca xs b m cb ys F die B W (h1.below (hb.mono hB)) (h2.below (hb.mono hB)) (by have := hb.size; omega) hP0 hP hn hm hF d0 d1 hX hY)
  obtain ⟨f, hf⟩ : ∃ f, stG P H xs ys die = f := ⟨_, rfl⟩
  rw [hf] at ST
  have HF := Lib.hid hf
  obtain ⟨v0, v1, v2, v3⟩ := vr4_cells V0
  obtain ⟨v4, v5⟩ := pr_cells D0
  clear ho hf k1 k2 h1 h2 hX hY hn hm
  go_enter Try.func66, Try.ntmps66
  go_wp2_with fail
  rw [HW0.out]
  go_wp2_with fail
  go_loopw [7, 8] (fun sl fr wr => ∃ (k : Nat) (x : Int) (sv : Value), sv = sl ∧ k ≤ P + 1 ∧ fr = .int .i64 x ∧ x = (k : Int) - 1 ∧ StsO wr (w.heap.size + 2) sv (lgU f P (P + 1 - k)) ∧ wr.rowIs w.heap.size 30 4 (vr4 (.int .i64 P) (.int .i64 c) (.int .i64 H) (.int .i64 s)) ∧ wr.rowIs (w.heap.size + 1) 32 2 (pr (.slice a n ca) (.slice b m cb)) ∧ Below w.heap.size w wr ∧ w.heap.size + 2 ≤ wr.heap.size) (fun _ fr _ => (intOf fr + 1).toNat)
  case atStart => exact ⟨P + 1, P, _, rfl, Nat.le_refl _, rfl, by omega, by rw [Nat.sub_self]; have e := ow_new W0 (w.heap.size + 2) 72 4 (by omega); rw [HZ.out] at e; exact e, V0.alloc _, D0.alloc _, HB0.alloc HB0.size _, by rw [World.size_alloc]; omega⟩
  case round =>
    obtain ⟨k, x, sv, rfl, hk, rfl, hx, hl, hv, hd, hbw, hz⟩ := hrel
    have HL := Lib.hid hl
    have HV := Lib.hid hv
    have HD := Lib.hid hd
    have HBW := Lib.hid hbw
    clear hl hv hd hbw
    rcases k with _ | F
    · obtain rfl : x = -1 := by omega
      clear hx hk
      go_wp2_with fail
      go_ret
      exact ⟨_, rfl, by rw [lgF_G, Int.toNat_natCast, HF.out]; exact ow_lower HL.out (by omega), HBW.out⟩
    · obtain rfl : x = (F : Int) := by omega
      clear hx
      have LE := lgU_len (f := f) (P := (P : Int)) (P + 1 - (F + 1))
      have LS := Lib.hid (lgU_step f P F (by omega))
      have SF := Lib.hid (ST.out F wr (by omega) HBW.out)
      obtain ⟨q0, q1, q2, q3⟩ := vr4_cells HV.out
      obtain ⟨q4, q5⟩ := pr_cells HD.out
      have wF : IntKind.i64.wrap ((F : Int) - 1) = (F : Int) - 1 := IntWalk.i64_in _ (by omega)
      have gF : decide (0 ≤ (F : Int)) = true := decide_eq_true (by omega)
      obtain ⟨o, ho⟩ : ∃ o, f F = o := ⟨_, rfl⟩
      rw [ho] at SF LS
      clear ho
      rcases o with _ | ⟨fr, to, di, hit⟩
      · go_wp2_with fail
        refine SF.out.mono ?_
        rintro e w2 ⟨⟨⟨fr, to, di, hit⟩, he, _⟩, hb⟩
        obtain rfl : e = .returned (.tuple #[.agg #[.int .i64 fr, .int .i64 to, .int .i64 di, .bool hit], .bool false]) := he
        have X := Lib.hid (show StsO (w2.alloc (.cells #[.int .i64 fr, .int .i64 to, .int .i64 di, .bool hit] 72)) (w.heap.size + 2) sv (lgU f P (P + 1 - (F + 1))) from ow_alloc (ow_below HL.out hb) _)
        have Y1 := Lib.hid ((rowIs_below HV.out hb HV.out.lt).alloc (.cells #[.int .i64 fr, .int .i64 to, .int .i64 di, .bool hit] 72))
        have Y2 := Lib.hid ((rowIs_below HD.out hb HD.out.lt).alloc (.cells #[.int .i64 fr, .int .i64 to, .int .i64 di, .bool hit] 72))
        have Y3 := Lib.hid ((HBW.out.trans (hb.mono HBW.out.size)).alloc (by have := HBW.out.size; have := hb.size; omega) (.cells #[.int .i64 fr, .int .i64 to, .int .i64 di, .bool hit] 72))
        have z2 := hb.size
        clear hb
        go_wp2_with fail
        go_roundw
        case rel => exact ⟨F, (F : Int) - 1, _, rfl, by omega, by go_num, rfl, by rw [LS.out]; show StsO _ _ _ (_ ++ []); rw [List.append_nil]; exact X.out, Y1.out, Y2.out, Y3.out, by rw [World.size_alloc]; omega⟩
        case measure => (simp [intOf]; try omega)
      · go_wp2_with fail
        refine SF.out.mono ?_
        rintro e w2 ⟨⟨t, he, ht⟩, hb⟩
        obtain rfl := ht _ rfl
        obtain rfl : e = .returned (.tuple #[.agg #[.int .i64 fr, .int .i64 to, .int .i64 di, .bool hit], .bool true]) := he
        have X := Lib.hid (show StsO ((w2.alloc (.cells #[.int .i64 fr, .int .i64 to, .int .i64 di, .bool hit] 72)).alloc (.cells #[.int .i64 fr, .int .i64 to, .int .i64 di, .bool hit] 72)) (w.heap.size + 2) sv (lgU f P (P + 1 - (F + 1))) from ow_alloc (ow_alloc (ow_below HL.out hb) _) _)
        have Y1 := Lib.hid (((rowIs_below HV.out hb HV.out.lt).alloc (.cells #[.int .i64 fr, .int .i64 to, .int .i64 di, .bool hit] 72)).alloc (.cells #[.int .i64 fr, .int .i64 to, .int .i64 di, .bool hit] 72))
        have Y2 := Lib.hid (((rowIs_below HD.out hb HD.out.lt).alloc (.cells #[.int .i64 fr, .int .i64 to, .int .i64 di, .bool hit] 72)).alloc (.cells #[.int .i64 fr, .int .i64 to, .int .i64 di, .bool hit] 72))
        have Y3 := Lib.hid (((HBW.out.trans (hb.mono HBW.out.size)).alloc (by have := HBW.out.size; have := hb.size; omega) (.cells #[.int .i64 fr, .int .i64 to, .int .i64 di, .bool hit] 72)).alloc (by have := HBW.out.size; have := hb.size; simp; omega) (.cells #[.int .i64 fr, .int .i64 to, .int .i64 di, .bool hit] 72))
        have Y4 := Lib.hid (vr4_new (w2.alloc (.cells #[.int .i64 fr, .int .i64 to, .int .i64 di, .bool hit] 72)) (.int .i64 fr) (.int .i64 to) (.int .i64 di) (.bool hit) 72)
        simp only [World.size_alloc] at Y4
        have z2 := hb.size
        clear hb
        go_wp2_with (first | (at_builtin; refine app_st rfl (.tmp 27) (.tmp 29) rfl rfl X.out (w2.heap.size + 1) rfl ⟨fr, to, di, hit⟩ Y4.out (by omega) (by simp; omega) ?_; intro v5 w5 hg5 hr5))
        have R5 := fun b e => (ow_in X.out b e).1
        have hb5 : Below (w.heap.size + 2) ((w2.alloc (.cells #[.int .i64 fr, .int .i64 to, .int .i64 di, .bool hit] 72)).alloc (.cells #[.int .i64 fr, .int .i64 to, .int .i64 di, .bool hit] 72)) w5 := grown_below' (Below.refl _ _) hr5 R5 (by simp; omega)
        have z5 := hb5.size
        simp only [World.size_alloc] at z5
        go_roundw
        case rel => exact ⟨F, (F : Int) - 1, _, rfl, by omega, by go_num, rfl, by rw [LS.out]; exact hg5, rowIs_below Y1.out hb5 (by omega), rowIs_below Y2.out hb5 (by omega), Y3.out.trans (hb5.mono (by omega)), by omega⟩
        case measure => (simp [intOf]; try omega)
end Go.Proofs.Ytjfmpnkbocilpaa
