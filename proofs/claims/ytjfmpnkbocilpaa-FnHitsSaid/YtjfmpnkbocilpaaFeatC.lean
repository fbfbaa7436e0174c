/-
  The walks of contact and pips (both packages).
-/
import Derived.Test.YtjfmpnkbocilpaaFeatV
import Derived.Deep.RegionWith
import Derived.RegionTactic
import Derived.BigRegion
namespace Go.Proofs.Ytjfmpnkbocilpaa
open Go.ChangeShapes Go.WideShapes Go.ChangeAt Go.RowKit Go.Joins Go.Deep
set_option linter.unusedVariables false

theorem quiet0 {P : Program} {f : FuncId} {args : Array Value} {w : World} {n : Nat} {v : Value}
    (h : Calls P f args (w.drewN n) fun e w' => e = .returned v ∧ w.drewN n = w') : Calls P f args (w.drewN n) fun e w'' => e = .returned v ∧ ∃ m, w'' = w.drewN m :=
  h.mono fun _ _ ⟨he, hm⟩ => ⟨he, n, hm.symm⟩

set_option maxHeartbeats 1600000 in
theorem hasContact_any (P : Nat) (c h s : Int) (a : Option Addr) (n ca : Nat) (xs : List Int) (b : Option Addr) (m cb : Nat) (ys : List Int) (B : Nat) (w : World) (h1 : Ints w B .i64 a n xs) (h2 : Ints w B .i64 b m ys) (hB : B ≤ w.heap.size) (hn0 : 0 < n) (hm0 : 0 < m) (hn25 : n ≤ 25) (hm25 : m ≤ 25) (hX : ∀ i, i < n → 0 ≤ xs.getD i 0 ∧ xs.getD i 0 ≤ 15) (hY : ∀ i, i < m → 0 ≤ ys.getD i 0 ∧ ys.getD i 0 ≤ 15) (hnP : n ≤ P + 1) (hmP : m ≤ P + 1) (hP : P ≤ 24) :
    Calls Try.prog 33 #[vrV P c h s, bdV a n ca b m cb] w fun e w' => e = .returned (.bool (contB P n xs m ys)) ∧ Below w.heap.size w w' := by
  have HB0 := ((Below.refl w.heap.size w).alloc (Nat.le_refl _) (.cells #[.int .i64 (P : Int), .int .i64 c, .int .i64 h, .int .i64 s] 30)).alloc (by simp) (.cells #[.slice a n ca, .slice b m cb] 32)
  have r0 := (vr4_new w (.int .i64 (P : Int)) (.int .i64 c) (.int .i64 h) (.int .i64 s) 30).alloc (.cells #[.slice a n ca, .slice b m cb] 32)
  have r1 := pr_new (w.alloc (.cells #[.int .i64 (P : Int), .int .i64 c, .int .i64 h, .int .i64 s] 30)) (.slice a n ca) (.slice b m cb) 32
  simp only [World.size_alloc] at r1
  have R0 := Lib.hid r0
  have R1 := Lib.hid r1
  have k1 : Ints ((w.alloc (.cells #[.int .i64 (P : Int), .int .i64 c, .int .i64 h, .int .i64 s] 30)).alloc (.cells #[.slice a n ca, .slice b m cb] 32)) B .i64 a n xs := vb_ints h1 hB
  have k2 : Ints ((w.alloc (.cells #[.int .i64 (P : Int), .int .i64 c, .int .i64 h, .int .i64 s] 30)).alloc (.cells #[.slice a n ca, .slice b m cb] 32)) B .i64 b m ys := vb_ints h2 hB
  have hzB : B ≤ ((w.alloc (.cells #[.int .i64 (P : Int), .int .i64 c, .int .i64 h, .int .i64 s] 30)).alloc (.cells #[.slice a n ca, .slice b m cb] 32)).heap.size := vb_size hB
  have XB := Lib.hid hX
  have YB := Lib.hid hY
  clear r0 r1
  have b1 := lastP_bd xs n
  have b2 := lastP_bd ys m
  have HV := Lib.hid (show contB P n xs m ys = decide ((P : Int) ≤ lastP xs n + lastP ys m) from rfl)
  have HO := Lib.hid (contB_over hnP hmP (fun i hi => (hX i hi).1) (fun i hi => (hY i hi).1))
  have HBO := Lib.hid (fun W (q1 : Ints W B .i64 a n xs) (q2 : Ints W B .i64 b m ys) (qz : B ≤ W.heap.size) => boardOver_any a n ca xs b m cb ys B W q1 q2 qz hn0 hm0 hn25 hm25 hX hY)
  clear hX hY h1 h2
  cases ho : (psum xs n == 0 || psum ys m == 0)
  · rw [ho] at HBO
    obtain ⟨LX, hLX⟩ : ∃ LX, lastP xs n = LX := ⟨_, rfl⟩
    obtain ⟨LY, hLY⟩ : ∃ LY, lastP ys m = LY := ⟨_, rfl⟩
    rw [hLX] at b1 HV
    rw [hLY] at b2 HV
    have HLX := Lib.hid hLX
    have HLY := Lib.hid hLY
    obtain ⟨b11, b12⟩ := b1
    obtain ⟨b21, b22⟩ := b2
    have hwr : IntKind.i64.wrap (LX + LY) = LX + LY := IntWalk.i64_in _ (by omega)
    clear hLX hLY ho
    go_enter Try.func33, Try.ntmps33
    go_wp2_with fail
    replace k1 := ints_drew k1
    replace k2 := ints_drew k2
    replace R0 := Lib.hid (rowIs_drewN R0.out 1)
    replace R1 := Lib.hid (rowIs_drewN R1.out 1)
    replace HB0 : Below w.heap.size w ((w.alloc (.cells #[.int .i64 (P : Int), .int .i64 c, .int .i64 h, .int .i64 s] 30)).alloc (.cells #[.slice a n ca, .slice b m cb] 32)).drew := below_drewN HB0 1
    replace hzB : B ≤ ((w.alloc (.cells #[.int .i64 (P : Int), .int .i64 c, .int .i64 h, .int .i64 s] 30)).alloc (.cells #[.slice a n ca, .slice b m cb] 32)).drew.heap.size := hzB
    obtain ⟨c0, c1, c2, c3⟩ := vr4_cells R0.out
    obtain ⟨d0, d1⟩ := pr_cells R1.out
    go_region_held3 (fun w' => w'.cell? ⟨w.heap.size, 0, none⟩ = some (.int .i64 (P : Int)) ∧ w'.cell? ⟨w.heap.size, 1, none⟩ = some (.int .i64 c) ∧ w'.cell? ⟨w.heap.size, 2, none⟩ = some (.int .i64 h) ∧ w'.cell? ⟨w.heap.size, 3, none⟩ = some (.int .i64 s) ∧ w'.cell? ⟨w.heap.size + 1, 0, none⟩ = some (.slice a n ca) ∧ w'.cell? ⟨w.heap.size + 1, 1, none⟩ = some (.slice b m cb))
      (go_keep)
      (first
        | (go_at_call 51; refine (HBO.out _ k1 k2 hzB).mono ?_; rintro e v ⟨rfl, hb⟩; replace k1 := k1.below (hb.mono hzB); replace k2 := k2.below (hb.mono hzB); replace R0 := Lib.hid (rowIs_below R0.out hb R0.out.lt); replace R1 := Lib.hid (rowIs_below R1.out hb R1.out.lt); replace hzB := Nat.le_trans hzB hb.size; replace HB0 := HB0.trans (hb.mono HB0.size); clear hb; obtain ⟨e0, e1, e2, e3⟩ := vr4_cells R0.out; obtain ⟨f0, f1⟩ := pr_cells R1.out)
        | (go_at_call 54; (first | ((with_reducible refine (highest_any a n ca xs B _ k1 hn0 hn25).mono ?_); rw [HLX.out]; rintro e v2 ⟨rfl, rfl⟩) | ((with_reducible refine (highest_any b m cb ys B _ k2 hm0 hm25).mono ?_); rw [HLY.out]; rintro e v2 ⟨rfl, rfl⟩))))
    all_goals
      go_wp2
      go_ret
      exact ⟨ret_bool HV.out, HB0⟩
  · rw [ho] at HBO
    have HN := Lib.hid (HO.out (by simpa using ho))
    clear ho
    go_enter Try.func33, Try.ntmps33
    go_wp2_with fail
    replace k1 := ints_drew k1
    replace k2 := ints_drew k2
    replace R0 := Lib.hid (rowIs_drewN R0.out 1)
    replace R1 := Lib.hid (rowIs_drewN R1.out 1)
    replace HB0 : Below w.heap.size w ((w.alloc (.cells #[.int .i64 (P : Int), .int .i64 c, .int .i64 h, .int .i64 s] 30)).alloc (.cells #[.slice a n ca, .slice b m cb] 32)).drew := below_drewN HB0 1
    replace hzB : B ≤ ((w.alloc (.cells #[.int .i64 (P : Int), .int .i64 c, .int .i64 h, .int .i64 s] 30)).alloc (.cells #[.slice a n ca, .slice b m cb] 32)).drew.heap.size := hzB
    obtain ⟨c0, c1, c2, c3⟩ := vr4_cells R0.out
    obtain ⟨d0, d1⟩ := pr_cells R1.out
    refine wp_region_held_drew (S := fun w' => w'.cell? ⟨w.heap.size, 0, none⟩ = some (.int .i64 (P : Int)) ∧ w'.cell? ⟨w.heap.size, 1, none⟩ = some (.int .i64 c) ∧ w'.cell? ⟨w.heap.size, 2, none⟩ = some (.int .i64 h) ∧ w'.cell? ⟨w.heap.size, 3, none⟩ = some (.int .i64 s) ∧ w'.cell? ⟨w.heap.size + 1, 0, none⟩ = some (.slice a n ca) ∧ w'.cell? ⟨w.heap.size + 1, 1, none⟩ = some (.slice b m cb)) (by kernel_rfl) ?_ (fun hHeld => ?_)
    · go_keep
    refine takeH (i := 0) (d := 5) (v := ?_) rfl rfl (by kernel_rfl) (by kernel_rfl) (by kernel_rfl) (fun _ _ _ h => h) (Or.inl ⟨by rfl, ?_⟩) (by assumption) ?_
    rotate_left
    · intro w hSw
      go_simp
      with_reducible rfl
    simp only [Act.put, List.setIfInBounds_toArray, List.set_cons_zero, List.set_cons_succ]
    refine wpAnyH_ready (rs := [1]) (by kernel_rfl) (by simp) ?_
    refine AllReadyH.cons rfl (fun K hK => ?_) AllReadyH.nil
    go_simp
    refine (HBO.out _ k1 k2 hzB).mono ?_; rintro e v ⟨rfl, hb⟩; replace k1 := k1.below (hb.mono hzB); replace k2 := k2.below (hb.mono hzB); replace R0 := Lib.hid (rowIs_below R0.out hb R0.out.lt); replace R1 := Lib.hid (rowIs_below R1.out hb R1.out.lt); replace hzB := Nat.le_trans hzB hb.size; replace HB0 := HB0.trans (hb.mono HB0.size); clear hb; obtain ⟨e0, e1, e2, e3⟩ := vr4_cells R0.out; obtain ⟨f0, f1⟩ := pr_cells R1.out
    go_wp2_with fail
    refine hK.out _ _ ?_ (fun hHeld => ?_)
    · go_keep
    clear hK K
    refine takeH (i := 2) (d := 7) (v := ?_) rfl rfl (by kernel_rfl) (by kernel_rfl) (by kernel_rfl) (fun _ _ _ h => h) (Or.inl ⟨by rfl, ?_⟩) (by assumption) ?_
    rotate_left
    · intro w hSw
      go_simp
      with_reducible rfl
    simp only [Act.put, List.setIfInBounds_toArray, List.set_cons_zero, List.set_cons_succ]
    refine takeH (i := 3) (d := 8) (v := ?_) rfl rfl (by kernel_rfl) (by kernel_rfl) (by kernel_rfl) (fun _ _ _ h => h) (Or.inl ⟨by rfl, ?_⟩) (by assumption) ?_
    rotate_left
    · intro w hSw
      go_simp
      with_reducible rfl
    simp only [Act.put, List.setIfInBounds_toArray, List.set_cons_zero, List.set_cons_succ]
    refine takeH (i := 4) (d := 9) (v := undef) rfl rfl (by kernel_rfl) (by kernel_rfl) (by kernel_rfl) (fun _ _ _ h => h) (Or.inr ⟨by rfl, rfl⟩) (by assumption) ?_
    simp only [Act.put, List.setIfInBounds_toArray, List.set_cons_zero, List.set_cons_succ]
    refine takeH (i := 5) (d := 10) (v := undef) rfl rfl (by kernel_rfl) (by kernel_rfl) (by kernel_rfl) (fun _ _ _ h => h) (Or.inr ⟨by rfl, rfl⟩) (by assumption) ?_
    simp only [Act.put, List.setIfInBounds_toArray, List.set_cons_zero, List.set_cons_succ]
    refine takeH (i := 6) (d := 11) (v := undef) rfl rfl (by kernel_rfl) (by kernel_rfl) (by kernel_rfl) (fun _ _ _ h => h) (Or.inr ⟨by rfl, rfl⟩) (by assumption) ?_
    simp only [Act.put, List.setIfInBounds_toArray, List.set_cons_zero, List.set_cons_succ]
    refine takeH (i := 7) (d := 12) (v := undef) rfl rfl (by kernel_rfl) (by kernel_rfl) (by kernel_rfl) (fun _ _ _ h => h) (Or.inr ⟨by rfl, rfl⟩) (by assumption) ?_
    simp only [Act.put, List.setIfInBounds_toArray, List.set_cons_zero, List.set_cons_succ]
    refine takeH (i := 8) (d := 13) (v := undef) rfl rfl (by kernel_rfl) (by kernel_rfl) (by kernel_rfl) (fun _ _ _ h => h) (Or.inr ⟨by rfl, rfl⟩) (by assumption) ?_
    simp only [Act.put, List.setIfInBounds_toArray, List.set_cons_zero, List.set_cons_succ]
    refine takeH (i := 9) (d := 14) (v := undef) rfl rfl (by kernel_rfl) (by kernel_rfl) (by kernel_rfl) (fun _ _ _ h => h) (Or.inr ⟨by rfl, rfl⟩) (by assumption) ?_
    simp only [Act.put, List.setIfInBounds_toArray, List.set_cons_zero, List.set_cons_succ]
    refine takeH (i := 10) (d := 15) (v := undef) rfl rfl (by kernel_rfl) (by kernel_rfl) (by kernel_rfl) (fun _ _ _ h => h) (Or.inr ⟨by rfl, rfl⟩) (by assumption) ?_
    simp only [Act.put, List.setIfInBounds_toArray, List.set_cons_zero, List.set_cons_succ]
    refine takeH (i := 11) (d := 16) (v := undef) rfl rfl (by kernel_rfl) (by kernel_rfl) (by kernel_rfl) (fun _ _ _ h => h) (Or.inr ⟨by rfl, rfl⟩) (by assumption) ?_
    simp only [Act.put, List.setIfInBounds_toArray, List.set_cons_zero, List.set_cons_succ]
    refine takeH (i := 12) (d := 17) (v := undef) rfl rfl (by kernel_rfl) (by kernel_rfl) (by kernel_rfl) (fun _ _ _ h => h) (Or.inr ⟨by rfl, rfl⟩) (by assumption) ?_
    simp only [Act.put, List.setIfInBounds_toArray, List.set_cons_zero, List.set_cons_succ]
    refine takeH (i := 13) (d := 18) (v := undef) rfl rfl (by kernel_rfl) (by kernel_rfl) (by kernel_rfl) (fun _ _ _ h => h) (Or.inr ⟨by rfl, rfl⟩) (by assumption) ?_
    simp only [Act.put, List.setIfInBounds_toArray, List.set_cons_zero, List.set_cons_succ]
    refine takeH (i := 14) (d := 19) (v := ?_) rfl rfl (by kernel_rfl) (by kernel_rfl) (by kernel_rfl) (fun _ _ _ h => h) (Or.inl ⟨by rfl, ?_⟩) (by assumption) ?_
    rotate_left
    · intro w hSw
      go_simp
      with_reducible rfl
    simp only [Act.put, List.setIfInBounds_toArray, List.set_cons_zero, List.set_cons_succ]
    refine takeH (i := 15) (d := 4) (v := ?_) rfl rfl (by kernel_rfl) (by kernel_rfl) (by kernel_rfl) (fun _ _ _ h => h) (Or.inl ⟨by rfl, ?_⟩) (by assumption) ?_
    rotate_left
    · intro w hSw
      go_simp
      with_reducible rfl
    simp only [Act.put, List.setIfInBounds_toArray, List.set_cons_zero, List.set_cons_succ]
    refine wpAnyH_done (by kernel_rfl) ?_ _
    go_wp2
    go_ret
    exact ⟨ret_bool HN.out, HB0⟩



set_option maxHeartbeats 800000 in
theorem impl_IsContact_any (p c h s : Int) (a : Option Addr) (n ca : Nat) (xs : List Int) (b : Option Addr) (m cb : Nat) (ys : List Int) (B : Nat) (w : World) (h1 : Ints w B .i64 a n xs) (h2 : Ints w B .i64 b m ys) (hB : B ≤ w.heap.size) (hn : n ≤ 1048576) (hm : m ≤ 1048576) :
    Calls Try.prog 15 #[vrV p c h s, bdV a n ca b m cb] w fun e w' => e = .returned (.bool (boardB p c h s n xs m ys && contB p.toNat n xs m ys)) ∧ Below w.heap.size w w' := by
  cases hv : boardB p c h s n xs m ys
  · go_enter Try.func15, Try.ntmps15
    go_wp2_with fail
    refine (impl_IsBoard_any _ _ _ _ _ _ _ _ _ _ _ _ B _ (vb_ints h1 hB) (vb_ints h2 hB) (vb_size hB) hn hm).mono ?_
    rw [hv]
    rintro e v ⟨rfl, hb⟩
    obtain ⟨R0, R1, HB0, hz⟩ := vb_after hb
    go_wp2_with fail
    go_ret
    exact ⟨ret_bool rfl, HB0⟩
  · obtain ⟨P, hP, ⟨hPn, hPn2⟩, ⟨hPm, hPm2⟩, hn25, hm25, hX, hY⟩ := boardB_out hv
    subst hP
    replace hX := Lib.hid hX
    replace hY := Lib.hid hY
    rw [Int.toNat_natCast]
    obtain ⟨HV, hHV⟩ : ∃ q : Bool, (true && contB P n xs m ys) = q := ⟨_, rfl⟩
    rw [hHV]
    have HVV := Lib.hid ((Bool.true_and _).symm.trans hHV)
    clear hHV
    go_enter Try.func15, Try.ntmps15
    go_wp2_with fail
    refine (impl_IsBoard_any _ _ _ _ _ _ _ _ _ _ _ _ B _ (vb_ints h1 hB) (vb_ints h2 hB) (vb_size hB) hn hm).mono ?_
    rw [hv]
    rintro e v ⟨rfl, hb⟩
    obtain ⟨R0, R1, HB0, hz⟩ := vb_after hb
    have hzB : B ≤ v.heap.size := by omega
    have k1 : Ints v B .i64 a n xs := (vb_ints h1 hB).below (hb.mono (vb_size hB))
    have k2 : Ints v B .i64 b m ys := (vb_ints h2 hB).below (hb.mono (vb_size hB))
    obtain ⟨c0, c1, c2, c3⟩ := vr4_cells R0
    obtain ⟨d0, d1⟩ := pr_cells R1
    clear hb R0 R1
    go_wp2_with fail
    refine (hasContact_any P c h s _ _ _ xs _ _ _ ys B _ k1 k2 hzB (by omega) (by omega) hn25 hm25 hX.out hY.out hPn2 hPm2 (by omega)).mono ?_
    rw [HVV.out]
    rintro e v2 ⟨rfl, hb2⟩
    go_wp2_with fail
    go_ret
    exact ⟨rfl, HB0.trans (hb2.mono HB0.size)⟩

end Go.Proofs.Ytjfmpnkbocilpaa
