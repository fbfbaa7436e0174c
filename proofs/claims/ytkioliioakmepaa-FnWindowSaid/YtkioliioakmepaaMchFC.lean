/-
  The walk of commonDen of the program.
-/
import Derived.Test.YtkioliioakmepaaMchF
import Derived.Test.YtkioliioakmepaaRec
namespace Go.Proofs.Ytkioliioakmepaa
open Go.ChangeShapes Go.WideShapes Go.ChangeAt Go.RowKit
set_option linter.unusedVariables false

/-- the cells at block g are the shares of the chances cs -/
def ShAt (w : World) (g n : Nat) (cs : List Int) : Prop := ∀ i, i < n → w.cell? ⟨g, i * 2, none⟩ = some (.int .i64 (sN (cs.getD i 0))) ∧ w.cell? ⟨g, i * 2 + 1, none⟩ = some (.int .i64 (sD (cs.getD i 0)))
theorem ShAt.below {w w' : World} {g n B : Nat} {cs : List Int} (h : ShAt w g n cs) (hb : Below B w w') (hg : g < B) : ShAt w' g n cs :=
  fun i hi => ⟨(hb.cell (p := ⟨g, i * 2, none⟩) hg).trans (h i hi).1, (hb.cell (p := ⟨g, i * 2 + 1, none⟩) hg).trans (h i hi).2⟩
/-- what commonDen leaves -/
def CdPost (n : Nat) (cs : List Int) (w : World) (e : Ending) (w' : World) : Prop :=
  ∃ (g : Nat) (den : Int) (f : Nat → Int), e = .returned (.slice (some ⟨g, 0, none⟩) n n) ∧ D2 den ∧ (∀ i, i < n → f i * (SC / den) = cs.getD i 0 ∧ 0 ≤ f i) ∧ w'.rowIs g 2 n (fun i => .int .i64 (f i)) ∧ w.heap.size ≤ g ∧ Below w.heap.size w w'
set_option maxHeartbeats 3200000 in
theorem commonDen_any (gl n C : Nat) (cs : List Int) (w : World) (h : ShAt w gl n cs) (hg : gl < w.heap.size) (hn : n ≤ 8) (hcs : ∀ i, i < n → 0 ≤ cs.getD i 0 ∧ cs.getD i 0 ≤ SC) :
    Calls Try.prog 51 #[.slice (some ⟨gl, 0, none⟩) n C] w fun e w' => CdPost n cs w e w' := by
  have HS := Lib.hid h
  have HC := Lib.hid hcs
  have mk := make_i64 n (by omega)
  clear h hcs
  go_enter Try.func51, Try.ntmps51
  go_wp2_with fail
  go_loopw [3, 11] (fun d i wx => ∃ (k : Nat) (den : Int), k ≤ n ∧ d = .int .i64 den ∧ i = .int .i64 k ∧ 1 ≤ den ∧ den ≤ 562949953421312 ∧ Hid (D2 den) ∧ Hid (∀ i, i < k → sD (cs.getD i 0) ≤ den) ∧ Hid (Below w.heap.size w wx)) (fun _ i _ => n - (intOf i).toNat)
  case atStart => exact ⟨0, 1, by omega, rfl, rfl, by omega, by omega, D2.one, fun i hi => absurd hi (by omega), Below.refl _ _⟩
  case round =>
    obtain ⟨k, den, hk, rfl, rfl, d0, d1, hd, hle, hB⟩ := hrel
    by_cases hkn : k < n
    · have hc := (HS.out.below hB.out hg) k hkn
      obtain ⟨h0, h1⟩ := hc
      obtain ⟨c0, c1⟩ := HC.out k hkn
      have hD := D2.share c0 c1
      obtain ⟨d, hd'⟩ : ∃ d, sD (cs.getD k 0) = d := ⟨_, rfl⟩
      obtain ⟨s, hs'⟩ : ∃ s, sN (cs.getD k 0) = s := ⟨_, rfl⟩
      rw [hd'] at h1 hD
      rw [hs'] at h0
      have dp := hD.pos
      have dl := hD.le
      have HD : Hid (D2 (max den d)) := by
        rcases Int.le_total den d with q | q
        · rw [Int.max_eq_right q]; exact hD
        · rw [Int.max_eq_left q]; exact hd
      have HLE : Hid (∀ i, i < k + 1 → sD (cs.getD i 0) ≤ max den d) := by
        refine Lib.hid (fun i hi => ?_)
        by_cases e : i = k
        · subst e; rw [hd']; omega
        · have := hle.out i (by omega); omega
      have BN := Lib.hid (hB.out.alloc hB.out.size (.cells #[.int .i64 s, .int .i64 d] 30))
      have m1 : 1 ≤ max den d := by omega
      have m2 : max den d ≤ 562949953421312 := by omega
      clear hd' hs' hD c0 c1
      go_wp2_with fail
      go_roundw
      case rel => exact ⟨k + 1, max den d, by omega, rfl, by go_num, m1, m2, HD, HLE, BN⟩
      case measure => simp [intOf]; omega
    · obtain rfl : k = n := by omega
      obtain ⟨wo, hwo⟩ : ∃ wo, wo = wr := ⟨_, rfl⟩
      subst hwo
      have B2 := Lib.hid (hB.out.alloc hB.out.size (.cells (madeCells #[.int .i64 0] k) 2))
      have R2 := Lib.hid (World.rowIs_made wo (.int .i64 0) k 2)
      have wz := hB.out.size
      go_wp2_with fail
      go_loopw [25] (fun i wx => ∃ (j : Nat) (f : Nat → Int), j ≤ k ∧ i = .int .i64 j ∧ Hid (∀ i, i < j → f i * (SC / den) = cs.getD i 0 ∧ 0 ≤ f i) ∧ Hid (wx.rowIs wo.heap.size 2 k (fun i => .int .i64 (f i))) ∧ Hid (Below w.heap.size w wx) ∧ wo.heap.size < wx.heap.size) (fun i _ => k - (intOf i).toNat)
      case atStart => exact ⟨0, fun _ => 0, by omega, rfl, fun i hi => absurd hi (by omega), R2, B2, by simp⟩
      case round =>
        clear R2 B2
        obtain ⟨j, f, hj, rfl, hf, hR, hB2, hz⟩ := hrel
        by_cases hjk : j < k
        · have hc := (HS.out.below hB2.out hg) j hjk
          obtain ⟨h0, h1⟩ := hc
          obtain ⟨c0, c1⟩ := HC.out j hjk
          have hD := D2.share c0 c1
          obtain ⟨_, p0, p1, _, _, _, pc⟩ := s_facts c0 c1
          have hle1 := hle.out j hjk
          obtain ⟨d, hd'⟩ : ∃ d, sD (cs.getD j 0) = d := ⟨_, rfl⟩
          obtain ⟨s, hs'⟩ : ∃ s, sN (cs.getD j 0) = s := ⟨_, rfl⟩
          rw [hd'] at h1 hD p1 pc hle1
          rw [hs'] at h0 p0 p1 pc
          have dp := hD.pos
          have dl := hD.le
          have SC1 : SC = 562949953421312 := rfl
          obtain ⟨e1, e2, e3, e4⟩ := same_den (x := 1) hD hd.out hle1 (num := 0) (U := 0) (Int.zero_mul _) pc p0 (by omega)
          rw [Int.one_mul] at e1 e2 e3 e4
          have gq := hd.out.qpos D2.sc hd.out.le
          rw [Int.one_mul] at e2
          have e5 := le_grow e3 gq e2
          obtain ⟨z, hz'⟩ : ∃ z, den / d = z := ⟨_, rfl⟩
          rw [hz'] at e2 e3 e5
          have wq : IntKind.i64.wrap (Int.tdiv den d) = z := by
            rw [Int.tdiv_eq_ediv_of_nonneg (by omega), hz']
            have : z ≤ den := by rw [← hz']; exact Int.ediv_le_self _ (by omega)
            have : 0 ≤ z := by rw [← hz']; exact Int.ediv_nonneg (by omega) (by omega)
            exact IntWalk.i64_in _ (by omega)
          rw [SC1] at c1
          have wm : IntKind.i64.wrap (s * z) = s * z := IntWalk.i64_in _ (by omega)
          have dn : ¬ d = 0 := by omega
          have HF : Hid (∀ i, i < j + 1 → (fun i => if i = j then s * z else f i) i * (SC / den) = cs.getD i 0 ∧ 0 ≤ (fun i => if i = j then s * z else f i) i) := by
            refine Lib.hid (fun i hi => ?_)
            by_cases e : i = j
            · subst e; simp only [if_pos]; exact ⟨e2, e3⟩
            · simp only [if_neg e]; exact hf.out i (by omega)
          have hcell := (hR.out.alloc (.cells #[.int .i64 s, .int .i64 d] 30)).cell hjk
          have hfr := (hR.out.alloc (.cells #[.int .i64 s, .int .i64 d] 30)).frozen j
          have RN : Hid (((wr.setCell ⟨wo.heap.size, j, none⟩ (.int .i64 (s * z))).alloc (.cells #[.int .i64 s, .int .i64 d] 30)).rowIs wo.heap.size 2 k (fun i => .int .i64 ((fun i => if i = j then s * z else f i) i))) :=
            Lib.hid (((hR.out.set j (.int .i64 (s * z))).alloc (.cells #[.int .i64 s, .int .i64 d] 30)).congr (fun i hi => by
              show (if i = j then Value.int .i64 (s * z) else Value.int .i64 (f i)) = Value.int .i64 (if i = j then s * z else f i)
              split <;> rfl))
          have BN := Lib.hid ((hB2.out.setCell (p := ⟨wo.heap.size, j, none⟩) wz (.int .i64 (s * z))).alloc (by rw [World.size_setCell]; exact hB2.out.size) (.cells #[.int .i64 s, .int .i64 d] 30))
          clear hd' hs' hD c0 c1 pc e1 e2 hz' SC1
          go_wp2_with fail
          go_region
          go_wp2_with fail
          go_roundw
          case rel => exact ⟨j + 1, fun i => if i = j then s * z else f i, by omega, by go_num, HF, Lib.hid RN.out.drew, Lib.hid BN.out.drew, by simp; omega⟩
          case measure => simp [intOf]; omega
        · obtain rfl : j = k := by omega
          go_wp2_with fail
          go_ret
          exact ⟨_, den, f, rfl, hd.out, hf.out, hR.out, wz, hB2.out⟩
end Go.Proofs.Ytkioliioakmepaa
