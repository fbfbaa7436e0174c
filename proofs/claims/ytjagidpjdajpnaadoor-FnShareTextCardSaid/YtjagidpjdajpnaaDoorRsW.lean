/-
  impl.ReadShare: the walk.
-/
import Derived.Test.YtjagidpjdajpnaaDoorRsP
import Derived.Lib.SmallJoins
namespace Go.Proofs.YtjagidpjdajpnaaDoor
open Go.ChangeShapes Go.WideShapes Go.ChangeAt Go.RowKit
set_option linter.unusedVariables false
theorem cutR_len (c : UInt8) : ∀ l : List UInt8, (cutR c l).1.length ≤ l.length ∧ (cutR c l).2.1.length ≤ l.length
  | [] => ⟨Nat.le_refl _, Nat.le_refl _⟩
  | b :: l => by
    have ih := cutR_len c l
    rw [cutR]
    split
    · simp
    · simp only [List.length_cons]
      omega
/-- the library's variable MaxLen holds a number -/
def Mxl (w : World) : Prop := ∃ m : Int, w.cell? ⟨0, 0, none⟩ = some (.int .i64 m)
theorem Mxl.below {w w' : World} (h : Mxl w) (hb : Below w.heap.size w w') : Mxl w' := by
  obtain ⟨m, hm⟩ := h
  exact ⟨m, (hb.cell (p := ⟨0, 0, none⟩) (cell_lt hm)).trans hm⟩
set_option maxHeartbeats 1600000 in
theorem impl_ReadShare_any (s : ByteArray) (w : World) (hs : s.size ≤ 2000000) (ht : Tab w) (he : Evs w) (hm : Mxl w) :
    Calls Tryd.prog 6 #[.string s] w fun e w' => e = .returned (.tuple #[shV (rdS s).1 (rdS s).2.1, .bool (rdS s).2.2]) ∧ Below w.heap.size w w' := by
  obtain ⟨m, hm⟩ := hm
  have hl := cell_lt hm
  obtain ⟨A, B, ok, hc⟩ : ∃ A B ok, cutR 47 s.data.toList = (A, B, ok) := ⟨_, _, _, rfl⟩
  have HV := Lib.hid (implR_eq s)
  unfold implR at HV
  rw [hc] at HV
  simp only at HV
  obtain ⟨n, b1, hn⟩ : ∃ n b1, rdN ⟨A.toArray⟩ = (n, b1) := ⟨_, _, rfl⟩
  obtain ⟨d, b2, hd⟩ : ∃ d b2, rdN ⟨B.toArray⟩ = (d, b2) := ⟨_, _, rfl⟩
  rw [hn, hd] at HV
  obtain ⟨K, hK⟩ : ∃ K, shB n d = K := ⟨_, rfl⟩
  simp only [hK] at HV
  have HB0 := Lib.hid ((Below.refl w.heap.size w).alloc (Nat.le_refl _) (.cells #[.int .i64 0, .int .i64 0] 23))
  have CT : Hid (∀ W : World, W.cell? ⟨0, 0, none⟩ = some (.int .i64 m) → Calls Tryd.prog 16 #[.string s, .string ⟨#[47]⟩] W fun e w' => e = .returned (.tuple #[.string ⟨A.toArray⟩, .string ⟨B.toArray⟩, .bool ok]) ∧ Below W.heap.size W w') := by
    refine Lib.hid (fun W h => (Tryd.strings_Cut s ⟨#[47]⟩ m W (by omega) h).mono ?_)
    rintro e w' ⟨rfl, k, rfl⟩
    have e1 : Lib.cut s.data.toList (⟨#[47]⟩ : ByteArray).data.toList = (A, B, ok) := (cut_one 47 s.data.toList).trans hc
    rw [e1]
    exact ⟨rfl, below_drewN (Below.refl _ _) k⟩
  have hln := cutR_len 47 s.data.toList
  rw [hc] at hln
  simp only at hln
  have hsl : s.data.toList.length = s.size := (Lib.size_eq s).symm
  have zA : (⟨A.toArray⟩ : ByteArray).size ≤ 2000000 := by rw [Lib.size_eq]; simp only; omega
  have zB : (⟨B.toArray⟩ : ByteArray).size ≤ 2000000 := by rw [Lib.size_eq]; simp only; omega
  have RA := Lib.hid (fun W (hW : Below w.heap.size w W) => hn ▸ readDecimal_any ⟨A.toArray⟩ W zA (ht.below hW) (he.below hW))
  have RB := Lib.hid (fun W (hW : Below w.heap.size w W) => hd ▸ readDecimal_any ⟨B.toArray⟩ W zB (ht.below hW) (he.below hW))
  have IS := Lib.hid (fun W => hK ▸ impl_IsShare_any n d W)
  have RX := Lib.hid (two_new w 0 0 23)
  have HM := Lib.hid ((HB0.out.cell (p := ⟨0, 0, none⟩) hl).trans hm)
  clear hc hn hd hK hln hsl
  go_enter Tryd.func6, Tryd.ntmps6
  go_wp2_with fail
  refine (CT.out _ HM.out).mono ?_
  rintro e w1 ⟨rfl, hb⟩
  have HB1 := Lib.hid (HB0.out.trans (hb.mono HB0.out.size))
  have X1 := Lib.hid (rowIs_below RX.out hb RX.out.lt)
  clear hb
  go_wp2_with fail
  refine (RA.out _ HB1.out).mono ?_
  rintro e w2 ⟨rfl, hb⟩
  have HB2 := Lib.hid (HB1.out.trans (hb.mono HB1.out.size))
  have X2 := Lib.hid (rowIs_below X1.out hb X1.out.lt)
  clear hb
  go_wp2_with fail
  refine (RB.out _ HB2.out).mono ?_
  rintro e w3 ⟨rfl, hb⟩
  have HB3 := Lib.hid (HB2.out.trans (hb.mono HB2.out.size))
  have X3 := Lib.hid (rowIs_below X2.out hb X2.out.lt)
  clear hb
  obtain ⟨c0, c1, _, _⟩ := two_cells X3.out
  have fz := X3.out.frozen 0
  have fz1 := X3.out.frozen 1
  have hlw : w.heap.size < w3.heap.size := X3.out.lt
  cases ok <;> cases b1 <;> cases b2 <;> cases K
  all_goals
    go_wp2_with ((go_at_call 12; (with_reducible refine (IS.out _).mono ?_); rintro e w4 ⟨rfl, hb⟩; have HB4 := Lib.hid ((HB3.out.alloc HB3.out.size (.cells #[.int .i64 n, .int .i64 d] 23)).trans (hb.mono (HB3.out.alloc HB3.out.size _).size)); have X4 := Lib.hid (rowIs_below (X3.out.alloc (.cells #[.int .i64 n, .int .i64 d] 23)) hb (X3.out.alloc _).lt); have N4 := Lib.hid (rowIs_below (two_new w3 n d 23) hb (two_new w3 _ _ _).lt); clear hb; obtain ⟨y0, y1, _, _⟩ := two_cells X4.out; obtain ⟨m0, m1, _, _⟩ := two_cells N4.out; have g0 := X4.out.frozen 0; have g1 := X4.out.frozen 1; have hw4 : w.heap.size < w4.heap.size := X4.out.lt; have hw5 : w3.heap.size < w4.heap.size := N4.out.lt))
    first
      | (obtain ⟨z0, z1, _, _⟩ := two_cells (two_set X4.out n d)
         refine bodyPost_ret (v := .tuple #[shV n d, .bool true]) (by simp [results, Tryd.results6, go_sem, z0, z1]) rfl ⟨by rw [← HV.out]; rfl, (HB4.out.setCell (by simp) _).setCell (by simp) _⟩)
      | (obtain ⟨z0, z1, _, _⟩ := two_cells (two_set X4.out 0 0)
         refine bodyPost_ret (v := .tuple #[shV 0 0, .bool false]) (by simp [results, Tryd.results6, go_sem, z0, z1]) rfl ⟨by rw [← HV.out]; rfl, (HB4.out.setCell (by simp) _).setCell (by simp) _⟩)
      | (obtain ⟨z0, z1, _, _⟩ := two_cells ((two_set X3.out 0 0).alloc (.cells #[.int .i64 n, .int .i64 d] 23))
         refine bodyPost_ret (v := .tuple #[shV 0 0, .bool false]) (by simp [results, Tryd.results6, go_sem, z0, z1]) rfl ⟨by rw [← HV.out]; rfl, ((HB3.out.setCell (by simp) _).setCell (by simp) _).alloc (by simp; omega) _⟩)
end Go.Proofs.YtjagidpjdajpnaaDoor
