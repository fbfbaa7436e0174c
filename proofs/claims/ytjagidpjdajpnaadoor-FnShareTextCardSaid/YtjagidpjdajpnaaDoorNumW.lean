/-
  spec.l16Number: the walk.
-/
import Derived.Test.YtjagidpjdajpnaaDoorShRP
import Derived.Test.YtjagidpjdajpnaaDoorRegH
import Derived.Below
import Derived.RegionTactic
import Derived.BigRegion
namespace Go.Proofs.YtjagidpjdajpnaaDoor
open Go.ChangeShapes Go.WideShapes Go.ChangeAt Go.RowKit
set_option linter.unusedVariables false
theorem one_cell (w : World) (v : Value) (t : TypeId) : (w.alloc (.cells #[v] t)).cell? ⟨w.heap.size, 0, none⟩ = some v := by
  have h : (w.alloc (.cells #[v] t)).rowIs w.heap.size t 1 (fun _ => v) := World.rowIs_alloc w _ _ _ (fun j hj => by
    match j, hj with
    | 0, _ => rfl)
  exact h.cell (i := 0) (by omega)
theorem one_str (W : World) (g : Nat) (v : Int) (h : W.cell? ⟨g, 0, none⟩ = some (.int .u8 v)) : (convert 28 9 (.slice (some ⟨g, 0, none⟩) 1 1)).run Tryd.prog W = .ok (.string (strOfNums [v])) W :=
  run_convert_bytes_arg W 28 5 Tryd.underlying28 Tryd.underlying5 g 0 1 1 [v] rfl (fun i hi => by
    obtain rfl : i = 0 := by omega
    exact h) 9 Tryd.underlying9
theorem itS_small {n : Int} (h0 : 0 ≤ n) (h : n < 10) : itS n = strOfNums [48 + n] := by
  rw [itS_nn (by omega), decL_rec, if_pos (by omega), List.nil_append]
  congr 1
  congr 1
  omega
theorem itS_big {n : Int} (h : 10 ≤ n) : itS n = itS (n.tdiv 10) ++ strOfNums [48 + n.tmod 10] := by
  have e1 : n.tdiv 10 = n / 10 := Int.tdiv_eq_ediv_of_nonneg (by omega)
  have e2 : n.tmod 10 = n % 10 := Int.tmod_eq_emod_of_nonneg (by omega)
  rw [e1, e2, itS_nn (n := n) (by omega), itS_nn (n := n / 10) (by omega), decL_rec n.natAbs, if_neg (by omega)]
  have e3 : n.natAbs / 10 = (n / 10).natAbs := by omega
  have e4 : ((48 + n.natAbs % 10 : Nat) : Int) = 48 + n % 10 := by omega
  rw [e3, e4]
  simp [strOfNums, ByteArray.mk_append_mk]
def SpN (N : Nat) : Prop := ∀ (n : Int) (w : World), 0 ≤ n → n < N → Calls Tryd.prog 21 #[.int .i64 n] w fun e w' => e = .returned (.string (itS n)) ∧ Below w.heap.size w w'
theorem l16_step (N : Nat) (ih : SpN N) (n : Int) (w : World) (h0 : 0 ≤ n) (h1 : n < (N : Int) + 1) (h2 : n ≤ 1000000000000000000) : Calls Tryd.prog 21 #[.int .i64 n] w fun e w' => e = .returned (.string (itS n)) ∧ Below w.heap.size w w' := by
  have OS := one_str
  by_cases hn : n < 10
  · have HV := Lib.hid (itS_small h0 hn)
    have hw1 : IntKind.i64.wrap (48 + n) = 48 + n := IntWalk.i64_in _ (by omega)
    have hw2 : IntKind.u8.wrap (48 + n) = 48 + n := IntWalk.u8_in _ (by omega)
    have HB := Lib.hid ((Below.refl w.heap.size w).alloc (Nat.le_refl _) (.cells #[.int .u8 (48 + n)] 5))
    have OC := one_str (w.alloc (.cells #[.int .u8 (48 + n)] 5)) w.heap.size (48 + n) (one_cell _ _ _)
    go_enter Tryd.func21, Tryd.ntmps21
    go_wp2_with fail
    go_ret
    exact ⟨ret_str HV.out, HB.out⟩
  · have HV := Lib.hid (itS_big (n := n) (by omega))
    have e1 : n.tdiv 10 = n / 10 := Int.tdiv_eq_ediv_of_nonneg (by omega)
    have e2 : n.tmod 10 = n % 10 := Int.tmod_eq_emod_of_nonneg (by omega)
    have IH := Lib.hid (fun W => ih (n.tdiv 10) W (by omega) (by omega))
    have hs := itS_size (n := n.tdiv 10) (by omega) (by omega)
    obtain ⟨q, hq⟩ : ∃ q, n.tdiv 10 = q := ⟨_, rfl⟩
    rw [hq] at IH HV hs e1
    have r0 : 0 ≤ n.tmod 10 ∧ n.tmod 10 < 10 := by omega
    have q0 : 0 ≤ q ∧ q ≤ 1000000000000000000 := by omega
    have hq' : IntKind.i64.wrap (n.tdiv 10) = q := by rw [hq]; exact IntWalk.i64_in _ (by omega)
    have hr' : IntKind.i64.wrap (n.tmod 10) = n.tmod 10 := IntWalk.i64_in _ (by omega)
    have hw1 : IntKind.i64.wrap (48 + n.tmod 10) = 48 + n.tmod 10 := IntWalk.i64_in _ (by omega)
    have hw2 : IntKind.u8.wrap (48 + n.tmod 10) = 48 + n.tmod 10 := IntWalk.u8_in _ (by omega)
    obtain ⟨D, hD⟩ : ∃ D, strOfNums [48 + n.tmod 10] = D := ⟨_, rfl⟩
    have OCW := Lib.hid (fun W g h => hD ▸ one_str W g (48 + n.tmod 10) h)
    have hDs : D.size = 1 := by rw [← hD, strOfNums_size]; rfl
    rw [hD] at HV
    have HA : ¬ ((itS q).size + D.size > 9223372036854775807) := by omega
    have SA : ∀ W : World, (Op.stringOp .add (itS q) D).run Tryd.prog W = .ok (.string (itS q ++ D)) W := fun W => run_string_add_sum W _ _ (by omega)
    have SB : ∀ W : World, (binOp .add 9 (.string (itS q)) (.string D)).run Tryd.prog W = .ok (.string (itS q ++ D)) W := fun W => SA W
    clear hq e1 e2 ih hD hs OS
    have OC0 := OCW.out (w.alloc (.cells #[.int .u8 (48 + n.tmod 10)] 5)).drew w.heap.size (one_cell w _ _)
    have HB0 := Lib.hid (show Below w.heap.size w (w.alloc (.cells #[.int .u8 (48 + n.tmod 10)] 5)).drew from below_drewN ((Below.refl w.heap.size w).alloc (Nat.le_refl _) (.cells #[.int .u8 (48 + n.tmod 10)] 5)) 1)
    go_enter Tryd.func21, Tryd.ntmps21
    go_wp2_with fail
    have hdrew : Below w.heap.size w w.drew := below_drewN (Below.refl w.heap.size w) 1
    go_region_with (first
      | (go_at_call 21; (with_reducible refine (IH.out w.drew).mono ?_); rintro e w1 ⟨rfl, hb⟩; have HB1 := Lib.hid ((hdrew.trans hb).alloc (hdrew.trans hb).size (.cells #[.int .u8 (48 + n.tmod 10)] 5)); clear hb; have OC1 := OCW.out (w1.alloc (.cells #[.int .u8 (48 + n.tmod 10)] 5)) w1.heap.size (one_cell _ _ _))
      | (go_at_call 21; (with_reducible refine (IH.out _).mono ?_); rintro e w1 ⟨rfl, hb⟩; have OC2 := OCW.out w1 w.heap.size ((hb.cell (p := ⟨w.heap.size, 0, none⟩) (by simp)).trans (one_cell w _ _)); have HB2 := Lib.hid (HB0.out.trans (hb.mono HB0.out.size)); clear hb))
    all_goals
      go_wp2_with fail
      go_ret
      first
        | exact ⟨ret_str HV.out, HB1.out⟩
        | exact ⟨ret_str HV.out, HB2.out⟩
theorem l16_all : ∀ N : Nat, N ≤ 1000000000000000001 → SpN N
  | 0, _ => fun n w h0 h1 => absurd h1 (by omega)
  | N + 1, h => fun n w h0 h1 => l16_step N (l16_all N (by omega)) n w h0 (by omega) (by omega)
theorem l16Number_any (n : Int) (w : World) (h0 : 0 ≤ n) (h1 : n ≤ 1000000000000000000) : Calls Tryd.prog 21 #[.int .i64 n] w fun e w' => e = .returned (.string (itS n)) ∧ Below w.heap.size w w' :=
  l16_all (n.toNat + 1) (by omega) n w h0 (by omega)
end Go.Proofs.YtjagidpjdajpnaaDoor
