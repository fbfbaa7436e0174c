/-
  Numbers as decimal texts: strconv.FormatInt at base 10, impl.decimal, spec.l09Decimal.
-/
import Derived.Test.YtmhmhbiihcdgiaaDoorEx
import Derived.Test.YtmhmhbiihcdgiaaDoorApp
import Derived.Test.YtmhmhbiihcdgiaaDoorDecP
import Derived.Lib.MinMax
import Derived.Test.YtmhmhbiihcdgiaaDoorShelf
namespace Go.Proofs.YtmhmhbiihcdgiaaDoor
open Go.ChangeShapes Go.WideShapes Go.ChangeAt Go.RowKit
set_option linter.unusedVariables false

abbrev Tab (w : World) : Prop := Lib.TabIs Tryd.prog w "internal/strconv.uint64pow10" .u64 Lib.pow10Tab
theorem Tab.below {w w' : World} (h : Tab w) (hb : Below w.heap.size w w') : Tab w' := by
  unfold Tab Lib.TabIs World.var? at *
  cases hg : Tryd.prog.globalNamed "internal/strconv.uint64pow10" with
  | none => simp [hg] at h
  | some g =>
    simp only [hg, Option.bind_some] at h ⊢
    have hlt : g < w.heap.size := by
      rcases Nat.lt_or_ge g w.heap.size with h1 | h1
      · exact h1
      · rw [Array.getElem?_eq_none h1] at h; simp at h
    rw [hb.block g hlt]
    exact h
/-- the text of a number -/
def itS (n : Int) : ByteArray := ⟨(Lib.itoa n).toArray⟩
theorem below_grow {w a : World} (h : Below w.heap.size w a) (os : Array Obj) : Below w.heap.size w (Sort.grow a os) := by
  refine ⟨h.os, h.tape, h.output, ?_, fun i hi => ?_⟩
  · have := h.size
    simp only [Sort.grow, Array.size_append]
    omega
  · rw [← h.block i hi]
    have := h.size
    exact Array.getElem?_append_left (by omega)
theorem formatInt_any (n : Int) (w : World) (h0 : -9223372036854775808 ≤ n) (h1 : n ≤ 9223372036854775807) (ht : Tab w) :
    Calls Tryd.prog 26 #[.int .i64 n, .int .i64 10] w fun e w' => e = .returned (.string (itS n)) ∧ Below w.heap.size w w' := by
  refine (Tryd.strconv_FormatInt_10 n h0 h1 w ht).mono ?_
  rintro e w' ⟨rfl, k, os, rfl⟩
  refine ⟨rfl, ?_⟩
  exact below_grow (below_drewN (Below.refl _ _) k) os
theorem decimal_any (n : Int) (w : World) (h0 : -9223372036854775808 ≤ n) (h1 : n ≤ 9223372036854775807) (ht : Tab w) :
    Calls Tryd.prog 22 #[.int .i64 n] w fun e w' => e = .returned (.string (itS n)) ∧ Below w.heap.size w w' := by
  have FI := Lib.hid (formatInt_any n w h0 h1 ht)
  go_enter Tryd.func22, Tryd.ntmps22
  go_wp2_with fail
  refine FI.out.mono ?_
  rintro e w1 ⟨rfl, hb⟩
  go_wp2_with fail
  go_ret
  exact ⟨rfl, hb⟩
def lenS (v : Value) : Nat := match v with | .slice _ n _ => n | _ => 0
theorem info_u8 : (Tryd.prog.info? 5).map (fun i => (i.zero, i.size, i.bytes)) = some (some (.int .u8 0), 1, 1) := by kernel_rfl
theorem itS_neg {n : Int} (h : n < 0) : itS n = (⟨#[45]⟩ : ByteArray) ++ strOfNums (decL n.natAbs) := by
  rw [strOfNums_dec, itS, Lib.itoa, if_pos h]
  simp [ByteArray.mk_append_mk]
theorem itS_nn {n : Int} (h : ¬ n < 0) : itS n = strOfNums (decL n.natAbs) := by
  have e : n.toNat = n.natAbs := by omega
  rw [strOfNums_dec, itS, Lib.itoa, if_neg h, e]
theorem u8_cells {xs : List Int} : ∀ u ∈ xs.map (Value.int .u8), u.oneCell' = true := by
  intro u hu
  obtain ⟨x, _, rfl⟩ := List.mem_map.1 hu
  rfl
set_option maxRecDepth 16000 in
set_option maxHeartbeats 1600000 in
theorem l09Decimal_any (n : Int) (w : World) (h0 : -1000000000000000000 ≤ n) (h1 : n ≤ 1000000000000000000) :
    Calls Tryd.prog 17 #[.int .i64 n] w fun e w' => e = .returned (.string (itS n)) ∧ Below w.heap.size w w' := by
  have O0 := Lib.hid (Own.new w w.heap.size 5 1 #[] 0 (Nat.le_refl _) (by unfold maxLen; omega) rfl)
  have B0 := Lib.hid ((Below.refl w.heap.size w).alloc (Nat.le_refl _) (.cells #[] 5))
  go_enter Tryd.func17, Tryd.ntmps17
  go_wp2_with fail
  go_loopw [3, 4] (fun dv rv wr => ∃ (g L c : Nat) (xs : List Int) (r : Int), dv = .slice (some ⟨g, 0, none⟩) L c ∧ rv = .int .i64 r ∧ -1000000000000000000 ≤ r ∧ r ≤ 1000000000000000000 ∧ L ≤ 400 ∧ Hid (xs.length = L) ∧ Hid (L + r.natAbs ≤ L + r.natAbs) ∧ Hid (decL n.natAbs = preD r xs ++ xs) ∧ Hid (Own wr w.heap.size 5 1 g c L (xs.map (.int .u8))) ∧ Hid (Below w.heap.size w wr)) (fun dv rv _ => 2 * (intOf rv).natAbs + (1 - lenS dv))
  case atStart => exact ⟨_, 0, _, [], n, rfl, rfl, h0, h1, by omega, Lib.hid rfl, Lib.hid (Nat.le_refl _), Lib.hid (by rw [preD, if_neg (by simp), List.append_nil]), O0, B0⟩
  case round =>
    obtain ⟨g, L, c, xs, r, rfl, rfl, r0, r1, hL, HL, _, HD, HO, HB⟩ := hrel
    have hlen : xs.length ≤ 20 := by
      have h1 := decL_len 18 n.natAbs (by omega)
      rw [HD.out, List.length_append] at h1
      omega
    have hm1 : (-9223372036854775808 ≤ r.tmod 10 ∧ r.tmod 10 ≤ 9223372036854775807) ∧ (-10 < r.tmod 10 ∧ r.tmod 10 < 10) := by
      have := Int.tmod_lt_of_pos r (show (0:Int) < 10 by omega)
      have h2 : (r.tmod 10).natAbs = r.natAbs % 10 := by rw [Int.natAbs_tmod]; rfl
      omega
    have HW1 : IntKind.i64.wrap (r.tmod 10) = r.tmod 10 := IntWalk.i64_in _ (by omega)
    have HW2 : IntKind.i64.wrap (-(r.tmod 10)) = -(r.tmod 10) := IntWalk.i64_in _ (by omega)
    have HW3 : IntKind.i64.wrap (r.tdiv 10) = r.tdiv 10 := by
      have h2 : (r.tdiv 10).natAbs = r.natAbs / 10 := by rw [Int.natAbs_tdiv]; rfl
      exact IntWalk.i64_in _ (by omega)
    have HC : (convert 48 9 (.slice (some ⟨g, 0, none⟩) L c)).run Tryd.prog wr = .ok (.string (strOfNums xs)) wr := by
      refine run_convert_bytes_arg wr 48 5 Tryd.underlying48 Tryd.underlying5 g 0 L c xs HL.out (fun i hi => ?_) 9 Tryd.underlying9
      refine (show wr.cell? ((⟨g, 0, none⟩ : Addr).add i) = wr.cell? ⟨g, 0 + i, none⟩ by unfold Addr.add; split <;> simp_all).symm.trans ?_
      refine World.ownsRow.cells HO.out rfl i _ ?_
      have := HL.out
      rw [List.getElem?_map, List.getElem?_eq_getElem (by omega), List.getD_eq_getElem?_getD, List.getElem?_eq_getElem (by omega)]
      rfl
    have HA : ¬ ((⟨#[45]⟩ : ByteArray).size + (strOfNums xs).size > 9223372036854775807) := by
      rw [strOfNums_size]
      have : (⟨#[45]⟩ : ByteArray).size = 1 := rfl
      omega
    have HE := Lib.hid (fun (h : r = 0) (h1 : ¬ L = 0) => show strOfNums xs = strOfNums (decL n.natAbs) by
      have := HL.out
      rw [HD.out, preD, if_pos ⟨h, fun e => h1 (by rw [e] at this; simpa using this.symm)⟩, List.nil_append])
    have HN := Lib.hid (fun (h : ¬ (r = 0 ∧ xs ≠ [])) => preD_step HD.out h)
    go_wp2_with (at_builtin; refine app_own rfl (.tmp 25) (.tmp 26) 48 rfl w.heap.size 5 (.int .u8 0) 1 1 Tryd.underlying48 info_u8 rfl (by omega) (by omega) wr.heap.size 1 1 _ rfl (Own.new wr w.heap.size 5 1 #[_] 1 HB.out.size (by unfold maxLen; omega) rfl) ⟨g, 0, none⟩ L c (xs.map (.int .u8)) rfl (by rw [List.length_map, HL.out, Nat.mul_one]) (fun j u hj => World.ownsRow.cells (HO.out.alloc _) rfl j u hj) u8_cells (by omega) (by have := HB.out.size; simp; omega) ?_; intro g1 p1 w1 ho1 hg1; have HB1 := Lib.hid ((HB.out.alloc HB.out.size _).grown hg1 (by have := HB.out.size; simp; omega) (fun k e => by injection e with e; have := HB.out.size; omega)); replace ho1 := Lib.hid ho1; clear hg1)
    · have hl : L = 0 := by
        have h : ((L : Int) == 0) = true := by assumption
        simpa using h
      have hr : r = 0 := by assumption
      have hx : xs = [] := List.eq_nil_of_length_eq_zero (by rw [HL.out]; exact hl)
      have h2 := HN.out (fun e => e.2 hx)
      rw [hr] at h2
      subst hl
      exact ⟨⟨_, _, _, 48 :: xs, 0, rfl, rfl, by omega, by omega, by omega, Lib.hid (by simp [HL.out]), Lib.hid (Nat.le_refl _), Lib.hid h2, ho1, HB1⟩, by rw [hr]; simp [intOf, lenS]⟩
    · have hl : ¬ L = 0 := by
        have h : ((L : Int) == 0) = false := by assumption
        simpa using h
      have hr : r = 0 := by assumption
      have hn : n < 0 := by assumption
      go_ret
      exact ⟨by rw [itS_neg hn, HE.out hr hl]; rfl, HB.out⟩
    · have hl : ¬ L = 0 := by
        have h : ((L : Int) == 0) = false := by assumption
        simpa using h
      have hr : r = 0 := by assumption
      have hn : 0 ≤ n := by assumption
      go_ret
      exact ⟨by rw [itS_nn (by omega), HE.out hr hl]; rfl, HB.out⟩
    · have hr : ¬ r = 0 := by assumption
      have h2 := HN.out (fun e => hr e.1)
      have h3 : (r.tdiv 10).natAbs = r.natAbs / 10 := by rw [Int.natAbs_tdiv]; rfl
      have hv : (48 + max (r.tmod 10) (-(r.tmod 10)) : Int) = ((48 + r.natAbs % 10 : Nat) : Int) := by rw [max_dig]; omega
      rw [hv] at ho1
      refine ⟨⟨_, _, _, ((48 + r.natAbs % 10 : Nat) : Int) :: xs, _, rfl, rfl, by omega, by omega, by have := HL.out; omega, Lib.hid (by rw [List.length_cons, HL.out, Nat.add_comm]), Lib.hid (Nat.le_refl _), Lib.hid h2, ho1, HB1⟩, ?_⟩
      simp only [intOf, lenS, h3]
      omega
end Go.Proofs.YtmhmhbiihcdgiaaDoor
