/-
  FnMoneyPoints returns true for every code: the take points for money are Shares that come closer to one fifth with every redouble, from above and from below in turn. No condition.
-/
import Derived.Test.YtjagidpjdajpnaaDrawP
import Derived.Test.YtjagidpjdajpnaaMtp
namespace Go.Proofs.Ytjagidpjdajpnaa
open Go.ChangeShapes Go.WideShapes Go.ChangeAt Go.RowKit
set_option linter.unusedVariables false

theorem mt_more : ∀ k : Fin 21, shB (mtN k.val) (mtD k.val) = true ∧ (decide (mtD k.val < 5 * mtN k.val) = decide ((k.val : Int) % 2 = 0)) ∧ (5 * mtN k.val == mtD k.val) = false := by decide +kernel
theorem mt_closer : ∀ k : Fin 20, mtD (k.val + 1) = 4 * mtD k.val ∧ max (5 * mtN (k.val + 1) - mtD (k.val + 1)) (-(5 * mtN (k.val + 1) - mtD (k.val + 1))) < max (4 * (5 * mtN k.val - mtD k.val)) (-(4 * (5 * mtN k.val - mtD k.val))) := by decide +kernel

set_option maxHeartbeats 1600000 in
theorem walk_FnMoneyPoints (w : World) (ax0 : Option Addr) (nx0 cx0 : Nat) (x0 : List Int) (wx0 : IntsArg w .u8 ax0 nx0 x0) :
    Calls Try.prog 4 #[.slice ax0 nx0 cx0] w fun e w' => e = .returned (.bool true) ∧ Below w.heap.size w w' := by
  by_cases hbig : 4096 < nx0
  · have hb : decide (4096 < (nx0 : Int)) = true := by simp; omega
    go_enter Try.func4, Try.ntmps4
    go_wp2_with fail
    refine (big_any _ _ _ _).mono ?_
    rintro e w1 ⟨rfl, rfl⟩
    go_wp2_with fail
    go_ret
    exact ⟨rfl, Below.refl _ _⟩
  · have hb : decide (4096 < (nx0 : Int)) = false := by simp; omega
    go_enter Try.func4, Try.ntmps4
    go_wp2_with fail
    refine (big_any _ _ _ _).mono ?_
    rintro e w1 ⟨rfl, rfl⟩
    go_wp2_with fail
    refine (DrawMoneyTakePoint_any _ _ _ _ _ wx0 (by omega)).mono ?_
    rintro e w1 ⟨k, rfl, klo, khi, hb1⟩
    go_wp2_with fail
    refine (impl_MoneyTakePoint_any _ _).mono ?_
    rintro e w2 ⟨rfl, hb2⟩
    have hB2 := hb1.trans (hb2.mono hb1.size)
    obtain ⟨n, hn⟩ : ∃ n, mtpN k = n := ⟨_, rfl⟩
    obtain ⟨d, hd⟩ : ∃ d, mtpD k = d := ⟨_, rfl⟩
    obtain ⟨c, hc⟩ : ∃ c, mtpC k = c := ⟨_, rfl⟩
    rw [hn, hd, hc]
    have Hn := Lib.hid hn
    have Hd := Lib.hid hd
    have Hc := Lib.hid hc
    clear hn hd hc
    go_wp2_with fail
    have hr1 := two_new w2 n d 23
    have hB2a := hB2.alloc hB2.size (.cells #[.int .i64 n, .int .i64 d] 23)
    refine (spec_MoneyTakePoint_any _ _).mono ?_
    rintro e w3 ⟨rfl, hb3⟩
    rw [Hn.out, Hd.out, Hc.out]
    replace hr1 := rowIs_below hr1 hb3 hr1.lt
    have hB3 := hB2a.trans (hb3.mono hB2a.size)
    obtain ⟨c0, c1, _, _⟩ := two_cells hr1
    have hz := hr1.lt
    replace hB3 := hB3.alloc hB3.size (.cells #[.int .i64 n, .int .i64 d] 23)
    cases hk : wB k 0 20
    · obtain ⟨h1, h2, h3⟩ := mtp_no hk
      obtain rfl : n = 0 := Hn.out.symm.trans h1
      obtain rfl : d = 0 := Hd.out.symm.trans h2
      obtain rfl : c = 2 := Hc.out.symm.trans h3
      clear h1 h2 h3 hk
      go_wp2_with fail
      go_ret
      exact ⟨rfl, hB3⟩
    · obtain ⟨k1, k2⟩ := wB_true.1 hk
      obtain ⟨q, rfl⟩ := Int.eq_ofNat_of_zero_le k1
      obtain ⟨h1, h2, h3⟩ := mtp_yes hk
      obtain rfl : c = 0 := Hc.out.symm.trans h3
      have e1 := Hn.out.symm.trans h1
      have e2 := Hd.out.symm.trans h2
      have hm := mt_more ⟨q, by omega⟩
      simp only [← e1, ← e2] at hm
      obtain ⟨m1, m2, m3⟩ := hm
      have hf := mt_facts (k := q) (by omega)
      rw [← e1, ← e2] at hf
      obtain ⟨f1, f2, f3, f4, _⟩ := hf
      have E1 := Lib.hid e1
      have E2 := Lib.hid e2
      have M1 := Lib.hid m1
      have M2 := Lib.hid m2
      rcases Nat.eq_zero_or_pos q with rfl | hq
      · obtain rfl : n = 1 := E1.out
        obtain rfl : d = 4 := E2.out
        clear m1 m2 m3 e1 e2 h1 h2 h3
        go_wp2_with fail
        refine (spec_IsShare_any _ _ _).mono ?_
        rintro e w4 ⟨rfl, hb4⟩
        rw [show shB 1 4 = true from M1.out]
        replace hr1 := rowIs_below (hr1.alloc (.cells #[.int .i64 1, .int .i64 4] 23)) hb4 (by simp; omega)
        have hB4 := hB3.trans (hb4.mono hB3.size)
        obtain ⟨c0, c1, _, _⟩ := two_cells hr1
        have hz4 := hr1.lt
        go_wp2_with fail
        go_ret
        exact ⟨rfl, hB4⟩
      · obtain ⟨r, rfl⟩ : ∃ r, q = r + 1 := ⟨q - 1, by omega⟩
        have hr0 : ((r : Int) + 1 == 0) = false := by simp; omega
        have hpar : (d < 5 * n ∧ (((r : Int) + 1) % 2 == 0) = true) ∨ (5 * n ≤ d ∧ (((r : Int) + 1) % 2 == 0) = false) := by
          by_cases hp : ((r : Int) + 1) % 2 = 0
          · exact .inl ⟨by simpa [hp] using m2, by simpa using hp⟩
          · exact .inr ⟨by simpa [hp] using m2, by simpa using hp⟩
        obtain ⟨g1, g2⟩ := mt_closer ⟨r, by omega⟩
        have f5 := mt_facts (k := r) (by omega)
        obtain ⟨u, eu⟩ : ∃ u, mtN r = u := ⟨_, rfl⟩
        obtain ⟨v, ev⟩ : ∃ v, mtD r = v := ⟨_, rfl⟩
        simp only [eu, ev] at g1 g2 f5
        rw [← e1, ← e2] at g2
        rw [← e2] at g1
        obtain ⟨f5a, f5b, f5c, f5d, _⟩ := f5
        have hk' : wB (r : Int) 0 20 = true := wB_true.2 (by omega)
        obtain ⟨y1, y2, y3⟩ := mtp_yes hk'
        have Y1 := Lib.hid (y1.trans eu)
        have Y2 := Lib.hid (y2.trans ev)
        have Y3 := Lib.hid y3
        have G1 := Lib.hid g1
        have G2 := Lib.hid g2
        clear h1 h2 h3 e1 e2 m1 m2 eu ev g1 g2 y1 y2 y3 hk' hk
        rcases hpar with ⟨hp1, hp2⟩ | ⟨hp1, hp2⟩
        all_goals
          go_wp2_with fail
          refine (spec_IsShare_any _ _ _).mono ?_
          rintro e w4 ⟨rfl, hb4⟩
          rw [M1.out]
          replace hr1 := rowIs_below (hr1.alloc (.cells #[.int .i64 n, .int .i64 d] 23)) hb4 (by simp; omega)
          have hB4 := hB3.trans (hb4.mono hB3.size)
          obtain ⟨c0, c1, _, _⟩ := two_cells hr1
          have hz4 := hr1.lt
          go_wp2_with fail
          refine (impl_MoneyTakePoint_any _ _).mono ?_
          rintro e w5 ⟨rfl, hb5⟩
          rw [Y1.out, Y2.out, Y3.out]
          replace hr1 := rowIs_below hr1 hb5 hr1.lt
          have hB5 := hB4.trans (hb5.mono hB4.size)
          obtain ⟨c0, c1, _, _⟩ := two_cells hr1
          have hz5 := hr1.lt
          have hdd : (d == 4 * v) = true := by rw [G1.out]; simp
          have hdd2 : (d != 4 * v) = false := by rw [G1.out]; simp
          go_wp2_with fail
          go_quiet (fail)
          go_wp2_with fail
          all_goals
            go_ret
            exact ⟨ret_bool (by have g := G2.out; symm; apply decide_eq_true; omega), below_drewN (hB5.alloc hB5.size _) _⟩
namespace fnMoneyPoints
set_option linter.unusedVariables false
set_option maxRecDepth 100000 in
theorem lifted (os : Os) (started : os.Started) (H : Type) (enc : TypeId × Value → H) :
    ReturnsInHanded {} Try.checked os 4 .any (Rows.fnMoneyPointsSpec.pre6 enc Try.prog Try.f4 Rows.fnMoneyPointsRow.domain false) (Rows.fnMoneyPointsSpec.post enc Try.prog Try.f4 false true false false) := by
  refine returnsInHanded_of_change (C := Try.checked) own started (by kernel_rfl) Try.func4
    (ChangeSpec.witness6 (enc := enc) (C := Try.checked) false ⟨#[], #[.slice none 0 0], []⟩ 8 (by kernel_rfl) (by kernel_rfl) (by kernel_rfl) (by kernel_rfl)) ?_
  intro W base args ds gs before hval0 hW hcnd _
  have hval : ∀ (j : Nat) t v, Try.f4.params[j]? = some t → args[j]? = some v → Value.okWide Try.prog W .any base t v := hval0
  have hW' := hW
  obtain ⟨p, q, hA0, hV, rfl, hfz, hnd⟩ := hW
  have hA : DataW.TrodAll enc Try.prog W 0 (fun _ => true) true Try.f4.params.toList args.toList ds p := hA0
  rw [Try.params4] at hA hval
  obtain ⟨v0, vs0, d0, ds0, p0, q0, hargs, rfl, rfl, h0, r0⟩ := trodAll_cons hA
  obtain ⟨rfl, rfl, rfl⟩ := trodAll_nil r0
  obtain rfl : args = #[v0] := by cases args; simp_all
  obtain ⟨rfl, rfl⟩ := trodVars_none hV
  obtain ⟨ax0, nx0, cx0, x0, rfl, wx0⟩ := open_ints_arg Try.underlying28 Try.underlying5 (by kernel_rfl) (hval 0 28 v0 rfl rfl) h0
  clear hA0 hval0
  refine (walk_FnMoneyPoints W ax0 nx0 cx0 x0 wx0).mono fun e W' ⟨he, bel⟩ => ?_
  subst he
  exact ⟨_, rfl, _, _, _, [], _, [], hW', trodAll_mk1 (shut_bool Try.underlying4 _), (trodAll_cons_mk (Below.trod laidOut (by kernel_rfl) (of_decide_eq_true (by kernel_rfl)) h0 bel (lt_of_trod h0)) trodAll_mk0), rfl, bel.frame _, fun h => by cases h⟩

theorem over : Rows.fnMoneyPointsRow.holds Try.pinned (OpenSpec.ofChange Rows.fnMoneyPointsSpec) :=
  OpenClaim.holds_of_wide 4 Try.f4 rfl rfl rfl rfl rfl rfl rfl ⟨rfl, rfl, rfl, rfl, rfl⟩ rfl rfl rfl rfl rfl (by kernel_rfl) Try.func4 (by kernel_rfl)
    (of_decide_eq_true (by kernel_rfl)) (by unfold Func.isWrapper; first | (rw [if_pos (by decide +kernel)]; kernel_rfl) | (rw [if_neg (by decide +kernel)]; exact ⟨rfl, rfl⟩))
    (fun os started H enc _ => lifted os started H enc)
theorem proved : Rows.FnMoneyPointsSaid := over
#print axioms proved
end fnMoneyPoints
end Go.Proofs.Ytjagidpjdajpnaa
