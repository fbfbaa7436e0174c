/-
  FnOutput returns true for every code: the output of a network is that of a network without hidden inputs for the values of the hidden units. No condition.
-/
import Derived.Test.YtcpbaigghhjceaaOutF
import Derived.Test.YtcpbaigghhjceaaOutP
import Derived.Test.YtcpbaigghhjceaaLike
import Derived.Deep.Heap
namespace Go.Proofs.Ytcpbaigghhjceaa
open Go.ChangeShapes Go.WideShapes Go.ChangeAt Go.RowKit
set_option linter.unusedVariables false

theorem blkA {W : World} {g : Nat} {x : Option Obj} (h : W.heap[g]? = x) (hl : g < W.heap.size) (o : Obj) : (W.alloc o).heap[g]? = x := (Deep.blk_alloc_lt _ _ _ hl).trans h
theorem blkN {W : World} {g : Nat} {o : Obj} (h : g = W.heap.size) : (W.alloc o).heap[g]? = some o := by subst h; exact Deep.blk_alloc_new _ _
theorem below_drew {w w' : World} {B : Nat} (h : Below B w w') : Below B w w'.drew := below_drewN h 1
theorem blkS {W : World} {g : Nat} {x : Option Obj} {a : Addr} (h : W.heap[g]? = x) (hl : g ≠ a.block) (u : Value) : (W.setCell a u).heap[g]? = x := (Deep.blk_setCell_other _ _ _ _ hl).trans h
theorem blkG {W W' : World} {g k : Nat} {x : Option Obj} (hg : W.grownBy W' (some g)) (h : W.heap[k]? = x) (hl : k < W.heap.size) (hn : k ≠ g) : W'.heap[k]? = x := (hg.block k hl (fun e => hn (by injection e))).trans h
theorem rowG {W W' : World} {g k : Nat} {t : TypeId} {n : Nat} {f : Nat → Value} (hg : W.grownBy W' (some g)) (h : W.rowIs k t n f) (hl : k < W.heap.size) (hn : k ≠ g) : W'.rowIs k t n f := h.of_block (hg.block k hl (fun e => hn (by injection e)))
theorem outA {lo hi : Nat} {w0 w : World} (h : Out lo hi w0 w) (o : Obj) : Out lo hi w0 (w.alloc o) := h.after ((Below.refl _ _).alloc (Nat.le_refl _) o)
theorem four_newN {w : World} {b : Nat} {p q r s : Value} {t : TypeId} (h : b = w.heap.size) : (w.alloc (.cells #[p, q, r, s] t)).rowIs b t 4 (four p q r s) := by subst h; exact four_new w p q r s t
theorem withRow {W W' : World} {g k : Nat} {t : TypeId} {G : Prop} (hg : W.grownBy W' (some g)) (h : W.rowIs k t 4 (four (.int .i64 0) (.int .i64 0) (.slice none 0 0) (.slice none 0 0))) (hl : k < W.heap.size) (hn : k ≠ g)
    (H : W'.frozen? ⟨k, 0, none⟩ = false → W'.frozen? ⟨k, 1, none⟩ = false → W'.frozen? ⟨k, 2, none⟩ = false → W'.frozen? ⟨k, 3, none⟩ = false → W'.cell? ⟨k, 0, none⟩ = some (.int .i64 0) → W'.cell? ⟨k, 1, none⟩ = some (.int .i64 0) → W'.cell? ⟨k, 2, none⟩ = some (.slice none 0 0) → W'.cell? ⟨k, 3, none⟩ = some (.slice none 0 0) → k < W'.heap.size → G) : G := by
  have h' := rowG hg h hl hn
  obtain ⟨c0, c1, c2, c3⟩ := four_cells h'
  exact H (h'.frozen 0) (h'.frozen 1) (h'.frozen 2) (h'.frozen 3) c0 c1 c2 c3 h'.lt
theorem four_set0 {w : World} {g t : Nat} (h : w.rowIs g t 4 (four (.int .i64 0) (.int .i64 0) (.slice none 0 0) (.slice none 0 0))) (p q r s : Value) : ((((w.setCell ⟨g, 0, none⟩ p).setCell ⟨g, 1, none⟩ q).setCell ⟨g, 2, none⟩ r).setCell ⟨g, 3, none⟩ s).rowIs g t 4 (four p q r s) := four_set h p q r s
theorem blkD {W : World} {g : Nat} {x : Option Obj} (h : W.heap[g]? = x) : W.drew.heap[g]? = x := h
theorem app_new {ops : Array Oper} {o : Oper} {a : Act} {w : World} {K : Act → World → Prop} {Q : Exit → Act → World → Prop} {E : Prop} (hgd : o.guard = none) (s x : Operand)
    (ho : o.op = .call { callee := .builtin .append, args := #[s, x], argTypes := #[22, 22] }) (g : Nat)
    (hs : a.eval s = .slice (some ⟨g, 0, none⟩) 0 0) (hg : w.heap[g]? = some (.cells #[] 2)) (ad : Addr) (zs : List Int) (m c : Nat) (hx : a.eval x = .slice (some ad) m c) (hm0 : 0 < m) (hm : m = zs.length) (hc : ∀ i, i < m → w.cell? (ad.add i) = some (.int .i64 (zs.getD i 0))) (hn : m ≤ 1048576)
    (h : ∀ r c' w', RowN w' r (r + 1) 2 (some ⟨r, 0, none⟩) m (icell .i64 zs) → (r = g ∨ r = w.heap.size) → r < w'.heap.size → m ≤ c' → c' ≤ 9223372036854775807 → w.grownBy w' (some g) → K (a.put o.dst (.slice (some ⟨r, 0, none⟩) m c')) w') :
    if Region.wanted o (yielded ops a.tmps) = true then Oper.wp Try.prog o a w K Q else E := by
  obtain ⟨i, hi, hz, hsize, hb⟩ := info_parts info_int
  have hgl : g < w.heap.size := by
    rcases Nat.lt_or_ge g w.heap.size with h | h
    · exact h
    · rw [Array.getElem?_eq_none h] at hg; cases hg
  refine step_append_lies _ hgd s x 22 ho g 2 i (.int .i64 0) 1 8 Try.underlying22 hi hz hsize hb rfl (by omega) _ 0 [] hs ⟨rfl, .inr ⟨g, 0, #[], rfl, Nat.le_refl _, hg, Nat.le_refl _, Nat.zero_le _, rfl, rfl⟩⟩ ad m c (zs.map (.int .i64)) hx (by simp [hm]) ?_ ints_cells hm0 (by unfold maxLen; omega) (by omega) (by omega) w.heap.size rfl ?_
  · intro j u hj
    rw [List.getElem?_map] at hj
    obtain ⟨y, hy, rfl⟩ := Option.map_eq_some_iff.1 hj
    have hlt : j < zs.length := (List.getElem?_eq_some_iff.1 hy).1
    rw [hc j (by omega), List.getD_eq_getElem?_getD, hy]
    rfl
  · intro r cap w' hv' hg' hl hr
    rw [Nat.zero_add, List.nil_append] at hv'
    rw [Nat.zero_add]
    have hcap : m ≤ cap ∧ cap ≤ 9223372036854775807 := by
      obtain ⟨_, ⟨h1, h2⟩ | ⟨g', cap', cur, h1, h2, h3, h4, h5, _⟩⟩ := hv'
      · cases h1
      · injection h1 with e1 e2 e3
        subst e3
        unfold maxLen at h5
        omega
    have hrow := (RowN.of_own hv').congr (f' := icell .i64 zs) fun i hi => ints_getD .i64 zs (by omega)
    rw [Nat.mul_one] at hrow
    refine h r cap w' (rown_at hrow hm0) ?_ hr hcap.1 hcap.2 hg'
    rcases hl with hl | hl
    · exact .inl (by simpa [Value.ownBlock] using hl.symm)
    · exact .inr hl
theorem Ints.of_blk2 {W : World} {z : Nat} (h : W.heap[z]? = some (.cells #[.int .i64 0, .int .i64 0] 2)) : Ints W W.heap.size .i64 (some ⟨z, 0, none⟩) 2 [0, 0] := by
  have hl : z < W.heap.size := by
    rcases Nat.lt_or_ge z W.heap.size with h' | h'
    · exact h'
    · rw [Array.getElem?_eq_none h'] at h; cases h
  refine ⟨rfl, fun _ => ⟨z, 0, rfl, hl, fun t ht => ?_⟩⟩
  have e := cell_of_row W z (0 + t) _ _ _ h
  rw [e]
  match t, ht with
  | 0, _ => rfl
  | 1, _ => rfl

theorem finR {w4 w5 wx : World} {b r5 c5 z q k : Nat} {zs : List Int} (h1 : wx.rowIs b 27 4 (four (.int .i64 (k : Int)) (.int .i64 1) (.slice (some ⟨r5, 0, none⟩) q c5) (.slice (some ⟨z, 0, none⟩) 2 2))) (ho : Out b (b + 1) w5 wx) (hd : r5 + 1 ≤ b ∨ b + 1 ≤ r5)
    (hz : wx.heap[z]? = some (.cells #[.int .i64 0, .int .i64 0] 2)) (hb : Below w4.heap.size w4 wx) (hr : RowN w5 r5 (r5 + 1) 2 (some ⟨r5, 0, none⟩) q (icell .i64 zs)) (hl : zs.length = q) (k1 : q ≤ c5) (k2 : c5 ≤ 9223372036854775807) :
    ∃ (b' : Nat) (A1 : Option Addr) (c1 : Nat) (B1 : Option Addr), (Value.pointer (some ⟨b, 0, none⟩)) = .pointer (some ⟨b', 0, none⟩) ∧ wx.rowIs b' 27 4 (four (.int .i64 (k : Int)) (.int .i64 1) (.slice A1 q c1) (.slice B1 2 2)) ∧ Ints wx wx.heap.size .i64 A1 q zs ∧ Ints wx wx.heap.size .i64 B1 2 [0, 0] ∧ q ≤ c1 ∧ c1 ≤ 9223372036854775807 ∧ Below w4.heap.size w4 wx :=
  ⟨b, _, _, _, rfl, h1, (hr.out ho hd).ints hl, Ints.of_blk2 hz, k1, k2, hb⟩
theorem Ints.b {w w' : World} {k : IntKind} {a : Option Addr} {n : Nat} {xs : List Int} (h : Ints w w.heap.size k a n xs) (hb : Below w.heap.size w w') : Ints w' w'.heap.size k a n xs := (h.below hb).more hb.size
set_option maxRecDepth 16000 in
set_option maxHeartbeats 8000000 in
theorem walk_FnOutput (w : World) (ax0 : Option Addr) (nx0 cx0 : Nat) (x0 : List Int) (wx0 : IntsArg w .u8 ax0 nx0 x0) :
    Calls Try.prog 9 #[.slice ax0 nx0 cx0] w fun e w' => e = .returned (.bool true) ∧ Below w.heap.size w w' := by
  by_cases hbig : 4096 < (nx0 : Int)
  · have hd : decide (4096 < (nx0 : Int)) = true := decide_eq_true hbig
    go_enter Try.func9, Try.ntmps9
    go_wp2_with fail
    refine (big_any _ _ _ _).mono ?_
    rw [hd]
    rintro e w1 ⟨rfl, rfl⟩
    go_wp2_with fail
    go_ret
    exact ⟨rfl, Below.refl _ _⟩
  · have hd : decide (4096 < (nx0 : Int)) = false := decide_eq_false hbig
    have DR := Lib.hid (DrawOutputOf_any ax0 nx0 cx0 x0 w wx0 (by omega))
    clear wx0 hbig
    go_enter Try.func9, Try.ntmps9
    go_wp2_with fail
    refine (big_any _ _ _ _).mono ?_
    rw [hd]
    rintro e w1 ⟨rfl, rfl⟩
    go_wp2_with fail
    refine DR.out.mono ?_
    rintro e w1 ⟨i, h, A, m, c, ys, B, q, d, zs, C, l, r, vs, rfl, k1, k2, k3, k4, hl, hA, hB, hC, hb⟩
    have hb0 := (Below.refl w1.heap.size w1).alloc (Nat.le_refl _) (.cells #[.int .i64 i, .int .i64 h, .slice A m c, .slice B q d] 27)
    have N1 := Lib.hid (four_new w1 (.int .i64 i) (.int .i64 h) (.slice A m c) (.slice B q d) 27)
    obtain ⟨W1, hW1⟩ : ∃ W, w1.alloc (.cells #[.int .i64 i, .int .i64 h, .slice A m c, .slice B q d] 27) = W := ⟨_, rfl⟩
    rw [hW1] at hb0 N1
    have zW : w1.heap.size + 1 = W1.heap.size := by rw [← hW1]; simp
    have IA := hA.1.b hb0
    have IB := hB.1.b hb0
    have IC := hC.1.b hb0
    have HB := hb.trans (hb0.mono hb.size)
    have HW1 := Lib.hid hW1
    obtain ⟨bx, hbx⟩ : ∃ b, w1.heap.size = b := ⟨_, rfl⟩
    rw [hbx] at N1 zW
    have HBX := Lib.hid hbx
    clear hA hB hC hb hb0 hW1 hd DR hbx
    obtain ⟨v0, v1, v2, v3⟩ := four_cells N1.out
    go_wp2_with fail
    rw [HW1.out, HBX.out]
    clear HW1 HBX
    refine (impl_OutputOf_any i h A m c ys B q d zs C l r vs _ W1 IA IB IC (Nat.le_refl _) k1 k2 (by omega) (by omega) (by omega)).mono ?_
    rintro e w2 ⟨rfl, hb⟩
    have N2 := Lib.hid (rowIs_below N1.out hb N1.out.lt)
    replace IA := IA.b hb
    replace IB := IB.b hb
    replace IC := IC.b hb
    replace HB := HB.trans (hb.mono HB.size)
    clear hb v0 v1 v2 v3 N1
    obtain ⟨v0, v1, v2, v3⟩ := four_cells N2.out
    go_wp2_with fail
    refine (impl_HiddenOf_any i h A m c ys B q d zs C l r vs _ w2 IA IB IC (Nat.le_refl _) k1 k2 (by omega) (by omega) (by omega)).mono ?_
    rintro e w3 ⟨a3, k, c3, rfl, hk, kc, kc2, hr, hb⟩
    have N3 := Lib.hid (rowIs_below N2.out hb N2.out.lt)
    replace IA := IA.b hb
    replace IB := IB.b hb
    replace IC := IC.b hb
    replace HB := HB.trans (hb.mono HB.size)
    have IH := hr.ints hk
    clear hb v0 v1 v2 v3 N2 hr
    obtain ⟨v0, v1, v2, v3⟩ := four_cells N3.out
    go_wp2_with fail
    refine (spec_OutputOf_any i h A m c ys B q d zs C l r vs _ w3 IA IB IC (Nat.le_refl _) k1 k2 (by omega) (by omega) (by omega)).mono ?_
    rintro e w4 ⟨rfl, hb⟩
    have N4 := Lib.hid (rowIs_below N3.out hb N3.out.lt)
    replace IB := IB.b hb
    replace IH := IH.b hb
    replace HB := HB.trans (hb.mono HB.size)
    clear hb v0 v1 v2 v3 N3 IA IC
    cases hV : netB i h m ys q zs && inB i l vs
    · have hne := netC_ne hV
      obtain ⟨K, hK⟩ : ∃ K, netC i h m ys q zs l vs = K := ⟨_, rfl⟩
      rw [hK] at hne
      have hKK : (K != K) = false := by simp
      have HO := Lib.hid (outV_no hV)
      have hk0 : k = 0 := by rw [hidV_no hV] at hk; simpa using hk.symm
      subst hk0
      rw [hK, HO.out]
      clear hK hV hk
      go_wp2_with fail
      go_ret
      exact ⟨rfl, HB⟩
    · simp only [Bool.and_eq_true] at hV
      obtain ⟨hV1, hV2⟩ := hV
      obtain ⟨m1, m2, m3, m4, m5, h1, h12, m6⟩ := one_unit hV1 hV2 IB.len
      have HC := Lib.hid (netC_yes hV1 hV2)
      have HHY := Lib.hid (hidV_yes hV1 hV2)
      have HOY := Lib.hid (outV_yes hV1 hV2)
      obtain ⟨H, rfl⟩ := Int.eq_ofNat_of_zero_le (show 0 ≤ h by omega)
      rw [Int.toNat_natCast] at m2 m3 m5
      have hkH : k = H := by rw [← hk]; exact m5
      subst hkH
      have y01 : 0 ≤ outV i k m ys q zs l vs ∧ outV i k m ys q zs l vs ≤ 4096 := by rw [HOY.out]; exact act_bd _
      have HH := Lib.hid (fun (t : Nat) (ht : t < k) => show 0 ≤ (hidV i k m ys q zs l vs).getD t 0 ∧ (hidV i k m ys q zs l vs).getD t 0 ≤ 4096 by
        rw [HHY.out]
        exact act_at (by rw [sumL_len, Int.toNat_natCast]; exact ht))
      obtain ⟨Y, hY⟩ : ∃ Y, outV i k m ys q zs l vs = Y := ⟨_, rfl⟩
      obtain ⟨L, hL⟩ : ∃ L, hidV i k m ys q zs l vs = L := ⟨_, rfl⟩
      rw [hY] at y01 m3
      rw [hL] at HH IH m2 m3
      obtain ⟨y0, y1⟩ := y01
      have M1 := Lib.hid m1
      have M2 := Lib.hid m2
      have M3 := Lib.hid m3
      have M4 := Lib.hid (show netC k 1 q zs 2 [0, 0] k L = 0 from netC_yes m1 m2)
      have hkk : ((k : Int) != (k : Int)) = false := by simp
      rw [HC.out, hY]
      obtain ⟨hg, rfl, _, hgl, _⟩ : ∃ hg, a3 = some hg ∧ True ∧ hg.block < w4.heap.size ∧ True := by
        obtain ⟨b', o', e', hb', _⟩ := IH.2 (by omega)
        exact ⟨_, e', trivial, hb', trivial⟩
      have HIH := Lib.hid IH
      have HCL : Hid (∀ t, t < k → w4.cell? (hg.add t) = some (.int .i64 (L.getD t 0))) := Lib.hid (fun t ht => by
        obtain ⟨b', o', e', hb', hc'⟩ := IH.2 (by omega)
        cases e'
        have e : (⟨b', o', none⟩ : Addr).add t = ⟨b', o' + t, none⟩ := by by_cases h0 : t = 0 <;> simp [Addr.add, h0]
        rw [e]; exact hc' t ht)
      clear hV1 hV2 m1 m2 m3 hY hL hk m5 IH
      obtain ⟨v0, v1, v2, v3⟩ := four_cells N4.out
      go_wp2_with fail
      go_loop [11] (fun j => ∃ t : Nat, t ≤ k ∧ j = .int .i64 t) (fun j => k - (intOf j).toNat)
      case atStart => exact ⟨0, Nat.zero_le _, rfl⟩
      case round =>
        obtain ⟨t, ht, rfl⟩ := hrel
        by_cases hlt : t < k
        · have hc := HCL.out t hlt
          obtain ⟨z, hz⟩ : ∃ z, L.getD t 0 = z := ⟨_, rfl⟩
          have bz := HH.out t hlt
          rw [hz] at hc bz
          obtain ⟨z0, z1⟩ := bz
          clear hz
          go_wp2_with fail
          go_round
          case rel => exact ⟨t + 1, by omega, by go_num⟩
          case measure => simp [intOf]; omega
        · obtain rfl : k = t := by omega
          go_upto_region 18 with fail
          go_cut [12] (fun t wx => ∃ (b : Nat) (A1 : Option Addr) (c1 : Nat) (B1 : Option Addr), t = .pointer (some ⟨b, 0, none⟩) ∧ wx.rowIs b 27 4 (four (.int .i64 (k : Int)) (.int .i64 1) (.slice A1 q c1) (.slice B1 2 2)) ∧ Ints wx wx.heap.size .i64 A1 q zs ∧ Ints wx wx.heap.size .i64 B1 2 [0, 0] ∧ q ≤ c1 ∧ c1 ≤ 9223372036854775807 ∧ Below w4.heap.size w4 wx)
          case first =>
            obtain ⟨bB, oB, hBB, hbl, hbc⟩ := IB.2 (show 0 < q by omega)
            subst hBB
            have LB := Lib.hid IB.len
            have lbx := N4.out.lt
            have KB := Lib.hid (fun (W : World) (hb : Below w4.heap.size w4 W) => And.intro ((hb.cell (p := ⟨bx, 1, none⟩) lbx).trans v1) ((hb.cell (p := ⟨bx, 3, none⟩) lbx).trans v3))
            have NB := Lib.hid (fun (W : World) (hb : Below w4.heap.size w4 W) (t : Nat) (ht : t < q) => show W.cell? ((⟨bB, oB, none⟩ : Addr).add t) = some (.int .i64 (zs.getD t 0)) by
              have e : (⟨bB, oB, none⟩ : Addr).add t = ⟨bB, oB + t, none⟩ := by by_cases h0 : t = 0 <;> simp [Addr.add, h0]
              rw [e]; exact (hb.cell (p := ⟨bB, oB + t, none⟩) hbl).trans (hbc t ht))
            clear IB hbc
            go_region_held3 (fun w' => w'.cell? ⟨bx, 1, none⟩ = some (.int .i64 (k : Int)) ∧ w'.cell? ⟨bx, 3, none⟩ = some (.slice (some ⟨bB, oB, none⟩) q d))
              ((refine KB.out _ ?_; repeat' (first | exact Below.refl _ _ | exact hb6 | (with_reducible refine below_drew ?_) | refine Below.alloc ?_ (by first | omega | (simp; done) | (simp; omega)) _ | refine Below.setCell ?_ (by first | (simp; done) | (simp; omega)) _)))
              ((refine app_new rfl (.tmp 90) (.tmp 92) rfl _ rfl ?_ ⟨bB, oB, none⟩ zs q d rfl (by omega) LB.out.symm ?_ (by omega) ?_
                · (repeat' (first | (refine blkN ?_; (simp; done)) | refine blkA ?_ (by first | (simp; done) | (simp; omega)) _))
                · (refine NB.out _ ?_; repeat' (first | exact Below.refl _ _ | (with_reducible refine below_drew ?_) | refine Below.alloc ?_ (by first | (simp; done) | (simp; omega)) _))
                intro r5 c5 w5 hr5 hrg hrl c51 c52 hgr5
                have hb6 : Below w4.heap.size w4 w5 := by
                  refine Below.grown ?_ hgr5 (by first | (simp; done) | (simp; omega)) ?_
                  · repeat' (first | exact Below.refl _ _ | (with_reducible refine below_drew ?_) | refine Below.alloc ?_ (by first | (simp; done) | (simp; omega)) _)
                  · intro k e
                    injection e with e
                    first | omega | (simp at e; omega)
                have hz6 := hb6.size
                have hz7 := hgr5.size
                simp at hz7 hrg
                first
                  | (refine withRow (k := w4.heap.size) (t := 27) hgr5 ?_ ?_ ?_ ?_
                     · (repeat' (first | (refine four_newN ?_; (simp; done)) | (with_reducible refine World.rowIs.alloc ?_ _) | (with_reducible refine World.rowIs.drew ?_))); done
                     · (first | (simp; done) | (simp; omega))
                     · (first | omega | (simp; done) | (simp; omega))
                     intro f0 f1 f2 f3 g0 g1 g2 g3 gl)
                  | (refine withRow (k := (w4.heap.size + 1)) (t := 27) hgr5 ?_ ?_ ?_ ?_
                     · (repeat' (first | (refine four_newN ?_; (simp; done)) | (with_reducible refine World.rowIs.alloc ?_ _) | (with_reducible refine World.rowIs.drew ?_))); done
                     · (first | (simp; done) | (simp; omega))
                     · (first | omega | (simp; done) | (simp; omega))
                     intro f0 f1 f2 f3 g0 g1 g2 g3 gl)
                  | (refine withRow (k := (w4.heap.size + 1 + 1)) (t := 27) hgr5 ?_ ?_ ?_ ?_
                     · (repeat' (first | (refine four_newN ?_; (simp; done)) | (with_reducible refine World.rowIs.alloc ?_ _) | (with_reducible refine World.rowIs.drew ?_))); done
                     · (first | (simp; done) | (simp; omega))
                     · (first | omega | (simp; done) | (simp; omega))
                     intro f0 f1 f2 f3 g0 g1 g2 g3 gl)
                  | skip))
            all_goals
              go_wp2_with fail
              go_meet
              apply finR (r5 := r5) (c5 := c5) (w5 := w5) (hr := hr5) (hl := LB.out) (k1 := c51) (k2 := c52)
              · repeat' (first | (with_reducible refine four_set0 ?_ _ _ _ _) | ((with_reducible refine four_newN ?_); (simp; done)) | (with_reducible refine World.rowIs.alloc ?_ _) | (with_reducible refine World.rowIs.drew ?_) | (with_reducible refine rowG hgr5 ?_ ?_ ?_) | omega | (simp; done) | (simp; omega))
              · repeat' (first | (with_reducible exact Out.refl _ _ _) | (with_reducible refine Out.set ?_ ?_ ?_ _) | (with_reducible refine Out.drew ?_) | (with_reducible refine outA ?_ _) | omega | (simp; done) | (simp; omega))
              · (first | omega | (simp; done) | (simp; omega))
              · repeat' (first | ((with_reducible refine blkN ?_); (simp; done)) | (with_reducible refine blkS ?_ ?_ _) | (with_reducible refine blkA ?_ ?_ _) | (with_reducible refine blkD ?_) | (with_reducible refine blkG hgr5 ?_ ?_ ?_) | omega | (simp; done) | (simp; omega))
              · repeat' (first | (with_reducible exact Below.refl _ _) | (with_reducible exact hb6) | (with_reducible refine below_drew ?_) | (with_reducible refine Below.alloc ?_ ?_ _) | (with_reducible refine Below.setCell ?_ ?_ _) | omega | (simp; done) | (simp; omega))
          case rest =>
            obtain ⟨b, A1, c1, B1, rfl, hN, hA1, hB1, q1, q2, hb⟩ := hcut
            obtain ⟨n0, n1, n2, n3⟩ := four_cells hN
            replace HB := HB.trans (hb.mono HB.size)
            have hL := HIH.out.b hb
            have hlN := hN.lt
            have HNN := Lib.hid hN
            have FR := Lib.hid (fun (W : World) (hb2 : Below wc.heap.size wc W) => hL.b hb2)
            have LL := Lib.hid hL.len
            clear hb hN v0 v1 v2 v3 N4 IB HCL
            have EX : (1 : Int) ≤ 1 := by omega
            go_wp2_with fail
            refine (impl_HiddenOf_any k 1 A1 q c1 zs B1 2 2 [0, 0] (some hg) k c3 L _ wc hA1 hB1 hL (Nat.le_refl _) q1 q2 (by omega) (by omega) (by omega)).mono ?_
            rw [M3.out, M4.out]
            rintro e w6 ⟨a6, k6, c6, rfl, hk6, _, _, hr6, hb6⟩
            have hk1 : k6 = 1 := by simpa using hk6.symm
            subst hk1
            have hG := hr6.ints hk6
            replace HB := HB.trans (hb6.mono HB.size)
            have hY6 : Ints (w6.alloc (.cells #[.int .i64 Y] 2)) (w6.heap.size + 1) .i64 (some ⟨w6.heap.size, 0, none⟩) 1 [Y] := ⟨rfl, fun _ => ⟨w6.heap.size, 0, rfl, by omega, fun t ht => by
              match t, ht with
              | 0, _ => exact new_cell w6 #[.int .i64 Y] 2 0⟩⟩
            have hG6 := hG.below ((Below.refl w6.heap.size w6).alloc (Nat.le_refl _) (.cells #[.int .i64 Y] 2))
            have LK := Lib.hid (likeInts_same _ _ 1 c6 1 _ _ [Y] _ hG6 hY6 (by omega))
            have HBF := HB.alloc HB.size (.cells #[.int .i64 Y] 2)
            clear n0 n1 n2 n3 hG hG6 hY6 hr6 hb6 hA1 hB1 hL
            go_wp2_with fail
            refine LK.out.mono ?_
            rintro e w7 ⟨rfl, nd, rfl⟩
            go_wp2_with fail
            go_ret
            exact ⟨rfl, below_drewN HBF nd⟩
namespace fnOutput
set_option linter.unusedVariables false
set_option maxRecDepth 100000 in
theorem lifted (os : Os) (started : os.Started) (H : Type) (enc : TypeId × Value → H) :
    ReturnsInHanded {} Try.checked os 9 .any (Rows.fnOutputSpec.pre6 enc Try.prog Try.f9 Rows.fnOutputRow.domain false) (Rows.fnOutputSpec.post enc Try.prog Try.f9 false true false false) := by
  refine returnsInHanded_of_change (C := Try.checked) own started (by kernel_rfl) Try.func9
    (ChangeSpec.witness6 (enc := enc) (C := Try.checked) false ⟨#[], #[.slice none 0 0], []⟩ 8 (by kernel_rfl) (by kernel_rfl) (by kernel_rfl) (by kernel_rfl)) ?_
  intro W base args ds gs before hval0 hW hcnd _
  have hval : ∀ (j : Nat) t v, Try.f9.params[j]? = some t → args[j]? = some v → Value.okWide Try.prog W .any base t v := hval0
  have hW' := hW
  obtain ⟨p, q, hA0, hV, rfl, hfz, hnd⟩ := hW
  have hA : DataW.TrodAll enc Try.prog W 0 (fun _ => true) true Try.f9.params.toList args.toList ds p := hA0
  rw [Try.params9] at hA hval
  obtain ⟨v0, vs0, d0, ds0, p0, q0, hargs, rfl, rfl, h0, r0⟩ := trodAll_cons hA
  obtain ⟨rfl, rfl, rfl⟩ := trodAll_nil r0
  obtain rfl : args = #[v0] := by cases args; simp_all
  obtain ⟨rfl, rfl⟩ := trodVars_none hV
  obtain ⟨ax0, nx0, cx0, x0, rfl, wx0⟩ := open_ints_arg Try.underlying36 Try.underlying5 (by kernel_rfl) (hval 0 36 v0 rfl rfl) h0
  clear hA0 hval0
  refine (walk_FnOutput W ax0 nx0 cx0 x0 wx0).mono fun e W' ⟨he, bel⟩ => ?_
  subst he
  exact ⟨_, rfl, _, _, _, [], _, [], hW', trodAll_mk1 (shut_bool Try.underlying4 _), (trodAll_cons_mk (Below.trod laidOut (by kernel_rfl) (of_decide_eq_true (by kernel_rfl)) h0 bel (lt_of_trod h0)) trodAll_mk0), rfl, bel.frame _, fun h => by cases h⟩

theorem over : Rows.fnOutputRow.holds Try.pinned (OpenSpec.ofChange Rows.fnOutputSpec) :=
  OpenClaim.holds_of_wide 9 Try.f9 rfl rfl rfl rfl rfl rfl rfl ⟨rfl, rfl, rfl, rfl, rfl⟩ rfl rfl rfl rfl rfl (by kernel_rfl) Try.func9 (by kernel_rfl)
    (of_decide_eq_true (by kernel_rfl)) (by unfold Func.isWrapper; first | (rw [if_pos (by decide +kernel)]; kernel_rfl) | (rw [if_neg (by decide +kernel)]; exact ⟨rfl, rfl⟩))
    (fun os started H enc _ => lifted os started H enc)
theorem proved : Rows.FnOutputSaid := over
#print axioms proved
end fnOutput
end Go.Proofs.Ytcpbaigghhjceaa
