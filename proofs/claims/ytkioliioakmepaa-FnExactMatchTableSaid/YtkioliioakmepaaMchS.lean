/-
  The reference's table of match chances: what its blocks hold, and what stays.
-/
import Derived.Test.YtkioliioakmepaaMchW
import Derived.Test.YtkioliioakmepaaRes
import Derived.Test.YtkioliioakmepaaGrow
namespace Go.Proofs.Ytkioliioakmepaa
open Go.ChangeShapes Go.WideShapes Go.ChangeAt Go.RowKit
set_option linter.unusedVariables false

/-- the three lists of a model as slices, with what they hold -/
structure Mm where
  (a : Option Addr) (n c : Nat) (b : Option Addr) (m d : Nat) (e : Option Addr) (p f : Nat) (xs ys zs : List Int)
def Mm.ok (M : Mm) : Prop := wOk M.xs ∧ wOk M.ys ∧ wOk M.zs ∧ M.n = 4 ∧ M.m = 4 ∧ M.p = 4
def Mm.at (M : Mm) (w : World) (B : Nat) : Prop := Ints w B .i64 M.a M.n M.xs ∧ Ints w B .i64 M.b M.m M.ys ∧ Ints w B .i64 M.e M.p M.zs
theorem Mm.at.keep {M : Mm} {w w' : World} {B : Nat} (h : M.at w B) (hb : Below B w w') : M.at w' B := ⟨h.1.below hb, h.2.1.below hb, h.2.2.below hb⟩
def Mm.ch (M : Mm) (a b : Nat) (ph : Int) : Option Int := chV M.xs M.ys M.zs a b ph
/-- the cells of the table's struct -/
def tbC (M : Mm) (k v : Nat) (fb : Bool) : Nat → Value
  | 0 => .slice M.a M.n M.c
  | 1 => .slice M.b M.m M.d
  | 2 => .slice M.e M.p M.f
  | 3 => .slice (some ⟨k, 0, none⟩) 300 300
  | 4 => .slice (some ⟨v, 0, none⟩) 300 300
  | _ => .bool fb
/-- where a state's chance lies -/
def ix (a b : Nat) (ph : Int) : Nat := 100 * ph.toNat + 10 * a + b
theorem ix_lt {a b : Nat} {ph : Int} (ha : a ≤ 9) (hb : b ≤ 9) (hp : 0 ≤ ph ∧ ph ≤ 2) : ix a b ph < 300 := by unfold ix; omega
theorem ix_inj {a b c d : Nat} {ph ps : Int} (ha : a ≤ 9) (hb : b ≤ 9) (hp : 0 ≤ ph ∧ ph ≤ 2) (hc : c ≤ 9) (hd : d ≤ 9) (hs : 0 ≤ ps ∧ ps ≤ 2) (h : ix a b ph = ix c d ps) : a = c ∧ b = d ∧ ph = ps := by
  unfold ix at h; omega
/-- the table at block g: its lists as bools and integers; what is known is right while nothing has failed -/
def Tb (M : Mm) (g k v : Nat) (fb : Bool) (w : World) : Prop :=
  ∃ (kf : Nat → Bool) (vf : Nat → Int), w.rowIs g 84 6 (tbC M k v fb) ∧ w.rowIs k 4 300 (fun i => .bool (kf i)) ∧ w.rowIs v 30 600 (fun i => .int .i64 (vf i)) ∧
    (fb = false → ∀ (a b : Nat) (ph : Int), a ≤ 9 → b ≤ 9 → 0 ≤ ph → ph ≤ 2 → kf (ix a b ph) = true → ∃ c, M.ch a b ph = some c ∧ vf (ix a b ph * 2) = sN c ∧ vf (ix a b ph * 2 + 1) = sD c)
/-- only g, k, v of the blocks lie between lo and hi -/
def Lie (lo hi g k v : Nat) : Prop := lo ≤ g ∧ g < hi ∧ lo ≤ k ∧ k < hi ∧ lo ≤ v ∧ v < hi ∧ ¬ g = k ∧ ¬ g = v ∧ ¬ k = v
theorem Tb.keep {M : Mm} {g k v B : Nat} {fb : Bool} {w w' : World} (h : Tb M g k v fb w) (hb : Below B w w') (h1 : g < B) (h2 : k < B) (h3 : v < B) : Tb M g k v fb w' := by
  obtain ⟨kf, vf, r1, r2, r3, hi⟩ := h
  exact ⟨kf, vf, rowIs_below r1 hb h1, rowIs_below r2 hb h2, rowIs_below r3 hb h3, hi⟩
theorem Tb.alloc {M : Mm} {g k v : Nat} {fb : Bool} {w : World} (h : Tb M g k v fb w) (o : Obj) : Tb M g k v fb (w.alloc o) := by
  obtain ⟨kf, vf, r1, r2, r3, hi⟩ := h
  exact ⟨kf, vf, r1.alloc o, r2.alloc o, r3.alloc o, hi⟩
theorem Tb.set {M : Mm} {g k v b : Nat} {fb : Bool} {w : World} (h : Tb M g k v fb w) (h1 : ¬ g = b) (h2 : ¬ k = b) (h3 : ¬ v = b) (i : Nat) (u : Value) : Tb M g k v fb (w.setCell ⟨b, i, none⟩ u) := by
  obtain ⟨kf, vf, r1, r2, r3, hi⟩ := h
  exact ⟨kf, vf, r1.setOther (a := ⟨b, i, none⟩) h1 u, r2.setOther (a := ⟨b, i, none⟩) h2 u, r3.setOther (a := ⟨b, i, none⟩) h3 u, hi⟩
theorem Tb.drew {M : Mm} {g k v : Nat} {fb : Bool} {w : World} (h : Tb M g k v fb w) : Tb M g k v fb w.drew := h
theorem row_set {w : World} {g t n b : Nat} {f : Nat → Value} (h : w.rowIs g t n f) (hne : ¬ g = b) (i : Nat) (u : Value) : (w.setCell ⟨b, i, none⟩ u).rowIs g t n f := h.setOther (a := ⟨b, i, none⟩) hne u
theorem Tb.learn {M : Mm} {lo hi g k v : Nat} {w : World} (h : Tb M g k v false w) (L : Lie lo hi g k v) {a b : Nat} {q : Int} (ha : a ≤ 9) (hb : b ≤ 9) (h0 : 0 ≤ q) (h2 : q ≤ 2) {I : Nat} (hI : ix a b q = I) {x y : Int} {ok : Bool} (hv : ok = true → ∃ c, M.ch a b q = some c ∧ x = sN c ∧ y = sD c) :
    Tb M g k v (!ok) ((((w.setCell ⟨k, I, none⟩ (.bool true)).setCell ⟨v, I * 2, none⟩ (.int .i64 x)).setCell ⟨v, I * 2 + 1, none⟩ (.int .i64 y)).setCell ⟨g, 5, none⟩ (.bool (!ok))) := by
  obtain ⟨kf, vf, r1, r2, r3, hinv⟩ := h
  obtain ⟨_, _, _, _, _, _, e1, e2, e3⟩ := L
  have e1' : ¬ k = g := fun e => e1 e.symm
  have e2' : ¬ v = g := fun e => e2 e.symm
  have e3' : ¬ v = k := fun e => e3 e.symm
  refine ⟨fun j => if j = I then true else kf j, fun j => if j = I * 2 + 1 then y else if j = I * 2 then x else vf j, ?_, ?_, ?_, ?_⟩
  · refine ((row_set (row_set (row_set r1 e1 _ _) e2 _ _) e2 _ _).set 5 _).congr (fun j hj => ?_)
    match j, hj with
    | 0, _ => rfl
    | 1, _ => rfl
    | 2, _ => rfl
    | 3, _ => rfl
    | 4, _ => rfl
    | 5, _ => rfl
  · refine (row_set (row_set (row_set (r2.set I _) e3 _ _) e3 _ _) e1' _ _).congr (fun j hj => ?_)
    show (if j = I then _ else _) = Value.bool (if j = I then true else kf j)
    split <;> rfl
  · refine (row_set (((row_set r3 e3' _ _).set (I * 2) _).set (I * 2 + 1) _) e2' _ _).congr (fun j hj => ?_)
    show (if j = I * 2 + 1 then _ else if j = I * 2 then _ else _) = Value.int .i64 (if j = I * 2 + 1 then y else if j = I * 2 then x else vf j)
    split
    · rfl
    · split <;> rfl
  · intro hf a' b' ph' ha' hb' h0' h2' hk
    by_cases e : ix a' b' ph' = I
    · obtain ⟨rfl, rfl, rfl⟩ := ix_inj ha' hb' ⟨h0', h2'⟩ ha hb ⟨h0, h2⟩ (e.trans hI.symm)
      obtain ⟨c, k1, k2, k3⟩ := hv (by cases ok; cases hf; rfl)
      refine ⟨c, k1, ?_, ?_⟩
      · rw [e]; show (if I * 2 = I * 2 + 1 then y else if I * 2 = I * 2 then x else _) = _
        rw [if_neg (by omega), if_pos rfl]; exact k2
      · rw [e]; show (if I * 2 + 1 = I * 2 + 1 then y else _) = _
        rw [if_pos rfl]; exact k3
    · simp only at hk
      rw [if_neg e] at hk
      obtain ⟨c, k1, k2, k3⟩ := hinv rfl a' b' ph' ha' hb' h0' h2' hk
      refine ⟨c, k1, ?_, ?_⟩
      · show (if ix a' b' ph' * 2 = I * 2 + 1 then y else if ix a' b' ph' * 2 = I * 2 then x else _) = _
        rw [if_neg (by omega), if_neg (by omega)]; exact k2
      · show (if ix a' b' ph' * 2 + 1 = I * 2 + 1 then y else if ix a' b' ph' * 2 + 1 = I * 2 then x else _) = _
        rw [if_neg (by omega), if_neg (by omega)]; exact k3
theorem row_out {w w' : World} {lo hi b : Nat} {t : TypeId} {n : Nat} {f : Nat → Value} (h : w.rowIs b t n f) (ho : Out lo hi w w') (hb : b < lo ∨ hi ≤ b) : w'.rowIs b t n f := h.of_block (ho.block b h.lt hb)
theorem Mm.at.out {M : Mm} {w w' : World} {lo hi : Nat} (h : M.at w lo) (ho : Out lo hi w w') (hz : lo ≤ w.heap.size) : M.at w' lo := ⟨h.1.out ho (Nat.le_refl _) hz, h.2.1.out ho (Nat.le_refl _) hz, h.2.2.out ho (Nat.le_refl _) hz⟩
/-- what a call of l18Chance leaves: the table as it was or with more known; a share or a failure -/
def TbPost (M : Mm) (lo hi g k v : Nat) (fb : Bool) (a b : Nat) (ph : Int) (w : World) (e : Ending) (w' : World) : Prop :=
  ∃ (x y : Int) (fb' : Bool), e = .returned (shV x y) ∧ Tb M g k v fb' w' ∧ Out lo hi w w' ∧ (fb = true → fb' = true) ∧
    (fb' = false → ∃ c, M.ch a b ph = some c ∧ x = sN c ∧ y = sD c) ∧ (fb = false → fb' = true → M.ch a b ph = none)

/-- the slice of a phase -/
def Mm.sl (M : Mm) (ph : Int) : Value := if ph = 1 then .slice M.b M.m M.d else if ph = 2 then .slice M.e M.p M.f else .slice M.a M.n M.c
theorem l18Next_any (ph : Int) (w : World) : Calls Try.prog 78 #[.int .i64 ph] w fun e w' => e = .returned (.int .i64 (nx ph)) ∧ w = w' := by
  by_cases h : ph = 0
  · subst h
    have HV := Lib.hid (show nx 0 = 0 from rfl)
    go_enter Try.func78, Try.ntmps78
    go_wp2_with fail
    go_ret
    exact ⟨ret_int HV.out, rfl⟩
  · have HV := Lib.hid (show nx ph = 2 from if_neg h)
    have e1 : (ph == 0) = false := by simpa using h
    go_enter Try.func78, Try.ntmps78
    go_wp2_with fail
    go_ret
    exact ⟨ret_int HV.out, rfl⟩
theorem l18Weights_any (M : Mm) (ph : Int) (w : World) : Calls Try.prog 96 #[mmV M.a M.n M.c M.b M.m M.d M.e M.p M.f, .int .i64 ph] w fun e w' => e = .returned (M.sl ph) ∧ Below w.heap.size w w' := by
  have HB := (Below.refl w.heap.size w).alloc (Nat.le_refl _) (.cells #[.slice M.a M.n M.c, .slice M.b M.m M.d, .slice M.e M.p M.f] 26)
  by_cases h1 : ph = 1
  · subst h1
    have HV := Lib.hid (show M.sl 1 = .slice M.b M.m M.d from rfl)
    go_enter Try.func96, Try.ntmps96
    go_wp2_with fail
    go_ret
    exact ⟨ret_val HV.out, HB⟩
  · have e1 : (ph == 1) = false := by simpa using h1
    by_cases h2 : ph = 2
    · subst h2
      have HV := Lib.hid (show M.sl 2 = .slice M.e M.p M.f from rfl)
      go_enter Try.func96, Try.ntmps96
      go_wp2_with fail
      go_ret
      exact ⟨ret_val HV.out, HB⟩
    · have e2 : (ph == 2) = false := by simpa using h2
      have HV := Lib.hid (show M.sl ph = .slice M.a M.n M.c by rw [Mm.sl, if_neg h1, if_neg h2])
      go_enter Try.func96, Try.ntmps96
      go_wp2_with fail
      go_ret
      exact ⟨ret_val HV.out, HB⟩

/-- the weights of a phase -/
def Mm.wt (M : Mm) (q : Int) : List Int := wts M.xs M.ys M.zs q
/-- the sum of the first j steps of a game -/
def Mm.acc (M : Mm) (a b : Nat) (q : Int) : Nat → Option Int
  | 0 => some 0
  | j + 1 => stp ((M.wt q).getD j 0) (M.ch (a - (j + 1)) b (nx q)) (M.ch a (b - (j + 1)) (nx q)) (M.acc a b q j)
theorem Mm.ch_acc {M : Mm} {a b : Nat} {ph : Int} (ha : 0 < a) (hb : 0 < b) : M.ch a b ph = mean (2 * sum4 (M.wt (gp a b ph))) (M.acc a b (gp a b ph) 4) := chV_eq ha hb
theorem Mm.acc_none {M : Mm} {a b : Nat} {q : Int} {j : Nat} (h : M.acc a b q j = none) : ∀ n, j ≤ n → M.acc a b q n = none
  | 0, hn => by obtain rfl : j = 0 := by omega
                exact h
  | n + 1, hn => by
    by_cases e : j = n + 1
    · subst e; exact h
    · show stp _ _ _ _ = none
      rw [Mm.acc_none h n (by omega)]; exact stp_none
theorem stp_xnone {w : Int} {y acc : Option Int} (hw : w ≠ 0) : stp w none y acc = none := by unfold stp; rw [if_neg hw]
theorem stp_ynone {w : Int} {x acc : Option Int} (hw : w ≠ 0) : stp w x none acc = none := by
  unfold stp; rw [if_neg hw]; cases x <;> rfl
theorem stp_all {w x y t : Int} : stp w (some x) (some y) (some t) = some (t + w * (x + y)) := by
  by_cases hw : w = 0
  · subst hw; rw [stp_zero, Int.zero_mul, Int.add_zero]
  · rw [stp, if_neg hw]
theorem Mm.sl_ints {M : Mm} (hM : M.ok) {w : World} {B : Nat} (h : M.at w B) (q : Int) : ∃ A C, M.sl q = .slice A 4 C ∧ Ints w B .i64 A 4 (M.wt q) := by
  obtain ⟨_, _, _, h4, h5, h6⟩ := hM
  unfold Mm.sl Mm.wt wts
  split
  · exact ⟨_, _, by rw [h5], h5 ▸ h.2.1⟩
  · split
    · exact ⟨_, _, by rw [h6], h6 ▸ h.2.2⟩
    · exact ⟨_, _, by rw [h4], h4 ▸ h.1⟩
theorem wkB_of {xs : List Int} (h : wOk xs) : wkB 4 xs = true := by
  obtain ⟨_, h0, h1, h2, h3, hm⟩ := h
  have k : wkK xs 4 = true := by
    simp only [wkK, Bool.and_eq_true, Bool.true_and]
    exact ⟨⟨⟨wB_true.2 h0, wB_true.2 h1⟩, wB_true.2 h2⟩, wB_true.2 h3⟩
  rw [wkB, k, psum4]
  have : pwB (sum4 xs) 16 = true := by
    unfold okM at hm
    unfold pwB
    simp
    omega
  rw [this]; rfl
theorem Mm.wt_ok {M : Mm} (hM : M.ok) (q : Int) : wOk (M.wt q) := wts_ok hM.1 hM.2.1 hM.2.2.1 q
theorem Mm.acc_bd {M : Mm} (hM : M.ok) {a b : Nat} {q : Int} : ∀ j, j ≤ 4 → ∀ t, M.acc a b q j = some t → 0 ≤ t ∧ t ≤ (32 * j) * SC
  | 0, _, t, h => by injection h with h; subst h; omega
  | j + 1, hj, t, h => by
    have IH := Mm.acc_bd hM (a := a) (b := b) (q := q) j (by omega)
    have hw : 0 ≤ (M.wt q).getD j 0 ∧ (M.wt q).getD j 0 ≤ 16 := by
      obtain ⟨_, h0, h1, h2, h3, _⟩ := Mm.wt_ok hM q
      match j, hj with
      | 0, _ => exact h0
      | 1, _ => exact h1
      | 2, _ => exact h2
      | 3, _ => exact h3
    have k := stp_bd (B := 32 * j) hw.1 (chV_bd hM.1 hM.2.1 hM.2.2.1 _ _ _ _ (Nat.le_refl _)) (chV_bd hM.1 hM.2.1 hM.2.2.1 _ _ _ _ (Nat.le_refl _)) IH t h
    refine ⟨k.1, Int.le_trans k.2 (Int.mul_le_mul_of_nonneg_right ?_ (by decide))⟩
    rw [Int.natCast_add]; omega
theorem Out.setNew {lo hi : Nat} {w0 w : World} (h : Out lo hi w0 w) {p : Addr} (hp : w0.heap.size ≤ p.block) (u : Value) : Out lo hi w0 (w.setCell p u) :=
  h.grown (by_set (by_refl w (some p.block)) rfl u) (fun g e => .inr (by cases e; exact hp))
theorem Mm.ch_none {M : Mm} {a b : Nat} {ph q r x : Int} {j : Nat} (ha : 0 < a) (hb : 0 < b) (hq : gp a b ph = q) (hr : nx q = r) (hj : j < 4) (hx : (M.wt q).getD j 0 = x) (hx0 : ¬ x = 0) (h : M.ch (a - (j + 1)) b r = none ∨ M.ch a (b - (j + 1)) r = none) : M.ch a b ph = none := by
  rw [Mm.ch_acc ha hb, hq]
  have : M.acc a b q (j + 1) = none := by
    show stp ((M.wt q).getD j 0) (M.ch (a - (j + 1)) b (nx q)) (M.ch a (b - (j + 1)) (nx q)) _ = none
    rw [hx, hr]
    rcases h with h | h
    · rw [h]; exact stp_xnone hx0
    · rw [h]; exact stp_ynone hx0
  rw [Mm.acc_none this 4 (by omega)]
  rfl
theorem Mm.acc_some {M : Mm} {a b : Nat} {q r x T c1 c2 : Int} {j : Nat} (hr : nx q = r) (hx : (M.wt q).getD j 0 = x) (hT : M.acc a b q j = some T) (h1 : M.ch (a - (j + 1)) b r = some c1) (h2 : M.ch a (b - (j + 1)) r = some c2) : M.acc a b q (j + 1) = some (T + x * (c1 + c2)) := by
  show stp ((M.wt q).getD j 0) (M.ch (a - (j + 1)) b (nx q)) (M.ch a (b - (j + 1)) (nx q)) _ = _
  rw [hx, hr, h1, h2, hT]; exact stp_all
theorem Mm.ch_bd {M : Mm} (hM : M.ok) {a b : Nat} {ph c : Int} (h : M.ch a b ph = some c) : 0 ≤ c ∧ c ≤ SC := chV_bd hM.1 hM.2.1 hM.2.2.1 _ _ _ _ (Nat.le_refl _) c h
theorem mmul_bd {x c : Int} (x0 : 0 ≤ x) (x1 : x ≤ 16) (c0 : 0 ≤ c) (c1 : c ≤ 1125899906842624) : 0 ≤ x * c ∧ x * c ≤ 18014398509481984 :=
  ⟨Int.mul_nonneg x0 c0, by have := Int.mul_le_mul x1 c1 c0 (by omega); omega⟩
end Go.Proofs.Ytkioliioakmepaa
