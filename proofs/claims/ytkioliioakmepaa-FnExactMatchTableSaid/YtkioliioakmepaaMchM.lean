/-
  A match of the program: the two maps of what is known, and the struct that holds them.
-/
import Derived.Test.YtkioliioakmepaaMchS
import Derived.Test.YtkioliioakmepaaMchK
namespace Go.Proofs.Ytkioliioakmepaa
open Go.ChangeShapes Go.WideShapes Go.ChangeAt Go.RowKit
set_option linter.unusedVariables false

/-- a map's value is kept as it stands -/
abbrev rV : Value → Option (DataW Value × List MemPlace) := fun v => some (.held v, [])
theorem msK_lit (a b : Nat) (ph : Int) : WideAt.IsKeyLit (msK a b ph) := trivial
/-- block b is a map of at most n states: f tells what is known of each -/
def Mp (w : World) (b n : Nat) (f : Nat → Nat → Int → Option Value) : Prop :=
  ∃ D : DataW Value, w.ownsMap Try.prog 110 rV b n D ∧ ∀ (x y : Nat) (ph : Int), x ≤ 9 → y ≤ 9 → 0 ≤ ph → ph ≤ 2 → Maps.has D (msK x y ph) = (f x y ph).isSome ∧ ∀ z, D.atKey (msK x y ph) (.held z) = .held ((f x y ph).getD z)
theorem Mp.made (w : World) : Mp (w.alloc (.map #[] 0)) w.heap.size 0 (fun _ _ _ => none) := ⟨.map [], World.ownsMap_made w Try.prog _ rV, fun _ _ _ _ _ _ _ => ⟨rfl, fun _ => rfl⟩⟩
theorem Mp.blk {w w' : World} {b n : Nat} {f : Nat → Nat → Int → Option Value} (h : Mp w b n f) (e : w'.heap[b]? = w.heap[b]?) : Mp w' b n f := by
  obtain ⟨D, ⟨es, clock, hh, F, hs, hD⟩, hf⟩ := h
  exact ⟨D, ⟨es, clock, e.trans hh, F, hs, hD⟩, hf⟩
theorem Mp.lt {w : World} {b n : Nat} {f : Nat → Nat → Int → Option Value} (h : Mp w b n f) : b < w.heap.size := by
  obtain ⟨D, h, _⟩ := h; exact h.lt
theorem Mp.mono {w : World} {b n m : Nat} {f : Nat → Nat → Int → Option Value} (h : Mp w b n f) (hm : n ≤ m) : Mp w b m f := by
  obtain ⟨D, h, hf⟩ := h; exact ⟨D, h.mono hm, hf⟩
theorem Mp.alloc {w : World} {b n : Nat} {f : Nat → Nat → Int → Option Value} (h : Mp w b n f) (o : Obj) : Mp (w.alloc o) b n f := h.blk (Deep.blk_alloc_lt _ _ _ h.lt)
theorem Mp.set {w : World} {b n c i : Nat} {f : Nat → Nat → Int → Option Value} (h : Mp w b n f) (hne : ¬ b = c) (u : Value) : Mp (w.setCell ⟨c, i, none⟩ u) b n f := h.blk (Deep.blk_setCell_other _ _ _ _ hne)
theorem Mp.drew {w : World} {b n : Nat} {f : Nat → Nat → Int → Option Value} (h : Mp w b n f) : Mp w.drew b n f := h
theorem Mp.look {w : World} {b n x y : Nat} {ph : Int} {f : Nat → Nat → Int → Option Value} (h : Mp w b n f) {t e : TypeId} (ht : Try.prog.underlying t = some (.map 110 e)) {z : Value} (hz : (zeroValue e).run Try.prog w = .ok z w) (hx : x ≤ 9) (hy : y ≤ 9) (h0 : 0 ≤ ph) (h2 : ph ≤ 2) :
    (Instr.lookup t (.map (some b)) (msV x y ph) true).run Try.prog w = .ok (.tuple #[(f x y ph).getD z, .bool (f x y ph).isSome]) w := by
  obtain ⟨D, h, hf⟩ := h
  obtain ⟨f1, f2⟩ := hf x y ph hx hy h0 h2
  obtain ⟨v, ps, hr, hv⟩ := h.look_ok ms_keyed ht hz (zd := .held z) rfl (ms_key (a := x) (b := y) (by omega) (by omega) ⟨h0, h2⟩)
  rw [hr, f1]
  simp only [rV, Option.some.injEq, Prod.mk.injEq] at hv
  rw [f2] at hv
  rw [DataW.held.inj hv.1]
theorem Mp.get {w : World} {b n x y : Nat} {ph : Int} {f : Nat → Nat → Int → Option Value} (h : Mp w b n f) {t e : TypeId} (ht : Try.prog.underlying t = some (.map 110 e)) {z : Value} (hz : (zeroValue e).run Try.prog w = .ok z w) (hx : x ≤ 9) (hy : y ≤ 9) (h0 : 0 ≤ ph) (h2 : ph ≤ 2) :
    (Instr.lookup t (.map (some b)) (msV x y ph) false).run Try.prog w = .ok ((f x y ph).getD z) w := by
  obtain ⟨D, h, hf⟩ := h
  obtain ⟨f1, f2⟩ := hf x y ph hx hy h0 h2
  obtain ⟨v, ps, hr, hv⟩ := h.lookup ms_keyed ht hz (zd := .held z) rfl (ms_key (a := x) (b := y) (by omega) (by omega) ⟨h0, h2⟩)
  rw [hr]
  simp only [rV, Option.some.injEq, Prod.mk.injEq] at hv
  rw [f2] at hv
  rw [DataW.held.inj hv.1]
/-- what is known with one more state -/
def upd (f : Nat → Nat → Int → Option Value) (x y : Nat) (ph : Int) (v : Value) : Nat → Nat → Int → Option Value := fun x' y' ph' => if x' = x ∧ y' = y ∧ ph' = ph then some v else f x' y' ph'
theorem Mp.put {w : World} {b n x y : Nat} {ph : Int} {f : Nat → Nat → Int → Option Value} (h : Mp w b n f) {t e : TypeId} (ht : Try.prog.underlying t = some (.map 110 e)) (hn : n < maxLen) (v : Value) (hx : x ≤ 9) (hy : y ≤ 9) (h0 : 0 ≤ ph) (h2 : ph ≤ 2) :
    ∃ w', (Instr.mapUpdate t (.map (some b)) (msV x y ph) v).run Try.prog w = .ok () w' ∧ Mp w' b (n + 1) (upd f x y ph v) ∧ w.grownBy w' (some b) := by
  obtain ⟨D, h, hf⟩ := h
  have hi := h.isMap
  obtain ⟨w', hr, hm, hg⟩ := h.update ms_keyed ht hn (val := v) (d := .held v) (ps := []) (ms_key (a := x) (b := y) (by omega) (by omega) ⟨h0, h2⟩) rfl
  refine ⟨w', hr, ⟨_, hm, fun x' y' ph' hx' hy' h0' h2' => ?_⟩, hg⟩
  obtain ⟨f1, f2⟩ := hf x' y' ph' hx' hy' h0' h2'
  by_cases e : x' = x ∧ y' = y ∧ ph' = ph
  · obtain ⟨rfl, rfl, rfl⟩ := e
    unfold upd
    rw [if_pos ⟨rfl, rfl, rfl⟩]
    exact ⟨Maps.has_put_same hi (msK_lit _ _ _) _, fun z => Maps.atKey_put_same hi (msK_lit _ _ _) _ _⟩
  · have hne : msK x' y' ph' ≠ msK x y ph := fun q => e (ms_key_inj (by omega) (by omega) ⟨h0', h2'⟩ (by omega) (by omega) ⟨h0, h2⟩ q)
    unfold upd
    rw [if_neg e]
    exact ⟨(Maps.has_put_other hne _).trans f1, fun z => (Maps.atKey_put_other hne _ _).trans (f2 z)⟩
theorem zero_sh (w : World) : (zeroValue 30).run Try.prog w = .ok (shV 0 0) w := by kernel_rfl
theorem zero_b (w : World) : (zeroValue 4).run Try.prog w = .ok (.bool false) w := by kernel_rfl

/-- the cells of a match -/
def mtC (M : Mm) (t f : Nat) : Nat → Value
  | 0 => .slice M.a M.n M.c
  | 1 => .slice M.b M.m M.d
  | 2 => .slice M.e M.p M.f
  | 3 => .map (some t)
  | _ => .map (some f)
/-- what is known of a state is right -/
def Kn (M : Mm) (T F : Nat → Nat → Int → Option Value) : Prop := ∀ (x y : Nat) (ph : Int), x ≤ 9 → y ≤ 9 → 0 ≤ ph → ph ≤ 2 →
  (T x y ph = none ∧ F x y ph = none) ∨ (∃ c, M.ch x y ph = some c ∧ T x y ph = some (shV (sN c) (sD c)) ∧ F x y ph = some (.bool false)) ∨ (M.ch x y ph = none ∧ (∃ p d, T x y ph = some (shV p d)) ∧ F x y ph = some (.bool true))
/-- a match at block g with its maps t and f -/
def Tm (M : Mm) (g t f n : Nat) (w : World) : Prop := ∃ (T F : Nat → Nat → Int → Option Value), w.rowIs g 108 5 (mtC M t f) ∧ Mp w t n T ∧ Mp w f n F ∧ Kn M T F
theorem Tm.keep {M : Mm} {g t f n B : Nat} {w w' : World} (h : Tm M g t f n w) (hb : Below B w w') (h1 : g < B) (h2 : t < B) (h3 : f < B) : Tm M g t f n w' := by
  obtain ⟨T, F, r1, r2, r3, hk⟩ := h
  exact ⟨T, F, rowIs_below r1 hb h1, r2.blk (hb.block t h2), r3.blk (hb.block f h3), hk⟩
theorem Tm.alloc {M : Mm} {g t f n : Nat} {w : World} (h : Tm M g t f n w) (o : Obj) : Tm M g t f n (w.alloc o) := by
  obtain ⟨T, F, r1, r2, r3, hk⟩ := h
  exact ⟨T, F, r1.alloc o, r2.alloc o, r3.alloc o, hk⟩
theorem Tm.drew {M : Mm} {g t f n : Nat} {w : World} (h : Tm M g t f n w) : Tm M g t f n w.drew := h
theorem Tm.set {M : Mm} {g t f n b : Nat} {w : World} (h : Tm M g t f n w) (h1 : ¬ g = b) (h2 : ¬ t = b) (h3 : ¬ f = b) (i : Nat) (u : Value) : Tm M g t f n (w.setCell ⟨b, i, none⟩ u) := by
  obtain ⟨T, F, r1, r2, r3, hk⟩ := h
  exact ⟨T, F, row_set r1 h1 i u, r2.set h2 u, r3.set h3 u, hk⟩
theorem Tm.mono {M : Mm} {g t f n m : Nat} {w : World} (h : Tm M g t f n w) (hm : n ≤ m) : Tm M g t f m w := by
  obtain ⟨T, F, r1, r2, r3, hk⟩ := h
  exact ⟨T, F, r1, r2.mono hm, r3.mono hm, hk⟩
theorem Kn.learn {M : Mm} {T F : Nat → Nat → Int → Option Value} (h : Kn M T F) {a b : Nat} {q x y : Int} {ok : Bool} (h1 : ok = true → ∃ c, M.ch a b q = some c ∧ x = sN c ∧ y = sD c) (h2 : ok = false → M.ch a b q = none) : Kn M (upd T a b q (shV x y)) (upd F a b q (.bool (!ok))) := by
  intro a' b' q' ha hb h0 h9
  by_cases e : a' = a ∧ b' = b ∧ q' = q
  · obtain ⟨rfl, rfl, rfl⟩ := e
    unfold upd
    rw [if_pos ⟨rfl, rfl, rfl⟩, if_pos ⟨rfl, rfl, rfl⟩]
    cases ok
    · exact .inr (.inr ⟨h2 rfl, ⟨x, y, rfl⟩, rfl⟩)
    · obtain ⟨c, k1, k2, k3⟩ := h1 rfl
      exact .inr (.inl ⟨c, k1, by rw [k2, k3], rfl⟩)
  · unfold upd
    rw [if_neg e, if_neg e]
    exact h a' b' q' ha hb h0 h9
/-- what a call of chance leaves -/
def TmPost (M : Mm) (lo hi g t f n a b : Nat) (ph : Int) (w : World) (e : Ending) (w' : World) : Prop :=
  ∃ (x y : Int) (ok : Bool), e = .returned (.tuple #[shV x y, .bool ok]) ∧ Tm M g t f n w' ∧ Out lo hi w w' ∧ (ok = true → ∃ c, M.ch a b ph = some c ∧ x = sN c ∧ y = sD c) ∧ (ok = false → M.ch a b ph = none)
/-- how many states a call may add -/
def gB : Nat → Nat
  | 0 => 0
  | n + 1 => 8 * gB n + 1
theorem gB_18 : gB 18 = 2573485501354569 := by decide +kernel
theorem gB_mono : ∀ {m n : Nat}, m ≤ n → gB m ≤ gB n
  | m, 0, h => by obtain rfl : m = 0 := by omega
                  exact Nat.le_refl _
  | m, n + 1, h => by
    by_cases e : m = n + 1
    · subst e; exact Nat.le_refl _
    · have := gB_mono (m := m) (n := n) (by omega)
      show _ ≤ 8 * gB n + 1
      omega
/-- what chance does for states with a + b ≤ n -/
def ImC (M : Mm) (lo hi g t f n : Nat) : Prop := ∀ (a b : Nat) (ph : Int) (N : Nat) (w : World), a + b ≤ n → a ≤ 9 → b ≤ 9 → 0 ≤ ph → ph ≤ 2 → M.at w lo → Tm M g t f N w → hi ≤ w.heap.size → N + gB n < 1000000000000000000 →
    Calls Try.prog 71 #[.pointer (some ⟨g, 0, none⟩), .int .i64 a, .int .i64 b, .int .i64 ph] w fun e w' => TmPost M lo hi g t f (N + gB n) a b ph w e w'
theorem ImC.int {M : Mm} {lo hi g t f n : Nat} (h : ImC M lo hi g t f n) (X Y r : Int) (N : Nat) (W : World) (hX : 0 ≤ X) (hX9 : X ≤ 9) (hY : 0 ≤ Y) (hY9 : Y ≤ 9) (hr0 : 0 ≤ r) (hr2 : r ≤ 2) (hs : X.toNat + Y.toNat ≤ n) (hMW : M.at W lo) (hT : Tm M g t f N W) (hz : hi ≤ W.heap.size) (hN : N + gB n < 1000000000000000000) :
    Calls Try.prog 71 #[.pointer (some ⟨g, 0, none⟩), .int .i64 X, .int .i64 Y, .int .i64 r] W fun e w' => TmPost M lo hi g t f (N + gB n) X.toNat Y.toNat r W e w' := by
  have k := h X.toNat Y.toNat r N W hs (by omega) (by omega) hr0 hr2 hMW hT hz hN
  rw [Int.toNat_of_nonneg hX, Int.toNat_of_nonneg hY] at k
  exact k
end Go.Proofs.Ytkioliioakmepaa
