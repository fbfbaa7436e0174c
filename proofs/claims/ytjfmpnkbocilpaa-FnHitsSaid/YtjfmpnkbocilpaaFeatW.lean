/-
  The walks of LongestPrime, OwnBlots and MadePoints (both packages).
-/
import Derived.Test.YtjfmpnkbocilpaaBrdC
import Derived.Test.YtjfmpnkbocilpaaGrow
import Derived.Test.YtjfmpnkbocilpaaFeatP
namespace Go.Proofs.Ytjfmpnkbocilpaa
open Go.ChangeShapes Go.WideShapes Go.ChangeAt Go.RowKit Go.Joins Go.Deep
set_option linter.unusedVariables false

section
variable {w v : World} {p c h s : Int} {a b : Option Addr} {n ca m cb B : Nat} {xs ys : List Int}
theorem vb_ints {o1 o2 : Obj} {k : IntKind} (h1 : Ints w B k a n xs) (hB : B ≤ w.heap.size) : Ints ((w.alloc o1).alloc o2) B k a n xs :=
  h1.below (((Below.refl B w).alloc hB o1).alloc (by simp; omega) o2)
theorem v_ints {o1 : Obj} {k : IntKind} (h1 : Ints w B k a n xs) (hB : B ≤ w.heap.size) : Ints (w.alloc o1) B k a n xs :=
  h1.below ((Below.refl B w).alloc hB o1)
theorem vb_size {o1 o2 : Obj} (hB : B ≤ w.heap.size) : B ≤ ((w.alloc o1).alloc o2).heap.size := by simp; omega
theorem v_size {o1 : Obj} (hB : B ≤ w.heap.size) : B ≤ (w.alloc o1).heap.size := by simp; omega
/-- behind the first call of a function of a variant and a board -/
theorem vb_after (hb : Below ((w.alloc (.cells #[.int .i64 p, .int .i64 c, .int .i64 h, .int .i64 s] 30)).alloc (.cells #[.slice a n ca, .slice b m cb] 32)).heap.size ((w.alloc (.cells #[.int .i64 p, .int .i64 c, .int .i64 h, .int .i64 s] 30)).alloc (.cells #[.slice a n ca, .slice b m cb] 32)) v) :
    v.rowIs w.heap.size 30 4 (vr4 (.int .i64 p) (.int .i64 c) (.int .i64 h) (.int .i64 s)) ∧ v.rowIs (w.heap.size + 1) 32 2 (pr (.slice a n ca) (.slice b m cb)) ∧ Below w.heap.size w v ∧ w.heap.size + 2 ≤ v.heap.size := by
  have HB0 := ((Below.refl w.heap.size w).alloc (Nat.le_refl _) (.cells #[.int .i64 p, .int .i64 c, .int .i64 h, .int .i64 s] 30)).alloc (by simp) (.cells #[.slice a n ca, .slice b m cb] 32)
  have r0 := (vr4_new w (.int .i64 p) (.int .i64 c) (.int .i64 h) (.int .i64 s) 30).alloc (.cells #[.slice a n ca, .slice b m cb] 32)
  have r1 := pr_new (w.alloc (.cells #[.int .i64 p, .int .i64 c, .int .i64 h, .int .i64 s] 30)) (.slice a n ca) (.slice b m cb) 32
  simp only [World.size_alloc] at r1
  have hz := hb.size
  simp only [World.size_alloc] at hz
  exact ⟨rowIs_below r0 hb r0.lt, rowIs_below r1 hb r1.lt, HB0.trans (hb.mono HB0.size), by omega⟩
end

theorem boardB_out {p c h s : Int} {n : Nat} {xs : List Int} {m : Nat} {ys : List Int} (hb : boardB p c h s n xs m ys = true) :
    ∃ P : Nat, p = (P : Int) ∧ (P < n ∧ n ≤ P + 1) ∧ (P < m ∧ m ≤ P + 1) ∧ n ≤ 25 ∧ m ≤ 25 ∧ (∀ i, i < n → 0 ≤ xs.getD i 0 ∧ xs.getD i 0 ≤ 15) ∧ (∀ i, i < m → 0 ≤ ys.getD i 0 ∧ ys.getD i 0 ≤ 15) := by
  simp only [boardB, Bool.and_eq_true] at hb
  obtain ⟨hv, ho, hu, _⟩ := hb
  obtain ⟨⟨p1, p2⟩, ⟨q1, q2⟩, _, _⟩ := vrB_true.1 hv
  obtain ⟨en, hx, _, _⟩ := sideB_out ho
  obtain ⟨em, hy, _, _⟩ := sideB_out hu
  obtain ⟨P, rfl⟩ := Int.eq_ofNat_of_zero_le (show 0 ≤ p by omega)
  exact ⟨P, rfl, ⟨by omega, by omega⟩, ⟨by omega, by omega⟩, by omega, by omega, fun i hi => ⟨(hx i hi).1, by have := (hx i hi).2; omega⟩, fun i hi => ⟨(hy i hi).1, by have := (hy i hi).2; omega⟩⟩



/-- what both packages' LongestPrime returns -/
def primeV (p c h s : Int) (n : Nat) (xs : List Int) (m : Nat) (ys : List Int) : Value :=
  if boardB p c h s n xs m ys = true then .tuple #[.int .i64 (prAt xs p.toNat), .int .i64 (prLong xs p.toNat), .int .i64 0] else .tuple #[.int .i64 0, .int .i64 0, .int .i64 1]
theorem primeV_no {p c h s : Int} {n : Nat} {xs : List Int} {m : Nat} {ys : List Int} (hv : boardB p c h s n xs m ys = false) : primeV p c h s n xs m ys = .tuple #[.int .i64 0, .int .i64 0, .int .i64 1] := by
  rw [primeV, hv]; rfl
theorem primeV_yes {P : Nat} {c h s : Int} {n : Nat} {xs : List Int} {m : Nat} {ys : List Int} (hv : boardB P c h s n xs m ys = true) : primeV P c h s n xs m ys = .tuple #[.int .i64 (prAt xs P), .int .i64 (prLong xs P), .int .i64 0] := by
  rw [primeV, hv, Int.toNat_natCast]; rfl



/-- the points that answer f, of a board; the code -/
def ptsB (f : Int → Bool) (p c h s : Int) (n : Nat) (xs : List Int) (m : Nat) (ys : List Int) : List Int := if boardB p c h s n xs m ys = true then ptsL f xs p.toNat else []
def bdC (p c h s : Int) (n : Nat) (xs : List Int) (m : Nat) (ys : List Int) : Int := if boardB p c h s n xs m ys = true then 0 else 1
section
variable {p c h s : Int} {n : Nat} {xs : List Int} {m : Nat} {ys : List Int} {f : Int → Bool} {P : Nat}
theorem ptsB_no (hv : boardB p c h s n xs m ys = false) : ptsB f p c h s n xs m ys = [] := by rw [ptsB, hv]; rfl
theorem ptsB_yes (hv : boardB P c h s n xs m ys = true) : ptsB f P c h s n xs m ys = ptsL f xs P := by rw [ptsB, hv, Int.toNat_natCast]; rfl
theorem bdC_no (hv : boardB p c h s n xs m ys = false) : bdC p c h s n xs m ys = 1 := by rw [bdC, hv]; rfl
theorem bdC_yes (hv : boardB p c h s n xs m ys = true) : bdC p c h s n xs m ys = 0 := by rw [bdC, hv]; rfl
theorem ptsB_le : (ptsB f p c h s n xs m ys).length ≤ 1048576 := by
  cases hv : boardB p c h s n xs m ys
  · rw [ptsB_no hv]; simp
  · obtain ⟨P, rfl, ⟨e, _⟩, _, h25, _⟩ := boardB_out hv
    rw [ptsB_yes hv]
    have := ptsL_le f xs P
    omega
end
def isOne (x : Int) : Bool := wB x 1 1
def isMade (x : Int) : Bool := wB x 2 99







end Go.Proofs.Ytjfmpnkbocilpaa
