/-
  The walks of the greatest common divisor (both packages), of IsShare, makeShare and l18Make, and of toShare and eqShare.
-/
import Derived.Test.YtmhmhbiihcdgiaaMem
import Derived.StillTailTactics
import Derived.RegionTactic
import Derived.BigRegion
import Derived.Deep.RegionWith
import Derived.Deep.RegionHeld3
namespace Go.Proofs.Ytmhmhbiihcdgiaa
open Go.ChangeShapes Go.WideShapes Go.ChangeAt Go.RowKit

/-- a block of two integers -/
def two (x y : Int) : Nat → Value
  | 0 => .int .i64 x
  | _ => .int .i64 y
theorem two_new (w : World) (x y : Int) (t : TypeId) : (w.alloc (.cells #[.int .i64 x, .int .i64 y] t)).rowIs w.heap.size t 2 (two x y) :=
  World.rowIs_alloc w _ _ _ (fun j hj => by
    match j, hj with
    | 0, _ => rfl
    | 1, _ => rfl)
theorem two_set {w : World} {g t : Nat} {x y : Int} (h : w.rowIs g t 2 (two x y)) (x' y' : Int) : ((w.setCell ⟨g, 0, none⟩ (.int .i64 x')).setCell ⟨g, 1, none⟩ (.int .i64 y')).rowIs g t 2 (two x' y') :=
  ((h.set 0 _).set 1 _).congr (fun j hj => by
    match j, hj with
    | 0, _ => rfl
    | 1, _ => rfl)
theorem two_cells {w : World} {g t : Nat} {x y : Int} (h : w.rowIs g t 2 (two x y)) : w.cell? ⟨g, 0, none⟩ = some (.int .i64 x) ∧ w.cell? ⟨g, 1, none⟩ = some (.int .i64 y) ∧ w.frozen? ⟨g, 0, none⟩ = false ∧ w.frozen? ⟨g, 1, none⟩ = false :=
  ⟨h.cell (i := 0) (by omega), h.cell (i := 1) (by omega), h.frozen 0, h.frozen 1⟩
abbrev shV (n d : Int) : Value := .agg #[.int .i64 n, .int .i64 d]
theorem gcd_step {x y : Int} (hx : 0 ≤ x) (hy : 0 < y) : Int.gcd y (x % y) = Int.gcd x y := by
  obtain ⟨a, rfl⟩ := Int.eq_ofNat_of_zero_le hx
  obtain ⟨b, rfl⟩ := Int.eq_ofNat_of_zero_le (show 0 ≤ y by omega)
  show Int.gcd (b : Int) ((a % b : Nat) : Int) = Int.gcd (a : Int) (b : Int)
  rw [Int.gcd_natCast_natCast, Int.gcd_natCast_natCast, Nat.gcd_comm a b, Nat.gcd_rec b a, Nat.gcd_comm]
theorem gcd_zero {x : Int} (hx : 0 ≤ x) : (Int.gcd x 0 : Int) = x := by
  rw [Int.gcd_zero_right]
  omega



/-- what both packages' IsShare returns -/
def shB (n d : Int) : Bool := wB d 1 1000000000000000 && wB n 0 d && ((Int.gcd d n : Int) == 1)
theorem shB_out {n d : Int} (h : shB n d = true) : 1 ≤ d ∧ d ≤ 1000000000000000 ∧ 0 ≤ n ∧ n ≤ d ∧ (Int.gcd d n : Int) = 1 := by
  simp only [shB, Bool.and_eq_true, beq_iff_eq] at h
  have h1 := wB_true.1 h.1.1
  have h2 := wB_true.1 h.1.2
  exact ⟨h1.1, h1.2, h2.1, h2.2, h.2⟩



/-- a fraction in lowest terms -/
def loN (n d : Int) : Int := n / (Int.gcd d n : Int)
def loD (n d : Int) : Int := d / (Int.gcd d n : Int)
def loB (n d : Int) : Bool := decide (loD n d ≤ 1000000000000000)
theorem lo_facts {n d : Int} (hn : 0 ≤ n) (hd : 0 < d) : 0 < (Int.gcd d n : Int) ∧ loN n d * (Int.gcd d n : Int) = n ∧ loD n d * (Int.gcd d n : Int) = d ∧ 0 ≤ loN n d ∧ 0 < loD n d ∧ loN n d ≤ n ∧ loD n d ≤ d ∧ (Int.gcd (loD n d) (loN n d) : Int) = 1 := by
  have hg : 0 < Int.gcd d n := Int.gcd_pos_of_ne_zero_left n (by omega)
  have h1 : ((Int.gcd d n : Nat) : Int) ∣ n := Int.gcd_dvd_right ..
  have h2 : ((Int.gcd d n : Nat) : Int) ∣ d := Int.gcd_dvd_left ..
  have e1 : loN n d * (Int.gcd d n : Int) = n := Int.ediv_mul_cancel h1
  have e2 : loD n d * (Int.gcd d n : Int) = d := Int.ediv_mul_cancel h2
  have p1 : 0 ≤ loN n d := Int.ediv_nonneg hn (by omega)
  have p2 : 0 < loD n d := by
    rcases Int.lt_or_le 0 (loD n d) with h | h
    · exact h
    · have : loD n d * (Int.gcd d n : Int) ≤ 0 := Int.mul_nonpos_of_nonpos_of_nonneg h (by omega)
      omega
  refine ⟨by omega, e1, e2, p1, p2, Int.ediv_le_self _ hn, Int.ediv_le_self _ (by omega), ?_⟩
  have := Int.gcd_ediv_gcd_ediv_gcd (i := d) (j := n) hg
  rw [loD, loN, this]
  rfl
theorem shB_lo {n d : Int} (hn : 0 ≤ n) (hd : 0 < d) (h : n ≤ d) : shB (loN n d) (loD n d) = loB n d := by
  obtain ⟨h0, h1, h2, h3, h4, h5, h6, h7⟩ := lo_facts hn hd
  have hle : loN n d ≤ loD n d := Int.ediv_le_ediv h0 h
  rw [shB, h7]
  have w2 : wB (loN n d) 0 (loD n d) = true := wB_true.2 ⟨h3, hle⟩
  rw [w2]
  by_cases hb : loD n d ≤ 1000000000000000
  · have w1 : wB (loD n d) 1 1000000000000000 = true := wB_true.2 ⟨by omega, hb⟩
    rw [w1, loB]
    simp [hb]
  · have w1 : wB (loD n d) 1 1000000000000000 = false := wB_false.2 (by omega)
    rw [w1, loB]
    simp [hb]


theorem loN_one {n d : Int} (h : (Int.gcd d n : Int) = 1) : loN n d = n := by rw [loN, h, Int.ediv_one]
theorem loD_one {n d : Int} (h : (Int.gcd d n : Int) = 1) : loD n d = d := by rw [loD, h, Int.ediv_one]


end Go.Proofs.Ytmhmhbiihcdgiaa
