/-
  Slices of structs whose fields are all integers: in memory they are rows of integers.
-/
import Derived.Test.YtmhmhbiihcdgiaaOpen
import Derived.Deep.Slices
import Derived.Deep.Fields
namespace Go.Proofs.Ytmhmhbiihcdgiaa
open Go.ChangeShapes Go.WideShapes Go.ChangeAt Go.RowKit Go.Joins Go.Deep

/-- a slice of n structs of sz integers that came in -/
def RecsArg (w : World) (sz : Nat) (a : Option Addr) (n : Nat) (xs : List Int) : Prop :=
  Ints w w.heap.size .i64 a (n * sz) xs ∧ n ≤ maxLen ∧ ∀ i, i < n * sz → (Lit.int .i64 (xs.getD i 0)).wf = true

section
variable {H : Type} {enc : TypeId × Value → H} {P : Program} {w : World} {spare : Nat → Bool} {held : Bool}
theorem open_recs {r : Reach} {b0 base : Nat} {t e : TypeId} {fs : Array Field} {v : Value} {d : DataW H} {p : List MemPlace} (ht : P.underlying t = some (.slice e)) (he : P.underlying e = some (.struct fs))
    (hone : oneCellFields P fs = true) (hC : P.cellsOf e = fs.size) (hsz : 0 < fs.size) (hint : ∀ (j : Nat) (f : Field), fs[j]? = some f → P.underlying f.type = some (.int .i64))
    (hv : Value.okWide P w r b0 t v) (h : DataW.Trod enc P w base spare held t v d p) : ∃ a n c xs, v = .slice a n c ∧ RecsArg w fs.size a n xs := by
  obtain ⟨a0, len0, cap0, rfl⟩ := okWide_slice ht hv
  obtain ⟨fuel, hf⟩ := h
  rcases open_slice ht hf with ⟨hcs, _⟩ | ⟨x, l, c, m, nn, D, Pl, hcs, hb, hl, hm, hmm, hx, hi⟩
  · simp [Value.cells] at hcs
    obtain ⟨rfl, rfl, rfl⟩ := hcs
    exact ⟨none, 0, 0, [], rfl, by rw [Nat.zero_mul]; exact Ints.nil, Nat.zero_le _, fun i hi => absurd hi (by omega)⟩
  · simp [Value.cells] at hcs
    obtain ⟨rfl, rfl, rfl⟩ := hcs
    have hlm : len0 ≤ m := by split at hmm <;> omega
    have key : ∀ q, q < len0 * fs.size → ∃ z : Int, w.cell? (x.add q) = some (.int .i64 z) ∧ (Lit.int .i64 z).wf = true := by
      intro q hq
      have hq1 : q / fs.size < len0 := (Nat.div_lt_iff_lt_mul hsz).2 hq
      have hq2 : q % fs.size < fs.size := Nat.mod_lt _ hsz
      obtain ⟨cs', hc, ht'⟩ := hi (q / fs.size) (by omega)
      rw [hC] at hc
      obtain ⟨ys, n', hn', hy, hlen, hyl, hf'⟩ := DataW.trod_struct he ht'
      obtain ⟨_, hcl, hat⟩ := World.cells?_some hc
      have hj : fs[q % fs.size]? = some (fs[q % fs.size]'hq2) := Array.getElem?_eq_getElem hq2
      obtain ⟨ho, hk⟩ := hone_of hone _ _ hj
      have h1 := hf' _ _ hj
      rw [ho, hk] at h1
      have hone' : (cs'.drop (q % fs.size)).take 1 = [cs'[q % fs.size]'(by omega)] := by
        rw [List.drop_eq_getElem_cons (by omega)]
        rfl
      rw [hone'] at h1
      have hys : ys[q % fs.size]? = some (ys[q % fs.size]'(by omega)) := List.getElem?_eq_getElem (by omega)
      obtain ⟨z, hz, _, hw⟩ := DataW.trod_int (hint _ _ hj) (h1.trans hys)
      refine ⟨z, ?_, hw⟩
      have hcell := hat (q % fs.size) hq2
      rw [Go.Deep.add_add, Nat.div_add_mod' q fs.size] at hcell
      rw [hcell, List.getElem?_eq_getElem (by omega)]
      simp at hz
      rw [hz]
    obtain ⟨X, hX⟩ := choose_lt (α := Int) (p := fun q z => w.cell? (x.add q) = some (.int .i64 z) ∧ (Lit.int .i64 z).wf = true) key
    have hget : ∀ i, i < len0 * fs.size → ((List.range (len0 * fs.size)).map X).getD i 0 = X i := fun i hi => by
      rw [List.getD_eq_getElem?_getD, List.getElem?_map, List.getElem?_range hi]
      rfl
    refine ⟨some x, len0, cap0, (List.range (len0 * fs.size)).map X, rfl, ⟨by simp, fun hn => ?_⟩, by omega, fun i hi => ?_⟩
    · obtain ⟨b, off, spot⟩ := x
      have h0 := (hX 0 hn).1
      have hspot : spot = none := by simpa [Addr.add] using World.cell?_spot h0
      subst hspot
      have hbl : b < w.heap.size := by
        have e : w.cell? ⟨b, off, none⟩ = some (.int .i64 (X 0)) := by simpa [Addr.add] using h0
        exact cell_lt e
      refine ⟨b, off, rfl, hbl, fun i hi => ?_⟩
      rw [hget i hi, ← (hX i hi).1]
      by_cases hi0 : i = 0
      · subst hi0; rfl
      · simp [Addr.add, hi0]
    · rw [hget i hi]
      exact (hX i hi).2
end

theorem rec3_at {w : World} {b off n : Nat} {xs : List Int} (hc : ∀ i, i < n * 3 → w.cell? ⟨b, off + i, none⟩ = some (.int .i64 (xs.getD i 0))) {k : Nat} (hk : k < n) :
    ∃ x y z : Int, w.cell? ⟨b, off + k * 3, none⟩ = some (.int .i64 x) ∧ w.cell? ⟨b, off + k * 3 + 1, none⟩ = some (.int .i64 y) ∧ w.cell? ⟨b, off + k * 3 + 2, none⟩ = some (.int .i64 z) ∧
      Hid (xs.getD (k * 3) 0 = x) ∧ Hid (xs.getD (k * 3 + 1) 0 = y) ∧ Hid (xs.getD (k * 3 + 2) 0 = z) :=
  ⟨_, _, _, hc (k * 3) (by omega), hc (k * 3 + 1) (by omega), hc (k * 3 + 2) (by omega), rfl, rfl, rfl⟩
theorem rec2_at {w : World} {b off n : Nat} {xs : List Int} (hc : ∀ i, i < n * 2 → w.cell? ⟨b, off + i, none⟩ = some (.int .i64 (xs.getD i 0))) {k : Nat} (hk : k < n) :
    ∃ x y : Int, w.cell? ⟨b, off + k * 2, none⟩ = some (.int .i64 x) ∧ w.cell? ⟨b, off + k * 2 + 1, none⟩ = some (.int .i64 y) ∧
      Hid (xs.getD (k * 2) 0 = x) ∧ Hid (xs.getD (k * 2 + 1) 0 = y) :=
  ⟨_, _, hc (k * 2) (by omega), hc (k * 2 + 1) (by omega), rfl, rfl⟩
theorem Ints.hid {w : World} {b off m B : Nat} {k : IntKind} {xs : List Int} (h : Ints w B k (some ⟨b, off, none⟩) m xs) : ∀ i, i < m → w.cell? ⟨b, off + i, none⟩ = some (.int k (xs.getD i 0)) := by
  intro i hi
  obtain ⟨b', off', e, _, hc⟩ := h.2 (by omega)
  injection e with e
  injection e with e1 e2
  subst e1 e2
  exact hc i hi
/-- a row of records: record k written -/
theorem row_set3 {w : World} {g t N : Nat} {f : Nat → Value} {xs : List Int} {k : Nat} {x y z : Int} (h : w.rowIs g t N f) (hf : ∀ j, j < k * 3 → f j = icell .i64 xs j) (hx : Hid (xs.getD (k * 3) 0 = x)) (hy : Hid (xs.getD (k * 3 + 1) 0 = y)) (hz : Hid (xs.getD (k * 3 + 2) 0 = z)) :
    ∃ f', (((w.setCell ⟨g, k * 3, none⟩ (.int .i64 x)).setCell ⟨g, k * 3 + 1, none⟩ (.int .i64 y)).setCell ⟨g, k * 3 + 2, none⟩ (.int .i64 z)).rowIs g t N f' ∧ ∀ j, j < (k + 1) * 3 → f' j = icell .i64 xs j := by
  refine ⟨_, ((h.set (k * 3) _).set (k * 3 + 1) _).set (k * 3 + 2) _, fun j hj => ?_⟩
  by_cases e2 : j = k * 3 + 2
  · subst e2; show (if _ then _ else _) = _; rw [if_pos rfl, icell, hz.out]
  · by_cases e1 : j = k * 3 + 1
    · subst e1; show (if _ then _ else (if _ then _ else _)) = _; rw [if_neg e2, if_pos rfl, icell, hy.out]
    · by_cases e0 : j = k * 3
      · subst e0; show (if _ then _ else (if _ then _ else (if _ then _ else _))) = _; rw [if_neg e2, if_neg e1, if_pos rfl, icell, hx.out]
      · simp only [if_neg e2, if_neg e1, if_neg e0]; exact hf j (by omega)

theorem make_recs {P : Program} (t e : TypeId) (z : Value) (sz bytes : Nat) (ht : P.underlying t = some (.slice e)) (hinfo : (P.info? e).map (fun i => (i.zero, i.size, i.bytes)) = some (some z, sz, bytes)) (n : Nat) (hb : bytes * n ≤ 281474976710656) (hn : n ≤ 9223372036854775807) (W : World) :
    (Instr.makeSlice t (.int .i64 (n : Int)) (.int .i64 (n : Int))).run P W = .ok (.slice (some ⟨W.heap.size, 0, none⟩) n n) (W.alloc (.cells (madeCells z.cells (n * sz)) e)) := by
  obtain ⟨i, hi, hz, hs, hbt⟩ := info_parts hinfo
  have hb' : (i.bytes : Int) * (n : Int) ≤ 281474976710656 := by
    have h : ((i.bytes * n : Nat) : Int) ≤ 281474976710656 := by rw [hbt]; omega
    rwa [Int.natCast_mul] at h
  have hr := run_make (P := P) W t e i z ht hi hz .i64 .i64 n n (by omega) (Int.le_refl _) hb' (by omega)
  simp only [Int.toNat_natCast, hs] at hr
  exact hr
theorem made_rowIs (w : World) (z : Array Value) (v : Value) (t : TypeId) (n : Nat) (hz : ∀ i, i < z.size → z[i]! = v) (h0 : 0 < z.size) : (w.alloc (.cells (madeCells z n) t)).rowIs w.heap.size t n (fun _ => v) := by
  have hs : (madeCells z n).size = n := by simp [madeCells]
  have h := World.rowIs_alloc w (madeCells z n) t (fun _ => v) (fun i hi => by
    rw [hs] at hi
    simp only [madeCells, Array.getElem?_map, Array.getElem?_range, hi, if_true, Option.map_some]
    rw [hz _ (Nat.mod_lt _ h0)])
  rwa [hs] at h
end Go.Proofs.Ytmhmhbiihcdgiaa
