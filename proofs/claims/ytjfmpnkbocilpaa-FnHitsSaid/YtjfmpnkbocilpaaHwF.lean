/-
  l05Find of the reference: is a board among the plays?
-/
import Derived.Test.YtjfmpnkbocilpaaHwJ
import Derived.Deep.RegionHeld3
namespace Go.Proofs.Ytjfmpnkbocilpaa
open Go.ChangeShapes Go.WideShapes Go.ChangeAt Go.RowKit
set_option linter.unusedVariables false

theorem hasB_take {l : List Pl} {k : Nat} (hk : k < l.length) (xs ys : List Int) : hasB (l.take (k + 1)) xs ys = (hasB (l.take k) xs ys || (decide ((l.getD k pl0).own = xs) && decide ((l.getD k pl0).oth = ys))) := by
  rw [List.take_succ_eq_append_getElem hk, List.getD_eq_getElem?_getD, List.getElem?_eq_getElem hk, hasB_snoc]; rfl
theorem hasB_yes {l : List Pl} {k : Nat} (hk : k < l.length) {xs ys : List Int} (h : (decide ((l.getD k pl0).own = xs) && decide ((l.getD k pl0).oth = ys)) = true) : hasB l xs ys = true := by
  unfold hasB
  rw [List.any_eq_true]
  refine ⟨l.getD k pl0, ?_, h⟩
  rw [List.getD_eq_getElem?_getD, List.getElem?_eq_getElem hk]; exact List.getElem_mem hk
def FdPost (b : Bool) (w : World) (e : Ending) (w' : World) : Prop := ∃ r : Int, e = .returned (.int .i64 r) ∧ -1 ≤ r ∧ r ≤ 9000000 ∧ decide (r < 0) = !b ∧ Below w.heap.size w w'
set_option maxRecDepth 16000 in
set_option maxHeartbeats 3200000 in
theorem l05Find_any (N : Nat) (pa : Option Addr) (n pc : Nat) (l : List Pl) (a : Option Addr) (ca : Nat) (xs : List Int) (b : Option Addr) (cb : Nat) (ys : List Int) (B : Nat) (w : World) (hl : PlsR w B N pa n l) (h1 : Ints w B .i64 a N xs) (h2 : Ints w B .i64 b N ys) (hB : B ≤ w.heap.size) (hN0 : 0 < N) (hN : N ≤ 25) (hn : n ≤ 8000000) :
    Calls Try.prog 40 #[.slice pa n pc, bdV a N ca b N cb] w fun e w' => FdPost (hasB l xs ys) w e w' := by
  have HB0 := Lib.hid ((Below.refl w.heap.size w).alloc (Nat.le_refl _) (.cells #[.slice a N ca, .slice b N cb] 32))
  have D0 := Lib.hid (pr_new w (.slice a N ca) (.slice b N cb) 32)
  have HL := Lib.hid hl
  have LEN := Lib.hid hl.len
  have K1 := Lib.hid h1
  have K2 := Lib.hid h2
  clear hl h1 h2
  go_enter Try.func40, Try.ntmps40
  go_wp2_with fail
  go_loopw [5] (fun ix wr => ∃ (k : Nat), k ≤ n ∧ ix = .int .i64 k ∧ Hid (hasB (l.take k) xs ys = false) ∧ Hid (wr.rowIs w.heap.size 32 2 (pr (.slice a N ca) (.slice b N cb))) ∧ Hid (Below w.heap.size w wr)) (fun ix _ => n - (intOf ix).toNat)
  case atStart => exact ⟨0, Nat.zero_le _, rfl, Lib.hid rfl, D0, HB0⟩
  case round =>
    obtain ⟨k, hk, rfl, HH, HD, HB⟩ := hrel
    by_cases hlt : k < n
    · obtain ⟨g, x, hpa, hg, hgz, c0', c1', c2', hx⟩ := HL.out.at hlt
      have c1 := (HB.out.cell (p := ⟨g, k * 3 + 1, none⟩) (by show g < _; omega)).trans c1'
      have c2 : wr.cell? ⟨g, k * 3 + 1 + 1, none⟩ = some (.slice x.ta N x.tc) := (HB.out.cell (p := ⟨g, k * 3 + 2, none⟩) (by show g < _; omega)).trans c2'
      subst hpa
      have HX := Lib.hid hx
      have zB := HB.out.size
      have SM := Lib.hid (fun (W : World) (hb : Below w.heap.size w W) => l05Same_any x.oa N x.oc (l.getD k pl0).own x.ta N x.tc (l.getD k pl0).oth a ca xs b cb ys B W (HX.out.own.below (hb.mono hB)) (HX.out.oth.below (hb.mono hB)) (K1.out.below (hb.mono hB)) (K2.out.below (hb.mono hB)) (by have := hb.size; omega) hN0 hN0 hN hN)
      have HT := Lib.hid (hasB_take (l := l) (k := k) (by have := LEN.out; omega) xs ys)
      have HY := Lib.hid (fun h => hasB_yes (l := l) (k := k) (by have := LEN.out; omega) (xs := xs) (ys := ys) h)
      obtain ⟨q, hq⟩ : ∃ q, (decide ((l.getD k pl0).own = xs) && decide ((l.getD k pl0).oth = ys)) = q := ⟨_, rfl⟩
      rw [hq] at SM HT HY
      obtain ⟨sa, sn, sc, oa, oc, ta, tc⟩ := x
      simp only at c1 c2 SM
      clear c0' c1' c2' hx HX hq
      have HDd := Lib.hid (show wr.drew.rowIs w.heap.size 32 2 (pr (.slice a N ca) (.slice b N cb)) from HD.out)
      have HBd := Lib.hid (show Below w.heap.size w wr.drew from below_drewN HB.out 1)
      have SMd := Lib.hid (SM.out _ HBd.out)
      have c1d := Lib.hid (show wr.drew.cell? ⟨g, k * 3 + 1, none⟩ = some (.slice oa N oc) from c1)
      have c2d := Lib.hid (show wr.drew.cell? ⟨g, k * 3 + 1 + 1, none⟩ = some (.slice ta N tc) from c2)
      obtain ⟨q0, q1⟩ := pr_cells HD.out
      have gz : g < w.heap.size := by omega
      cases q
      all_goals
        go_wp2_with fail
        go_region_held3 (fun w' => w'.cell? ⟨g, k * 3 + 1, none⟩ = some (.slice oa N oc) ∧ w'.cell? ⟨g, k * 3 + 1 + 1, none⟩ = some (.slice ta N tc) ∧ w'.cell? ⟨w.heap.size, 0, none⟩ = some (.slice a N ca) ∧ w'.cell? ⟨w.heap.size, 1, none⟩ = some (.slice b N cb))
          (first | go_keep)
          (first
            | (go_at_call 58; (with_reducible refine SMd.out.mono ?_); rintro e w2 ⟨rfl, hb2⟩; have e1 := (hb2.cell (p := ⟨g, k * 3 + 1, none⟩) (by show g < wr.drew.heap.size; have := HBd.out.size; omega)).trans c1d.out; have e2 := (hb2.cell (p := ⟨g, k * 3 + 1 + 1, none⟩) (by show g < wr.drew.heap.size; have := HBd.out.size; omega)).trans c2d.out; have HD2 := Lib.hid (rowIs_below HDd.out hb2 HDd.out.lt); have HB2 := Lib.hid (HBd.out.trans (hb2.mono HBd.out.size)); obtain ⟨x0, x1⟩ := pr_cells HD2.out; clear hb2))
      · go_wp2_with fail
        go_roundw
        case rel => exact ⟨k + 1, by omega, by go_num, Lib.hid (by rw [HT.out, HH.out]; rfl), HD2, HB2⟩
        case measure => (simp [intOf]; try omega)
      · go_wp2_with fail
        go_ret
        exact ⟨k, rfl, by omega, by omega, by rw [HY.out (by first | trivial | rfl), decide_eq_false (by omega)]; rfl, HB2.out⟩
    · obtain rfl : k = n := by omega
      have HF := Lib.hid (show hasB l xs ys = false by have := HH.out; rwa [List.take_of_length_le (by have := LEN.out; omega)] at this)
      go_wp2_with fail
      go_ret
      exact ⟨-1, rfl, by omega, by omega, by rw [HF.out]; rfl, HB.out⟩
end Go.Proofs.Ytjfmpnkbocilpaa
