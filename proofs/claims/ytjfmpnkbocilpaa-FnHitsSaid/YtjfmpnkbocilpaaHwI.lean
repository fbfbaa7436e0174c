/-
  hits of the program, l22Hits of the reference: does some play hit?
-/
import Derived.Test.YtjfmpnkbocilpaaHwG
namespace Go.Proofs.Ytjfmpnkbocilpaa
open Go.ChangeShapes Go.WideShapes Go.ChangeAt Go.RowKit
set_option linter.unusedVariables false

theorem hitP_take {l : List Pl} {k : Nat} (hk : k < l.length) : hitP (l.take (k + 1)) = (hitP (l.take k) || (l.getD k pl0).st.any St.hit) := by
  rw [take_snocP hk]; simp [hitP]
theorem hitP_yes {l : List Pl} {k : Nat} (hk : k < l.length) (h : (l.getD k pl0).st.any St.hit = true) : hitP l = true := by
  unfold hitP
  rw [List.any_eq_true]
  exact ⟨_, getD_memP hk, h⟩
theorem anyH_take {l : List St} {k : Nat} (hk : k < l.length) : (l.take (k + 1)).any St.hit = ((l.take k).any St.hit || (l.getD k st0).hit) := by
  rw [take_snocS hk]; simp
theorem anyH_yes {l : List St} {k : Nat} (hk : k < l.length) (h : (l.getD k st0).hit = true) : l.any St.hit = true := by
  rw [List.any_eq_true]
  exact ⟨_, getD_memS hk, h⟩
set_option maxRecDepth 16000 in
set_option maxHeartbeats 1600000 in
theorem hits_any (N B : Nat) (pa : Option Addr) (n pc : Nat) (l : List Pl) (w : World) (hl : PlsR w B N pa n l) (hB : B ≤ w.heap.size) (hn : n ≤ 8000000) (hs : ∀ p ∈ l, p.st.length ≤ 1000) :
    Calls Try.prog 26 #[.slice pa n pc] w fun e w' => e = .returned (.bool (hitP l)) ∧ Below w.heap.size w w' := by
  have HL := Lib.hid hl
  have LEN := Lib.hid hl.len
  have HS := Lib.hid hs
  clear hl hs
  go_enter Try.func26, Try.ntmps26
  go_wp2_with fail
  go_loopw [9] (fun ix wr => ∃ (k : Nat), k ≤ n ∧ ix = .int .i64 k ∧ Hid (hitP (l.take k) = false) ∧ Hid (Below w.heap.size w wr)) (fun ix _ => n - (intOf ix).toNat)
  case atStart => exact ⟨0, Nat.zero_le _, rfl, Lib.hid rfl, Lib.hid (Below.refl _ _)⟩
  case round =>
    obtain ⟨k, hk, rfl, HH, HB⟩ := hrel
    by_cases hlt : k < n
    · obtain ⟨g, x, hpa, hg, hgz, c0', c1', c2', hx⟩ := HL.out.at hlt
      have c0 := (HB.out.cell (p := ⟨g, k * 3, none⟩) (by show g < _; omega)).trans c0'
      have c1 := (HB.out.cell (p := ⟨g, k * 3 + 1, none⟩) (by show g < _; omega)).trans c1'
      have c2 := (HB.out.cell (p := ⟨g, k * 3 + 2, none⟩) (by show g < _; omega)).trans c2'
      subst hpa
      obtain ⟨p, hp⟩ : ∃ p, l.getD k pl0 = p := ⟨_, rfl⟩
      rw [hp] at hx
      have hkl : k < l.length := by have := LEN.out; omega
      have HT := Lib.hid (hitP_take hkl)
      have HY := Lib.hid (fun h => hitP_yes hkl h)
      rw [hp] at HT HY
      obtain ⟨sa, sn, sc, oa, oc, ta, tc⟩ := x
      obtain ⟨pst, pown, poth⟩ := p
      simp only at c0 c1 c2 HT HY
      have HSN := Lib.hid (show sn = pst.length from hx.s.1)
      have sn1 : sn ≤ 1000 := by rw [HSN.out]; exact HS.out ⟨pst, pown, poth⟩ (by rw [← hp]; exact getD_memP hkl)
      have HSR := Lib.hid (show StsR w B sa sn pst from hx.s)
      have HB1 := Lib.hid (HB.out.alloc HB.out.size (.cells #[.slice sa sn sc, .slice oa N oc, .slice ta N tc] 70))
      obtain ⟨q0, q1, q2⟩ := th3_cells (th3_new wr (.slice sa sn sc) (.slice oa N oc) (.slice ta N tc) 70)
      clear c0' c1' c2' hx hp hkl
      obtain ⟨wo, hwo⟩ : ∃ wo, wo = wr := ⟨_, rfl⟩
      subst hwo
      go_wp2_with fail
      go_loopw [16] (fun ix wr => ∃ (j : Nat), j ≤ sn ∧ ix = .int .i64 j ∧ Hid ((pst.take j).any St.hit = false) ∧ Hid (Below w.heap.size w wr)) (fun ix _ => sn - (intOf ix).toNat)
      case atStart => exact ⟨0, Nat.zero_le _, rfl, Lib.hid rfl, HB1⟩
      case round =>
        obtain ⟨j, hj, rfl, HH2, HB2⟩ := hrel
        by_cases hlt2 : j < sn
        · obtain ⟨gs, ha2, hgs, hgsz, s0', s1', s2', s3'⟩ := HSR.out.at hlt2
          subst ha2
          have s0 := (HB2.out.cell (p := ⟨gs, j * 4, none⟩) hgsz).trans s0'
          have s1 := (HB2.out.cell (p := ⟨gs, j * 4 + 1, none⟩) hgsz).trans s1'
          have s2 := (HB2.out.cell (p := ⟨gs, j * 4 + 2, none⟩) hgsz).trans s2'
          have s3 := (HB2.out.cell (p := ⟨gs, j * 4 + 3, none⟩) hgsz).trans s3'
          have hjl : j < pst.length := by have := HSN.out; omega
          have HT2 := Lib.hid (anyH_take hjl)
          have HY2 := Lib.hid (fun h => anyH_yes hjl h)
          obtain ⟨st, hst⟩ : ∃ st, pst.getD j st0 = st := ⟨_, rfl⟩
          rw [hst] at s0 s1 s2 s3 HT2 HY2
          clear hst hjl s0' s1' s2' s3'
          obtain ⟨sf, sx, sd, sh⟩ := st
          simp only at s0 s1 s2 s3 HT2 HY2
          obtain ⟨t0, t1, t2, t3⟩ := vr4_cells (vr4_new wr (.int .i64 sf) (.int .i64 sx) (.int .i64 sd) (.bool sh) 72)
          have HB3 := Lib.hid (HB2.out.alloc HB2.out.size (.cells #[.int .i64 sf, .int .i64 sx, .int .i64 sd, .bool sh] 72))
          cases sh
          · go_wp2_with fail
            go_roundw
            case rel => exact ⟨j + 1, by omega, by go_num, Lib.hid (by rw [HT2.out, HH2.out]; rfl), HB3⟩
            case measure => (simp [intOf]; try omega)
          · have HV := Lib.hid (HY.out (HY2.out rfl))
            go_wp2_with fail
            go_ret
            exact ⟨by rw [HV.out]; rfl, HB3.out⟩
        · obtain rfl : j = sn := by omega
          have HF := Lib.hid (show pst.any St.hit = false by have := HH2.out; rwa [List.take_of_length_le (by have := HSN.out; omega)] at this)
          go_wp2_with fail
          go_roundw
          case rel => exact ⟨k + 1, by omega, by go_num, Lib.hid (by rw [HT.out, HH.out, HF.out]; rfl), HB2⟩
          case measure => (simp [intOf]; try omega)
    · obtain rfl : k = n := by omega
      have HF := Lib.hid (show hitP l = false by have := HH.out; rwa [List.take_of_length_le (by have := LEN.out; omega)] at this)
      go_wp2_with fail
      go_ret
      exact ⟨by rw [HF.out]; rfl, HB.out⟩
set_option maxRecDepth 16000 in
set_option maxHeartbeats 1600000 in
theorem l22Hits_any (N B : Nat) (pa : Option Addr) (n pc : Nat) (l : List Pl) (w : World) (hl : PlsR w B N pa n l) (hB : B ≤ w.heap.size) (hn : n ≤ 8000000) (hs : ∀ p ∈ l, p.st.length ≤ 1000) :
    Calls Try.prog 20 #[.slice pa n pc] w fun e w' => e = .returned (.bool (hitP l)) ∧ Below w.heap.size w w' := by
  have HL := Lib.hid hl
  have LEN := Lib.hid hl.len
  have HS := Lib.hid hs
  clear hl hs
  go_enter Try.func20, Try.ntmps20
  go_wp2_with fail
  go_loopw [3] (fun ix wr => ∃ (k : Nat), k ≤ n ∧ ix = .int .i64 k ∧ Hid (hitP (l.take k) = false) ∧ Hid (Below w.heap.size w wr)) (fun ix _ => n - (intOf ix).toNat)
  case atStart => exact ⟨0, Nat.zero_le _, rfl, Lib.hid rfl, Lib.hid (Below.refl _ _)⟩
  case round =>
    obtain ⟨k, hk, rfl, HH, HB⟩ := hrel
    by_cases hlt : k < n
    · obtain ⟨g, x, hpa, hg, hgz, c0', c1', c2', hx⟩ := HL.out.at hlt
      have CE := Lib.hid (fun (W : World) (hb : Below w.heap.size w W) => (hb.cell (p := ⟨g, k * 3, none⟩) (by show g < _; omega)).trans c0')
      subst hpa
      obtain ⟨p, hp⟩ : ∃ p, l.getD k pl0 = p := ⟨_, rfl⟩
      rw [hp] at hx
      have hkl : k < l.length := by have := LEN.out; omega
      have HT := Lib.hid (hitP_take hkl)
      have HY := Lib.hid (fun h => hitP_yes hkl h)
      rw [hp] at HT HY
      obtain ⟨sa, sn, sc, oa, oc, ta, tc⟩ := x
      obtain ⟨pst, pown, poth⟩ := p
      simp only at CE HT HY
      have HSN := Lib.hid (show sn = pst.length from hx.s.1)
      have sn1 : sn ≤ 1000 := by rw [HSN.out]; exact HS.out ⟨pst, pown, poth⟩ (by rw [← hp]; exact getD_memP hkl)
      have HSR := Lib.hid (show StsR w B sa sn pst from hx.s)
      clear c0' c1' c2' hx hp hkl
      obtain ⟨wo, hwo⟩ : ∃ wo, wo = wr := ⟨_, rfl⟩
      subst hwo
      have hdk : decide ((k : Int) < (n : Int)) = true := decide_eq_true (by omega)
      go_wp2_with fail
      go_loopw [4] (fun ix wr => ∃ (j : Nat), j ≤ sn ∧ ix = .int .i64 j ∧ Hid ((pst.take j).any St.hit = false) ∧ Hid (Below w.heap.size w wr)) (fun ix _ => sn - (intOf ix).toNat)
      case atStart => exact ⟨0, Nat.zero_le _, rfl, Lib.hid rfl, HB⟩
      case round =>
        obtain ⟨j, hj, rfl, HH2, HB2⟩ := hrel
        have c0 := CE.out _ HB2.out
        by_cases hlt2 : j < sn
        · obtain ⟨gs, ha2, hgs, hgsz, s0', s1', s2', s3'⟩ := HSR.out.at hlt2
          subst ha2
          have s3 := (HB2.out.cell (p := ⟨gs, j * 4 + 3, none⟩) hgsz).trans s3'
          have hjl : j < pst.length := by have := HSN.out; omega
          have HT2 := Lib.hid (anyH_take hjl)
          have HY2 := Lib.hid (fun h => anyH_yes hjl h)
          obtain ⟨st, hst⟩ : ∃ st, pst.getD j st0 = st := ⟨_, rfl⟩
          rw [hst] at s3 HT2 HY2
          clear hst hjl s0' s1' s2' s3'
          obtain ⟨sf, sx, sd, sh⟩ := st
          simp only at s3 HT2 HY2
          cases sh
          · go_wp2_with fail
            go_roundw
            case rel => exact ⟨j + 1, by omega, by go_num, Lib.hid (by rw [HT2.out, HH2.out]; rfl), HB2⟩
            case measure => (simp [intOf]; try omega)
          · have HV := Lib.hid (HY.out (HY2.out rfl))
            go_wp2_with fail
            go_ret
            exact ⟨by rw [HV.out]; rfl, HB2.out⟩
        · obtain rfl : j = sn := by omega
          have HF := Lib.hid (show pst.any St.hit = false by have := HH2.out; rwa [List.take_of_length_le (by have := HSN.out; omega)] at this)
          go_wp2_with fail
          go_roundw
          case rel => exact ⟨k + 1, by omega, by go_num, Lib.hid (by rw [HT.out, HH.out, HF.out]; rfl), HB2⟩
          case measure => (simp [intOf]; try omega)
    · obtain rfl : k = n := by omega
      have HF := Lib.hid (show hitP l = false by have := HH.out; rwa [List.take_of_length_le (by have := LEN.out; omega)] at this)
      go_wp2_with fail
      go_ret
      exact ⟨by rw [HF.out]; rfl, HB.out⟩
end Go.Proofs.Ytjfmpnkbocilpaa
