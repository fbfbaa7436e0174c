/-
  The walks of NetworkDigest (both packages).
-/
import Derived.Test.YtcpbaigghhjceaaNet
import Derived.Test.YtcpbaigghhjceaaApp
import Derived.Deep.AppendLies
import Derived.Deep.RegionHeld3
namespace Go.Proofs.Ytcpbaigghhjceaa
open Go.ChangeShapes Go.WideShapes Go.ChangeAt Go.RowKit Go.Joins Go.Deep

/-- one step of the digest -/
def dgS (d z : Int) : Int := (48271 * d + z + 1048576) % 2147483647
def dgL (d : Int) (zs : List Int) : Nat → Int
  | 0 => d
  | k + 1 => dgS (dgL d zs k) (zs.getD k 0)
theorem dgS_bd (d z : Int) : 0 ≤ dgS d z ∧ dgS d z ≤ 2147483646 := by unfold dgS; omega
theorem dgL_bd {d : Int} {zs : List Int} (h1 : 0 ≤ d) (h2 : d ≤ 2147483646) : ∀ k, 0 ≤ dgL d zs k ∧ dgL d zs k ≤ 2147483646
  | 0 => ⟨h1, h2⟩
  | _ + 1 => dgS_bd _ _
theorem dgL_app {d : Int} {xs ys : List Int} {n : Nat} (hn : xs.length = n) : ∀ k, dgL d (xs ++ ys) (n + k) = dgL (dgL d xs n) ys k
  | 0 => by
    have : ∀ j, j ≤ n → dgL d (xs ++ ys) j = dgL d xs j := by
      intro j
      induction j with
      | zero => intro _; rfl
      | succ j ih =>
        intro hj
        simp only [dgL]
        rw [ih (by omega)]
        congr 1
        rw [List.getD_eq_getElem?_getD, List.getD_eq_getElem?_getD, List.getElem?_append_left (by omega)]
    exact this n (Nat.le_refl _)
  | k + 1 => by
    have ih := dgL_app (d := d) (xs := xs) (ys := ys) hn k
    show dgS (dgL d (xs ++ ys) (n + k)) ((xs ++ ys).getD (n + k) 0) = dgS (dgL (dgL d xs n) ys k) (ys.getD k 0)
    rw [ih]
    congr 1
    rw [List.getD_eq_getElem?_getD, List.getD_eq_getElem?_getD, List.getElem?_append_right (by omega), hn, Nat.add_sub_cancel_left]
def digV (i h : Int) (n : Nat) (xs : List Int) (m : Nat) (ys : List Int) : Int := if netB i h n xs m ys then dgL (dgL (i * 100 + h) xs n) ys m else -1
theorem digV_no {i h : Int} {n m : Nat} {xs ys : List Int} (k : netB i h n xs m ys = false) : digV i h n xs m ys = -1 := by rw [digV, k]; rfl
theorem digV_yes {i h : Int} {n m : Nat} {xs ys : List Int} (k : netB i h n xs m ys = true) : digV i h n xs m ys = dgL (dgL (i * 100 + h) xs n) ys m := by rw [digV, k]; rfl
theorem wgt_at {xs : List Int} {n k : Nat} (h : wgt xs n = true) (hk : k < n) : -1048576 ≤ xs.getD k 0 ∧ xs.getD k 0 ≤ 1048576 := wB_true.1 (allTo_at h k hk)
theorem wgt_app {xs ys : List Int} {n m k : Nat} (hl : xs.length = n) (h : wgt xs n = true) (h' : wgt ys m = true) (hk : k < n + m) : -1048576 ≤ (xs ++ ys).getD k 0 ∧ (xs ++ ys).getD k 0 ≤ 1048576 := by
  by_cases c : k < n
  · rw [show (xs ++ ys).getD k 0 = xs.getD k 0 by rw [List.getD_eq_getElem?_getD, List.getD_eq_getElem?_getD, List.getElem?_append_left (by omega)]]
    exact wgt_at h c
  · rw [show (xs ++ ys).getD k 0 = ys.getD (k - n) 0 by rw [List.getD_eq_getElem?_getD, List.getD_eq_getElem?_getD, List.getElem?_append_right (by omega), hl]]
    exact wgt_at h' (by omega)

section
variable {P : Program} {w : World}
/-- append to an owned slice (not nil), at a step of a region that draws its order -/
theorem step_app_own {ops : Array Oper} {o : Oper} {a : Act} {K : Act → World → Prop} {Q : Exit → Act → World → Prop} {E : Prop} (hgd : o.guard = none) (s x : Operand) (t : TypeId)
    (ho : o.op = .call { callee := .builtin .append, args := #[s, x], argTypes := #[t, t] })
    (base : Nat) (e : TypeId) (z : Value) (size bytes : Nat) (ht : P.underlying t = some (.slice e)) (hinfo : (P.info? e).map (fun i => (i.zero, i.size, i.bytes)) = some (some z, size, bytes)) (hzs : z.cells.size = size) (hsz : 0 < size) (hby : bytes ≤ 1024)
    (g cap n : Nat) (vs : List Value) (hs : a.eval s = .slice (some ⟨g, 0, none⟩) n cap) (hown : Own w base e size g cap n vs)
    (ad : Addr) (m c : Nat) (news : List Value) (hx : a.eval x = .slice (some ad) m c) (hl : news.length = m * size) (hnews : ∀ j u, news[j]? = some u → w.cell? (ad.add j) = some u) (h1 : ∀ u ∈ news, u.oneCell' = true)
    (hm : 0 < m) (h63 : n + m ≤ 8388608) (hbase : base ≤ w.heap.size)
    (h : ∀ g' cap' w', Own w' base e size g' cap' (n + m) (vs ++ news) → w.grownBy w' (some g) → K (a.put o.dst (.slice (some ⟨g', 0, none⟩) (n + m) cap')) w') :
    if Region.wanted o (yielded ops a.tmps) = true then Oper.wp P o a w K Q else E := by
  obtain ⟨i, hi, hz, hsize, hb⟩ := info_parts hinfo
  refine step_append_lies _ hgd s x t ho base e i z size bytes ht hi hz hsize hb hzs hsz _ n vs hs hown ad m c news hx hl hnews h1 hm (by unfold maxLen; omega) ?_ hbase w.heap.size rfl ?_
  · have : (n + m) * bytes ≤ 8388608 * 1024 := Nat.mul_le_mul h63 hby
    omega
  · intro g' cap' w' hv' hg' _ _
    exact h g' cap' w' hv' hg'
end

set_option maxHeartbeats 1600000 in
theorem spec_NetworkDigest_any (i h : Int) (a : Option Addr) (n c : Nat) (xs : List Int) (b : Option Addr) (m d : Nat) (ys : List Int) (B : Nat) (w : World) (h1 : Ints w B .i64 a n xs) (h2 : Ints w B .i64 b m ys) (hB : B ≤ w.heap.size) (hn : n ≤ 1048576) (hm : m ≤ 1048576) :
    Calls Try.prog 19 #[netV i h a n c b m d] w fun e w' => e = .returned (.int .i64 (digV i h n xs m ys)) ∧ Below w.heap.size w w' := by
  have HB0 := (Below.refl w.heap.size w).alloc (Nat.le_refl _) (.cells #[.int .i64 i, .int .i64 h, .slice a n c, .slice b m d] 27)
  have R0 := Lib.hid (four_new w (.int .i64 i) (.int .i64 h) (.slice a n c) (.slice b m d) 27)
  have k1 := h1.below ((Below.refl B w).alloc hB (.cells #[.int .i64 i, .int .i64 h, .slice a n c, .slice b m d] 27))
  have k2 := h2.below ((Below.refl B w).alloc hB (.cells #[.int .i64 i, .int .i64 h, .slice a n c, .slice b m d] 27))
  have hz0 : B ≤ (w.alloc (.cells #[.int .i64 i, .int .i64 h, .slice a n c, .slice b m d] 27)).heap.size := by simp; omega
  cases hk : netB i h n xs m ys
  · have HV := Lib.hid (digV_no hk)
    go_enter Try.func19, Try.ntmps19
    go_wp2_with fail
    refine (spec_IsNetwork_any _ _ _ _ _ _ _ _ _ _ _ _ k1 k2 hz0 hn hm).mono ?_
    rintro e w1 ⟨rfl, hb⟩
    rw [hk]
    go_wp2_with fail
    go_ret
    exact ⟨ret_int HV.out, HB0.trans (hb.mono HB0.size)⟩
  · have HV := Lib.hid (digV_yes hk)
    obtain ⟨⟨i1, i2⟩, ⟨g1, g2⟩, hnn, hmm, hwx, hwy⟩ := netB_out hk
    have hpb := prod_bd i1 i2 g1 g2
    have n2 : 2 ≤ n := by omega
    have m2 : 2 ≤ m := by omega
    have n3 : n ≤ 396 := by omega
    have m3 : m ≤ 13 := by omega
    clear hpb hnn hmm
    have hW := Lib.hid (fun k (hk : k < n + m) => wgt_app (xs := xs) (ys := ys) h1.len hwx hwy hk)
    clear hwx hwy
    have HLX := Lib.hid h1.len
    have HLY := Lib.hid h2.len
    obtain ⟨ab, ao, rfl, hab, hca⟩ := h1.2 (by omega)
    obtain ⟨bb, bo, rfl, hbb, hcb⟩ := h2.2 (by omega)
    have HCA := Lib.hid hca
    have HCB := Lib.hid hcb
    clear hca hcb h1 h2
    obtain ⟨d0, hd0⟩ : ∃ d0, i * 100 + h = d0 := ⟨_, rfl⟩
    have d1 : 0 ≤ d0 := by omega
    have d2 : d0 ≤ 3212 := by omega
    rw [hd0] at HV
    go_enter Try.func19, Try.ntmps19
    go_wp2_with fail
    refine (spec_IsNetwork_any _ _ _ _ _ _ _ _ _ _ _ _ k1 k2 hz0 hn hm).mono ?_
    rintro e w1 ⟨rfl, hb⟩
    rw [hk]
    clear hk k1 k2
    have H1 := HB0.trans (hb.mono HB0.size)
    obtain ⟨c0, c1, c2, c3⟩ := four_cells (rowIs_below R0.out hb R0.out.lt)
    have z1 := hb.size
    have z1' : w.heap.size < w1.heap.size := by simp at z1; omega
    clear hb
    go_wp2_with fail
    have hlab : ab < w.heap.size := by omega
    have hlbb : bb < w.heap.size := by omega
    have hnews1 : ∀ j u, (xs.map (Value.int .i64))[j]? = some u → (w1.drew.alloc (.cells #[] 2)).cell? ((⟨ab, ao, none⟩ : Addr).add j) = some u := by
      have h := tail_news (w := w1.drew.alloc (.cells #[] 2)) (d := 0) (k := .i64) HLX.out (fun k hk => (((below_drewN H1 1).alloc (Nat.le_of_lt z1') (.cells #[] 2)).cell (p := ⟨ab, ao + k, none⟩) hlab).trans (HCA.out k hk))
      simpa using h
    have Hnews1 := Lib.hid hnews1
    have HO := Lib.hid (Own.new w1.drew (w.heap.size + 1) 2 1 #[] 0 z1' (by unfold maxLen; omega) rfl)
    have HB1 := Lib.hid ((below_drewN H1 1).alloc (Nat.le_of_lt z1') (.cells #[] 2))
    have hfar : ∀ k : Nat, k ≠ w1.heap.size → w.heap.size ≠ w1.heap.size := fun _ _ => by omega
    clear hnews1
    go_region_held3 (fun w' => w'.cell? ⟨w.heap.size, 2, none⟩ = some (.slice (some ⟨ab, ao, none⟩) n c) ∧ w'.cell? ⟨w.heap.size, 3, none⟩ = some (.slice (some ⟨bb, bo, none⟩) m d))
      (first
        | go_keep
        | (go_split_ands; refine ⟨?_, ?_⟩ <;> (rw [hgrow2.cell_far]; assumption; (have q1 := hown.ge; show w.heap.size < _; omega); (have q1 := hown.ge; simp; omega)))
        | (go_split_ands; refine ⟨?_, ?_⟩ <;> (rw [hgrow.cell_far]; assumption; (simp; omega); (simp; omega))))
      (first
        | (refine step_app_own rfl (.tmp 15) (.tmp 17) 22 (by rfl) (w.heap.size + 1) 2 (.int .i64 0) 1 8 Try.underlying22 info_int rfl (by omega) (by omega) w1.heap.size 0 0 [] (by rfl) HO.out ⟨ab, ao, none⟩ n c (xs.map (.int .i64)) (by rfl) (by rw [List.length_map, HLX.out, Nat.mul_one]) Hnews1.out ints_cells (by omega) (by omega) (by simp; omega) ?_; intro gg cap w2 hown hgrow)
        | (refine step_app_own rfl (.tmp 18) (.tmp 20) 22 (by rfl) (w.heap.size + 1) 2 (.int .i64 0) 1 8 Try.underlying22 info_int rfl (by omega) (by omega) gg cap (0 + n) ([] ++ xs.map (.int .i64)) (by rfl) hown ⟨bb, bo, none⟩ m d (ys.map (.int .i64)) (by rfl) (by rw [List.length_map, HLY.out, Nat.mul_one]) (by have h := tail_news (w := w2) (d := 0) (k := .i64) HLY.out (fun k hk => ((by_below HB1.out hgrow (by omega) (by simp; omega)).cell (p := ⟨bb, bo + k, none⟩) hlbb).trans (HCB.out k hk)); simpa using h) ints_cells (by omega) (by omega) (by have := hgrow.size; simp at this; omega) ?_; intro gg2 cap2 w3 hown2 hgrow2))
    have HB3 := Lib.hid (by_below (by_below HB1.out hgrow (Nat.le_of_lt z1') (by simp; omega)) hgrow2 (by have := hown.ge; omega) (by have := hown.ge; omega))
    have HR := Lib.hid (show RowN w3 (w.heap.size + 1) w3.heap.size 2 (some ⟨gg2, 0, none⟩) (0 + n + m) (icell .i64 (xs ++ ys)) from Own.rowI (by simpa using hown2))
    have hcell : ∀ k, k < n + m → w3.cell? ⟨gg2, k, none⟩ = some (.int .i64 ((xs ++ ys).getD k 0)) := by
      obtain ⟨g', e, _, _, _, hc⟩ := HR.out.blk (by omega)
      injection e with e
      injection e with e
      subst e
      exact fun k hk => (hc k (by omega)).1
    have HCell := Lib.hid hcell
    clear hcell hgrow hgrow2 hown hown2 c0 c1 c2 c3 HO HB1
    have d3 : d0 ≤ 2147483646 := by omega
    clear hd0
    go_wp2
    go_loop [3, 5] (fun q ix => ∃ j : Nat, j ≤ n + m ∧ ix = .int .i64 j ∧ q = .int .i64 (dgL d0 (xs ++ ys) j)) (fun _ ix => n + m - (intOf ix).toNat)
    case atStart => exact ⟨0, Nat.zero_le _, rfl, rfl⟩
    case round =>
      obtain ⟨j, hj, rfl, rfl⟩ := hrel
      obtain ⟨x1, x2⟩ := dgL_bd (zs := xs ++ ys) d1 d3 j
      have hs := Lib.hid (show dgL d0 (xs ++ ys) (j + 1) = dgS (dgL d0 (xs ++ ys) j) ((xs ++ ys).getD j 0) from rfl)
      obtain ⟨D, hD⟩ : ∃ D, dgL d0 (xs ++ ys) j = D := ⟨_, rfl⟩
      rw [hD] at x1 x2 hs
      by_cases hlt : j < n + m
      · rw [hD]
        clear hD
        have hcx := HCell.out j hlt
        obtain ⟨y1, y2⟩ := hW.out j hlt
        obtain ⟨z, hz⟩ : ∃ z, (xs ++ ys).getD j 0 = z := ⟨_, rfl⟩
        rw [hz] at hcx y1 y2 hs
        clear hz
        have ht : (48271 * D + z + 1048576).tmod 2147483647 = dgS D z := Int.tmod_eq_emod_of_nonneg (by omega)
        go_wp2
        go_round
        case rel => exact ⟨j + 1, by omega, by go_num, by rw [hs.out]⟩
        case measure => simp [intOf]; omega
      · obtain rfl : j = n + m := by omega
        have HE := Lib.hid (hD.symm.trans (dgL_app (d := d0) (xs := xs) (ys := ys) HLX.out m))
        subst hD
        go_wp2
        go_ret
        exact ⟨ret_int (by rw [HV.out, HE.out]), HB3.out⟩

def twoW (p q : Value) : Nat → Value
  | 0 => p
  | _ => q
theorem twoW_new (w : World) (p q : Value) (t : TypeId) : (w.alloc (.cells #[p, q] t)).rowIs w.heap.size t 2 (twoW p q) :=
  World.rowIs_alloc w _ _ _ (fun j hj => by
    match j, hj with
    | 0, _ => rfl
    | 1, _ => rfl)
set_option maxHeartbeats 1600000 in
theorem impl_NetworkDigest_any (i h : Int) (a : Option Addr) (n c : Nat) (xs : List Int) (b : Option Addr) (m d : Nat) (ys : List Int) (B : Nat) (w : World) (h1 : Ints w B .i64 a n xs) (h2 : Ints w B .i64 b m ys) (hB : B ≤ w.heap.size) (hn : n ≤ 1048576) (hm : m ≤ 1048576) :
    Calls Try.prog 20 #[netV i h a n c b m d] w fun e w' => e = .returned (.int .i64 (digV i h n xs m ys)) ∧ Below w.heap.size w w' := by
  have HB0 := (Below.refl w.heap.size w).alloc (Nat.le_refl _) (.cells #[.int .i64 i, .int .i64 h, .slice a n c, .slice b m d] 27)
  have R0 := Lib.hid (four_new w (.int .i64 i) (.int .i64 h) (.slice a n c) (.slice b m d) 27)
  have k1 := h1.below ((Below.refl B w).alloc hB (.cells #[.int .i64 i, .int .i64 h, .slice a n c, .slice b m d] 27))
  have k2 := h2.below ((Below.refl B w).alloc hB (.cells #[.int .i64 i, .int .i64 h, .slice a n c, .slice b m d] 27))
  have hz0 : B ≤ (w.alloc (.cells #[.int .i64 i, .int .i64 h, .slice a n c, .slice b m d] 27)).heap.size := by simp; omega
  cases hk : netB i h n xs m ys
  · have HV := Lib.hid (digV_no hk)
    go_enter Try.func20, Try.ntmps20
    go_wp2_with fail
    refine (impl_IsNetwork_any _ _ _ _ _ _ _ _ _ _ _ _ k1 k2 hz0 hn hm).mono ?_
    rintro e w1 ⟨rfl, hb⟩
    rw [hk]
    go_wp2_with fail
    go_ret
    exact ⟨ret_int HV.out, HB0.trans (hb.mono HB0.size)⟩
  · have HV := Lib.hid (digV_yes hk)
    obtain ⟨⟨i1, i2⟩, ⟨g1, g2⟩, hnn, hmm, hwx, hwy⟩ := netB_out hk
    have hpb := prod_bd i1 i2 g1 g2
    have n2 : 2 ≤ n := by omega
    have m2 : 2 ≤ m := by omega
    have n3 : n ≤ 396 := by omega
    have m3 : m ≤ 13 := by omega
    clear hpb hnn hmm
    have HWA := Lib.hid (fun k (hk : k < n) => wgt_at hwx hk)
    have HWB := Lib.hid (fun k (hk : k < m) => wgt_at hwy hk)
    clear hwx hwy
    obtain ⟨ab, ao, rfl, hab, hca⟩ := h1.2 (by omega)
    obtain ⟨bb, bo, rfl, hbb, hcb⟩ := h2.2 (by omega)
    have HCA0 := Lib.hid hca
    have HCB0 := Lib.hid hcb
    clear hca hcb h1 h2
    obtain ⟨d0, hd0⟩ : ∃ d0, i * 100 + h = d0 := ⟨_, rfl⟩
    have d1 : 0 ≤ d0 := by omega
    have d2 : d0 ≤ 2147483646 := by omega
    rw [hd0] at HV
    have HD := Lib.hid hd0
    go_enter Try.func20, Try.ntmps20
    go_wp2_with fail
    refine (impl_IsNetwork_any _ _ _ _ _ _ _ _ _ _ _ _ k1 k2 hz0 hn hm).mono ?_
    rintro e w1 ⟨rfl, hb⟩
    rw [hk]
    clear hk k1 k2
    have H1 := HB0.trans (hb.mono HB0.size)
    obtain ⟨c0, c1, c2, c3⟩ := four_cells (rowIs_below R0.out hb R0.out.lt)
    have z1 := hb.size
    have z1' : w.heap.size < w1.heap.size := by simp at z1; omega
    clear hb z1
    go_wp2_with fail
    clear hd0
    have HT := Lib.hid (twoW_new w1 (.slice (some ⟨ab, ao, none⟩) n c) (.slice (some ⟨bb, bo, none⟩) m d) 22)
    have H2 := H1.alloc (Nat.le_of_lt z1') (.cells #[.slice (some ⟨ab, ao, none⟩) n c, .slice (some ⟨bb, bo, none⟩) m d] 22)
    have hlab : ab < w.heap.size := by omega
    have hlbb : bb < w.heap.size := by omega
    have HCA := Lib.hid (fun k hk => (H2.cell (p := ⟨ab, ao + k, none⟩) hlab).trans (HCA0.out k hk))
    have HCB := Lib.hid (fun k hk => (H2.cell (p := ⟨bb, bo + k, none⟩) hlbb).trans (HCB0.out k hk))
    have HH2 := Lib.hid H2
    obtain ⟨W, hW⟩ : ∃ W, w1.alloc (.cells #[.slice (some ⟨ab, ao, none⟩) n c, .slice (some ⟨bb, bo, none⟩) m d] 22) = W := ⟨_, rfl⟩
    have cb0 := HT.out.cell (i := 0) (by omega)
    have cb1 := HT.out.cell (i := 1) (by omega)
    simp only [twoW] at cb0 cb1
    rw [hW] at cb0 cb1 HCA HCB HH2
    rw [hW]
    clear hW H2 HT c0 c1 c2 c3 HD
    obtain ⟨e1, e2⟩ := dgL_bd (zs := xs) d1 d2 n
    obtain ⟨D1, hD1⟩ : ∃ D1, dgL d0 xs n = D1 := ⟨_, rfl⟩
    rw [hD1] at e1 e2 HV
    have HD1 := Lib.hid hD1
    clear hD1
    go_loop [3, 23] (fun q ix => (ix = .int .i64 0 ∧ q = .int .i64 d0) ∨ (ix = .int .i64 1 ∧ q = .int .i64 D1) ∨ (ix = .int .i64 2 ∧ q = .int .i64 (dgL D1 ys m))) (fun _ ix => 2 - (intOf ix).toNat)
    case atStart => exact .inl ⟨rfl, rfl⟩
    case round =>
      rcases hrel with ⟨rfl, rfl⟩ | ⟨rfl, rfl⟩ | ⟨rfl, rfl⟩
      · go_wp2
        go_loop [3, 29] (fun q ix => ∃ j : Nat, j ≤ n ∧ ix = .int .i64 j ∧ q = .int .i64 (dgL d0 xs j)) (fun _ ix => n - (intOf ix).toNat)
        case atStart => exact ⟨0, Nat.zero_le _, rfl, rfl⟩
        case round =>
          obtain ⟨j, hj, rfl, rfl⟩ := hrel
          obtain ⟨x1, x2⟩ := dgL_bd (zs := xs) d1 d2 j
          have hs := Lib.hid (show dgL d0 xs (j + 1) = dgS (dgL d0 xs j) (xs.getD j 0) from rfl)
          obtain ⟨D, hD⟩ : ∃ D, dgL d0 xs j = D := ⟨_, rfl⟩
          rw [hD] at x1 x2 hs
          by_cases hlt : j < n
          · rw [hD]
            clear hD
            have hcx := HCA.out j hlt
            obtain ⟨y1, y2⟩ := HWA.out j hlt
            obtain ⟨z, hz⟩ : ∃ z, xs.getD j 0 = z := ⟨_, rfl⟩
            rw [hz] at hcx y1 y2 hs
            clear hz
            have ht : (48271 * D + z + 1048576).tmod 2147483647 = dgS D z := Int.tmod_eq_emod_of_nonneg (by omega)
            go_wp2
            go_round
            case rel => exact ⟨j + 1, by omega, by go_num, by rw [hs.out]⟩
            case measure => simp [intOf]; omega
          · obtain rfl : j = n := by omega
            subst hD
            go_wp2
            go_round
            case rel => exact .inr (.inl ⟨by go_num, by rw [HD1.out]⟩)
            case measure => simp [intOf]
      · go_wp2
        go_loop [3, 29] (fun q ix => ∃ j : Nat, j ≤ m ∧ ix = .int .i64 j ∧ q = .int .i64 (dgL D1 ys j)) (fun _ ix => m - (intOf ix).toNat)
        case atStart => exact ⟨0, Nat.zero_le _, rfl, rfl⟩
        case round =>
          obtain ⟨j, hj, rfl, rfl⟩ := hrel
          obtain ⟨x1, x2⟩ := dgL_bd (zs := ys) e1 e2 j
          have hs := Lib.hid (show dgL D1 ys (j + 1) = dgS (dgL D1 ys j) (ys.getD j 0) from rfl)
          obtain ⟨D, hD⟩ : ∃ D, dgL D1 ys j = D := ⟨_, rfl⟩
          rw [hD] at x1 x2 hs
          by_cases hlt : j < m
          · rw [hD]
            clear hD
            have hcx := HCB.out j hlt
            obtain ⟨y1, y2⟩ := HWB.out j hlt
            obtain ⟨z, hz⟩ : ∃ z, ys.getD j 0 = z := ⟨_, rfl⟩
            rw [hz] at hcx y1 y2 hs
            clear hz
            have ht : (48271 * D + z + 1048576).tmod 2147483647 = dgS D z := Int.tmod_eq_emod_of_nonneg (by omega)
            go_wp2
            go_round
            case rel => exact ⟨j + 1, by omega, by go_num, by rw [hs.out]⟩
            case measure => simp [intOf]; omega
          · obtain rfl : j = m := by omega
            subst hD
            go_wp2
            go_round
            case rel => exact .inr (.inr ⟨by go_num, rfl⟩)
            case measure => simp [intOf]
      · go_wp2
        go_ret
        exact ⟨ret_int HV.out, HH2.out⟩
end Go.Proofs.Ytcpbaigghhjceaa
