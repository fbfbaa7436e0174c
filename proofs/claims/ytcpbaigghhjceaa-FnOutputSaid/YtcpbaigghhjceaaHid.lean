/-
  The walks of the hidden units of a network and of its output (both packages).
-/
import Derived.Test.YtcpbaigghhjceaaDig
import Derived.Test.YtcpbaigghhjceaaAct
import Derived.Deep.QuietTactic
import Derived.BigQuiet
namespace Go.Proofs.Ytcpbaigghhjceaa
open Go.ChangeShapes Go.WideShapes Go.ChangeAt Go.RowKit Go.Joins Go.Deep

def dotS (ws vs : List Int) : Nat → Int
  | 0 => 0
  | k + 1 => dotS ws vs k + ws.getD k 0 * vs.getD k 0
def uS (ws vs : List Int) (n : Nat) : Int := (ws.getD n 0 * 4096 + dotS ws vs n) / 4096
theorem mul_bd {x y A B : Int} (_hA : 0 ≤ A) (_hB : 0 ≤ B) (h1 : -A ≤ x) (h2 : x ≤ A) (h3 : -B ≤ y) (h4 : y ≤ B) : -(A * B) ≤ x * y ∧ x * y ≤ A * B := by
  have a1 : 0 ≤ (A - x) * (B - y) := Int.mul_nonneg (by omega) (by omega)
  have a2 : 0 ≤ (A + x) * (B + y) := Int.mul_nonneg (by omega) (by omega)
  have a3 : 0 ≤ (A - x) * (B + y) := Int.mul_nonneg (by omega) (by omega)
  have a4 : 0 ≤ (A + x) * (B - y) := Int.mul_nonneg (by omega) (by omega)
  simp only [Int.sub_mul, Int.mul_sub, Int.add_mul, Int.mul_add] at a1 a2 a3 a4
  omega
theorem dotS_bd {ws vs : List Int} {n : Nat} (hw : ∀ k, k < n → -1048576 ≤ ws.getD k 0 ∧ ws.getD k 0 ≤ 1048576) (hv : ∀ k, k < n → -4096 ≤ vs.getD k 0 ∧ vs.getD k 0 ≤ 4096) : ∀ k, k ≤ n → -(k * 4294967296) ≤ dotS ws vs k ∧ dotS ws vs k ≤ k * 4294967296
  | 0, _ => by simp [dotS]
  | k + 1, hk => by
    have ih := dotS_bd hw hv k (by omega)
    have a := hw k (by omega)
    have b := hv k (by omega)
    have c := mul_bd (A := 1048576) (B := 4096) (by omega) (by omega) a.1 a.2 b.1 b.2
    have e : dotS ws vs (k + 1) = dotS ws vs k + ws.getD k 0 * vs.getD k 0 := rfl
    rw [e]
    omega
theorem act_bd (x : Int) : 0 ≤ act x ∧ act x ≤ 4096 := by unfold act; split <;> (try split) <;> omega
def inP (vs : List Int) (l : Nat) : Bool := allTo (fun x => wB x (-4096) 4096) vs l
theorem inP_at {vs : List Int} {l k : Nat} (h : inP vs l = true) (hk : k < l) : -4096 ≤ vs.getD k 0 ∧ vs.getD k 0 ≤ 4096 := wB_true.1 (allTo_at h k hk)

set_option maxHeartbeats 800000 in
theorem unitSum_any (a : Option Addr) (m c : Nat) (ws : List Int) (b : Option Addr) (n d : Nat) (vs : List Int) (B B' : Nat) (w : World) (h1 : Ints w B .i64 a m ws) (h2 : Ints w B' .i64 b n vs) (hm : n < m) (hm2 : m ≤ 33) (hn : 1 ≤ n) (hw : ∀ k, k < m → -1048576 ≤ ws.getD k 0 ∧ ws.getD k 0 ≤ 1048576) (hv : ∀ k, k < n → -4096 ≤ vs.getD k 0 ∧ vs.getD k 0 ≤ 4096) :
    Calls Try.prog 57 #[.slice a m c, .slice b n d] w fun e w' => e = .returned (.int .i64 (uS ws vs n)) ∧ w = w' := by
  obtain ⟨ab, ao, rfl, hab, hca⟩ := h1.2 (by omega)
  obtain ⟨bb, bo, rfl, hbb, hcb⟩ := h2.2 (by omega)
  have hcn := hca n (by omega)
  obtain ⟨wn1, wn2⟩ := hw n (by omega)
  have HCA := Lib.hid hca
  have HCB := Lib.hid hcb
  have HW := Lib.hid hw
  have HV := Lib.hid hv
  have HD := Lib.hid (dotS_bd (n := n) (fun k hk => hw k (by omega)) hv)
  have HU := Lib.hid (show uS ws vs n = (ws.getD n 0 * 4096 + dotS ws vs n) / 4096 from rfl)
  obtain ⟨wn, hwn⟩ : ∃ x, ws.getD n 0 = x := ⟨_, rfl⟩
  rw [hwn] at hcn wn1 wn2 HU
  clear hca hcb hw hv h1 h2 hwn
  go_enter Try.func57, Try.ntmps57
  go_wp2
  go_loop [5, 16] (fun q ix => ∃ j : Nat, j ≤ n ∧ ix = .int .i64 j ∧ q = .int .i64 (wn * 4096 + dotS ws vs j)) (fun _ ix => n - (intOf ix).toNat)
  case atStart => exact ⟨0, Nat.zero_le _, rfl, by simp [dotS]⟩
  case round =>
    obtain ⟨j, hj, rfl, rfl⟩ := hrel
    obtain ⟨x1, x2⟩ := HD.out j hj
    have hs := Lib.hid (show dotS ws vs (j + 1) = dotS ws vs j + ws.getD j 0 * vs.getD j 0 from rfl)
    obtain ⟨D, hD⟩ : ∃ D, dotS ws vs j = D := ⟨_, rfl⟩
    rw [hD] at x1 x2 hs
    by_cases hlt : j < n
    · rw [hD]
      clear hD
      have hcx := HCA.out j (by omega)
      have hcy := HCB.out j hlt
      obtain ⟨y1, y2⟩ := HW.out j (by omega)
      obtain ⟨y3, y4⟩ := HV.out j hlt
      obtain ⟨x, hx⟩ : ∃ z, ws.getD j 0 = z := ⟨_, rfl⟩
      obtain ⟨y, hy⟩ : ∃ z, vs.getD j 0 = z := ⟨_, rfl⟩
      rw [hx] at hcx y1 y2 hs
      rw [hy] at hcy y3 y4 hs
      clear hx hy
      obtain ⟨p1, p2⟩ := mul_bd (A := 1048576) (B := 4096) (by omega) (by omega) y1 y2 y3 y4
      have p3 : -4294967296 ≤ x * y := by omega
      have p4 : x * y ≤ 4294967296 := by omega
      have p5 : -4611686018427387904 ≤ wn * 4096 + D + x * y := by omega
      have p6 : wn * 4096 + D + x * y ≤ 4611686018427387904 := by omega
      clear p1 p2
      go_wp2
      go_round
      case rel => exact ⟨j + 1, by omega, by go_num, by rw [hs.out, Int.add_assoc]⟩
      case measure => simp [intOf]; omega
    · obtain rfl : j = n := by omega
      rw [hD] at HU ⊢
      clear hD
      go_wp2
      go_ret
      exact ⟨ret_int HU.out, rfl⟩

set_option maxHeartbeats 800000 in
theorem l23Sum_any (a : Option Addr) (m c : Nat) (ws : List Int) (b : Option Addr) (n d : Nat) (vs : List Int) (B B' : Nat) (w : World) (h1 : Ints w B .i64 a m ws) (h2 : Ints w B' .i64 b n vs) (hm : n < m) (hm2 : m ≤ 33) (hn : 1 ≤ n) (hw : ∀ k, k < m → -1048576 ≤ ws.getD k 0 ∧ ws.getD k 0 ≤ 1048576) (hv : ∀ k, k < n → -4096 ≤ vs.getD k 0 ∧ vs.getD k 0 ≤ 4096) :
    Calls Try.prog 54 #[.slice a m c, .slice b n d] w fun e w' => e = .returned (.int .i64 (uS ws vs n)) ∧ Below w.heap.size w w' := by
  obtain ⟨ab, ao, rfl, hab, hca⟩ := h1.2 (by omega)
  obtain ⟨bb, bo, rfl, hbb, hcb⟩ := h2.2 (by omega)
  have hcn := hca n (by omega)
  obtain ⟨wn1, wn2⟩ := hw n (by omega)
  have HCA := Lib.hid hca
  have HCB := Lib.hid hcb
  have HW := Lib.hid hw
  have HV := Lib.hid hv
  have HD := Lib.hid (dotS_bd (n := n) (fun k hk => hw k (by omega)) hv)
  have HU := Lib.hid (show uS ws vs n = (ws.getD n 0 * 4096 + dotS ws vs n) / 4096 from rfl)
  obtain ⟨wn, hwn⟩ : ∃ x, ws.getD n 0 = x := ⟨_, rfl⟩
  rw [hwn] at hcn wn1 wn2 HU
  clear hca hcb hw hv h1 h2 hwn
  go_enter Try.func54, Try.ntmps54
  go_wp2
  go_loopw [5, 6] (fun q ix wr => ∃ j t : Nat, j ≤ n ∧ ix = .int .i64 j ∧ q = .int .i64 (wn * 4096 + dotS ws vs j) ∧ wr = w.drewN t) (fun _ ix _ => n - (intOf ix).toNat)
  case atStart => exact ⟨0, 0, Nat.zero_le _, rfl, by simp [dotS], rfl⟩
  case round =>
    obtain ⟨j, t, hj, rfl, rfl, rfl⟩ := hrel
    obtain ⟨x1, x2⟩ := HD.out j hj
    have hs := Lib.hid (show dotS ws vs (j + 1) = dotS ws vs j + ws.getD j 0 * vs.getD j 0 from rfl)
    obtain ⟨D, hD⟩ : ∃ D, dotS ws vs j = D := ⟨_, rfl⟩
    rw [hD] at x1 x2 hs
    by_cases hlt : j < n
    · rw [hD]
      clear hD
      have hcx := HCA.out j (by omega)
      have hcy := HCB.out j hlt
      obtain ⟨y1, y2⟩ := HW.out j (by omega)
      obtain ⟨y3, y4⟩ := HV.out j hlt
      obtain ⟨x, hx⟩ : ∃ z, ws.getD j 0 = z := ⟨_, rfl⟩
      obtain ⟨y, hy⟩ : ∃ z, vs.getD j 0 = z := ⟨_, rfl⟩
      rw [hx] at hcx y1 y2 hs
      rw [hy] at hcy y3 y4 hs
      clear hx hy
      obtain ⟨p1, p2⟩ := mul_bd (A := 1048576) (B := 4096) (by omega) (by omega) y1 y2 y3 y4
      have p3 : -4294967296 ≤ x * y := by omega
      have p4 : x * y ≤ 4294967296 := by omega
      have p5 : -4611686018427387904 ≤ wn * 4096 + D + x * y := by omega
      have p6 : wn * 4096 + D + x * y ≤ 4611686018427387904 := by omega
      have hlt2 : (j : Int) < (m : Int) := by omega
      clear p1 p2
      go_wp2
      go_quiet (fail)
      go_wp2
      go_roundw
      case rel => exact ⟨j + 1, _, by omega, by go_num, by rw [hs.out, Int.add_assoc], rfl⟩
      case measure => simp [intOf]; omega
    · obtain rfl : j = n := by omega
      rw [hD] at HU ⊢
      clear hD
      go_wp2_with (go_at_call 62; refine (l23Floor_any _ _ _ (by omega) (by omega) (by omega) (by omega)).mono ?_; rintro e w' ⟨rfl, rfl⟩)
      go_ret
      exact ⟨ret_int HU.out, below_drewN (Below.refl _ _) _⟩

/-- a part of a slice of integers -/
theorem Ints.part {w : World} {B b o n lo q : Nat} {k : IntKind} {xs : List Int} (h : Ints w B k (some ⟨b, o, none⟩) n xs) (hq : lo + q ≤ n) : Ints w B k (some ⟨b, o + lo, none⟩) q ((xs.drop lo).take q) := by
  refine ⟨by rw [List.length_take, List.length_drop, h.1]; omega, fun h0 => ?_⟩
  obtain ⟨b', o', e, hb, hc⟩ := h.2 (by omega)
  injection e with e
  injection e with e1 e2
  subst e1 e2
  refine ⟨b, o + lo, rfl, hb, fun i hi => ?_⟩
  rw [Nat.add_assoc, hc (lo + i) (by omega)]
  rw [List.getD_eq_getElem?_getD, List.getD_eq_getElem?_getD, List.getElem?_take_of_lt hi, List.getElem?_drop]
theorem part_getD {xs : List Int} {lo q i : Nat} (hi : i < q) : ((xs.drop lo).take q).getD i 0 = xs.getD (lo + i) 0 := by
  rw [List.getD_eq_getElem?_getD, List.getD_eq_getElem?_getD, List.getElem?_take_of_lt hi, List.getElem?_drop]

/-- the weights of hidden unit k, with p inputs -/
def unW (fs : List Int) (p k : Nat) : List Int := (fs.drop (k * (p + 1))).take (p + 1)
def sumL (fs vs : List Int) (p h : Nat) : List Int := (List.range h).map fun k => uS (unW fs p k) vs p
def actL (ss : List Int) : List Int := ss.map act
theorem sumL_len (fs vs : List Int) (p h : Nat) : (sumL fs vs p h).length = h := by simp [sumL]
theorem actL_len (ss : List Int) : (actL ss).length = ss.length := by simp [actL]
theorem sumL_at {fs vs : List Int} {p h k : Nat} (hk : k < h) : (sumL fs vs p h).getD k 0 = uS (unW fs p k) vs p := by
  rw [List.getD_eq_getElem?_getD, sumL, List.getElem?_map, List.getElem?_range hk]; rfl
theorem actL_at {ss : List Int} {k : Nat} (hk : k < ss.length) : (actL ss).getD k 0 = act (ss.getD k 0) := by
  rw [List.getD_eq_getElem?_getD, actL, List.getElem?_map, List.getElem?_eq_getElem hk, List.getD_eq_getElem?_getD, List.getElem?_eq_getElem hk]; rfl
theorem sumL_succ (fs vs : List Int) (p k : Nat) : sumL fs vs p (k + 1) = sumL fs vs p k ++ [uS (unW fs p k) vs p] := by simp [sumL, List.range_succ]
theorem actL_snoc (ss : List Int) (x : Int) : actL (ss ++ [x]) = actL ss ++ [act x] := by simp [actL]

theorem own_capb {w : World} {base size g cap n : Nat} {e : TypeId} {vs : List Value} (h : Own w base e size g cap n vs) : cap ≤ 9223372036854775807 := by
  obtain ⟨h0, ⟨h1, h2⟩ | ⟨g', cap', cur, h1, h2, h3, h4, h5, _⟩⟩ := h
  · cases h1
  · injection h1 with e1 e2 e3
    subst e3
    unfold maxLen at h5
    omega
theorem ret_len {a : Option Addr} {n n' c : Nat} (h : n' = n) : Ending.returned (.slice a n c) = Ending.returned (.slice a n' c) := by rw [h]
def UnitPost (ab ao p k : Nat) (w : World) (e : Ending) (w' : World) : Prop := ∃ c', p + 1 ≤ c' ∧ e = .returned (.slice (some ⟨ab, ao + k * (p + 1), none⟩) (p + 1) c') ∧ Below w.heap.size w w'
theorem l23Unit_any (p h : Nat) (ab ao n c : Nat) (b : Option Addr) (m d : Nat) (k : Nat) (w : World) (hnc : n ≤ c) (hc : c ≤ 9223372036854775807) (hn : n = h * (p + 1)) (hp : p ≤ 32) (hh : h ≤ 12) (hk : k < h) :
    Calls Try.prog 58 #[netV p h (some ⟨ab, ao, none⟩) n c b m d, .int .i64 k] w fun e w' => UnitPost ab ao p k w e w' := by
  have HB0 := (Below.refl w.heap.size w).alloc (Nat.le_refl _) (.cells #[.int .i64 p, .int .i64 h, .slice (some ⟨ab, ao, none⟩) n c, .slice b m d] 27)
  obtain ⟨lo, hlo⟩ : ∃ lo, k * (p + 1) = lo := ⟨_, rfl⟩
  have e1 : (k : Int) * ((p : Int) + 1) = (lo : Int) := by rw [← hlo]; push_cast; rfl
  have e2 : ((k : Int) + 1) * ((p : Int) + 1) = ((lo + (p + 1) : Nat) : Int) := by rw [Int.add_mul, e1]; push_cast; omega
  have l1 : (k + 1) * (p + 1) ≤ h * (p + 1) := Nat.mul_le_mul hk (Nat.le_refl _)
  have l2 : lo + (p + 1) ≤ n := by rw [hn, ← hlo]; rw [Nat.add_mul] at l1; omega
  have l3 : k * (p + 1) ≤ 12 * 33 := Nat.mul_le_mul (by omega) (by omega)
  rw [hlo] at l3
  have HLO := Lib.hid hlo
  push_cast at e2
  clear l1 hn hlo
  go_enter Try.func58, Try.ntmps58
  go_wp2
  go_ret
  refine ⟨c - lo, by omega, ?_, HB0⟩
  rw [HLO.out]
  exact ret_len (by omega)
theorem unitWeights_any (p h : Nat) (ab ao n c : Nat) (b : Option Addr) (m d : Nat) (k : Nat) (w : World) (hnc : n ≤ c) (hc : c ≤ 9223372036854775807) (hn : n = h * (p + 1)) (hp : p ≤ 32) (hh : h ≤ 12) (hk : k < h) :
    Calls Try.prog 59 #[netV p h (some ⟨ab, ao, none⟩) n c b m d, .int .i64 k] w fun e w' => UnitPost ab ao p k w e w' := by
  have HB0 := (Below.refl w.heap.size w).alloc (Nat.le_refl _) (.cells #[.int .i64 p, .int .i64 h, .slice (some ⟨ab, ao, none⟩) n c, .slice b m d] 27)
  obtain ⟨lo, hlo⟩ : ∃ lo, k * (p + 1) = lo := ⟨_, rfl⟩
  have e1 : (k : Int) * ((p : Int) + 1) = (lo : Int) := by rw [← hlo]; push_cast; rfl
  have e2 : ((k : Int) + 1) * ((p : Int) + 1) = ((lo + (p + 1) : Nat) : Int) := by rw [Int.add_mul, e1]; push_cast; omega
  have l1 : (k + 1) * (p + 1) ≤ h * (p + 1) := Nat.mul_le_mul hk (Nat.le_refl _)
  have l2 : lo + (p + 1) ≤ n := by rw [hn, ← hlo]; rw [Nat.add_mul] at l1; omega
  have l3 : k * (p + 1) ≤ 12 * 33 := Nat.mul_le_mul (by omega) (by omega)
  rw [hlo] at l3
  have HLO := Lib.hid hlo
  push_cast at e2
  clear l1 hn hlo
  go_enter Try.func59, Try.ntmps59
  go_wp2
  go_ret
  refine ⟨c - lo, by omega, ?_, HB0⟩
  rw [HLO.out]
  exact ret_len (by omega)

/-- a row of integers that a call has made -/
def RowPost (n : Nat) (zs : List Int) (w : World) (e : Ending) (w' : World) : Prop :=
  ∃ g c, n ≤ c ∧ c ≤ 9223372036854775807 ∧ e = .returned (.slice (some ⟨g, 0, none⟩) n c) ∧ RowN w' w.heap.size w'.heap.size 2 (some ⟨g, 0, none⟩) n (icell .i64 zs) ∧ Below w.heap.size w w'

set_option maxHeartbeats 1600000 in
theorem hiddenSums_any (p h : Nat) (ab ao n c : Nat) (xs : List Int) (b : Option Addr) (m d : Nat) (q : Option Addr) (r : Nat) (vs : List Int) (B : Nat) (w : World) (h1 : Ints w B .i64 (some ⟨ab, ao, none⟩) n xs) (h3 : Ints w B .i64 q p vs) (hB : B ≤ w.heap.size) (hnc : n ≤ c) (hc : c ≤ 9223372036854775807) (hn : n = h * (p + 1)) (hp : 1 ≤ p) (hp2 : p ≤ 32) (hh : 1 ≤ h) (hh2 : h ≤ 12) (hx : wgt xs n = true) (hv : inP vs p = true) :
    Calls Try.prog 49 #[netV p h (some ⟨ab, ao, none⟩) n c b m d, .slice q p r] w fun e w' => RowPost h (sumL xs vs p h) w e w' := by
  have HB0 := (Below.refl w.heap.size w).alloc (Nat.le_refl _) (.cells #[.int .i64 p, .int .i64 h, .slice (some ⟨ab, ao, none⟩) n c, .slice b m d] 27)
  have R0 := Lib.hid ((four_new w (.int .i64 p) (.int .i64 h) (.slice (some ⟨ab, ao, none⟩) n c) (.slice b m d) 27).alloc (.cells (madeCells #[.int .i64 0] h) 2))
  have R1 := Lib.hid (World.rowIs_made (w.alloc (.cells #[.int .i64 p, .int .i64 h, .slice (some ⟨ab, ao, none⟩) n c, .slice b m d] 27)) (.int .i64 0) h 2)
  have HB1 := Lib.hid (HB0.alloc HB0.size (.cells (madeCells #[.int .i64 0] h) 2))
  have hmk := make_i64 h (by omega)
  have HN := Lib.hid hn
  have H1 := Lib.hid h1
  have H3 := Lib.hid h3
  have HX := Lib.hid (fun k (hk : k < n) => wgt_at hx hk)
  have HV := Lib.hid (fun k (hk : k < p) => inP_at hv hk)
  clear hn h1 h3 hx hv HB0
  go_enter Try.func49, Try.ntmps49
  go_wp2_with fail
  clear hmk
  go_loopw [12] (fun ix wr => ∃ k : Nat, k ≤ h ∧ ix = .int .i64 k ∧ (∃ f, wr.rowIs (w.heap.size + 1) 2 h f ∧ ∀ j, j < k → f j = icell .i64 (sumL xs vs p h) j) ∧ wr.rowIs w.heap.size 27 4 (four (.int .i64 p) (.int .i64 h) (.slice (some ⟨ab, ao, none⟩) n c) (.slice b m d)) ∧ Below w.heap.size w wr) (fun ix _ => h - (intOf ix).toNat)
  case atStart =>
    have := R1.out
    simp only [World.size_alloc] at this
    exact ⟨0, Nat.zero_le _, rfl, ⟨_, this, fun j hj => absurd hj (by omega)⟩, R0.out, HB1.out⟩
  case round =>
    obtain ⟨k, hk, rfl, ⟨f, hrow, hf⟩, hq, hbel⟩ := hrel
    by_cases hlt : k < h
    · obtain ⟨c0, c1, c2, c3⟩ := four_cells hq
      have F := Lib.hid hf
      have Q := Lib.hid hq
      have R := Lib.hid hrow
      have BL := Lib.hid hbel
      have e1 : w.heap.size + 1 < wr.heap.size := hrow.lt
      clear hf hq hrow hbel
      go_wp2_with fail
      refine (unitWeights_any p h ab ao n c b m d k _ hnc hc HN.out hp2 hh2 hlt).mono ?_
      rintro e w2 ⟨c', hc', rfl, hb2⟩
      have hlo : k * (p + 1) + (p + 1) ≤ n := by
        have l1 : (k + 1) * (p + 1) ≤ h * (p + 1) := Nat.mul_le_mul hlt (Nat.le_refl _)
        rw [Nat.add_mul] at l1
        rw [HN.out]; omega
      have I1 : Ints w2 B .i64 (some ⟨ab, ao + k * (p + 1), none⟩) (p + 1) (unW xs p k) := ((H1.out.below (BL.out.mono hB)).below (hb2.mono (Nat.le_trans hB BL.out.size))).part hlo
      have I2 : Ints w2 B .i64 q p vs := (H3.out.below (BL.out.mono hB)).below (hb2.mono (Nat.le_trans hB BL.out.size))
      have hrow2 := rowIs_below R.out hb2 R.out.lt
      have hq2 := rowIs_below Q.out hb2 Q.out.lt
      have hbel2 := BL.out.trans (hb2.mono BL.out.size)
      have hW : ∀ j, j < p + 1 → -1048576 ≤ (unW xs p k).getD j 0 ∧ (unW xs p k).getD j 0 ≤ 1048576 := fun j hj => by rw [unW, part_getD hj]; exact HX.out _ (by omega)
      have WW := Lib.hid hW
      have II := Lib.hid (And.intro I1 I2)
      have QQ := Lib.hid hq2
      have RR := Lib.hid hrow2
      have BB := Lib.hid hbel2
      have hcx := hrow2.cell hlt
      have hfx := hrow2.frozen k
      have S := Lib.hid (sumL_at (fs := xs) (vs := vs) (p := p) hlt)
      clear hW I1 I2 hq2 hrow2 hbel2 hb2
      go_wp2_with fail
      refine (unitSum_any _ _ _ _ _ _ _ _ _ _ _ II.out.1 II.out.2 (by omega) (by omega) hp WW.out HV.out).mono ?_
      rintro e w3 ⟨rfl, rfl⟩
      go_wp2_with fail
      go_roundw
      case rel =>
        refine ⟨k + 1, by omega, by go_num, ⟨_, RR.out.set k _, fun j hj => ?_⟩, QQ.out.setOther (a := ⟨w.heap.size + 1, k, none⟩) (by simp) _, BB.out.setCell (by simp) _⟩
        by_cases e : j = k
        · subst e
          rw [if_pos rfl, icell, S.out]
        · simp only [if_neg e]; exact F.out j (by omega)
      case measure => simp [intOf]; omega
    · obtain rfl : k = h := by omega
      go_wp2
      go_ret
      exact ⟨_, _, Nat.le_refl _, by omega, rfl, .of_row (hrow.congr hf) (by omega) hrow.lt, hbel⟩

set_option maxHeartbeats 800000 in
theorem activations_any (a : Option Addr) (n c B : Nat) (ss : List Int) (w : World) (h1 : Ints w B .i64 a n ss) (hB : B ≤ w.heap.size) (hn : 1 ≤ n) (hn2 : n ≤ 1048576) :
    Calls Try.prog 48 #[.slice a n c] w fun e w' => RowPost n (actL ss) w e w' := by
  have hmk := make_i64 n hn2
  have HL := Lib.hid h1.len
  obtain ⟨ab, ao, rfl, hab, hca⟩ := h1.2 (by omega)
  have HC := Lib.hid hca
  have hab2 : ab < w.heap.size := by omega
  clear hca h1
  go_enter Try.func48, Try.ntmps48
  go_wp2_with fail
  clear hmk
  go_loopw [11] (fun ix wr => ∃ k : Nat, k ≤ n ∧ ix = .int .i64 k ∧ (∃ f, wr.rowIs w.heap.size 2 n f ∧ ∀ j, j < k → f j = icell .i64 (actL ss) j) ∧ Below w.heap.size w wr) (fun ix _ => n - (intOf ix).toNat)
  case atStart => exact ⟨0, Nat.zero_le _, rfl, ⟨_, World.rowIs_made w _ n _, fun j hj => absurd hj (by omega)⟩, (Below.refl _ _).alloc (Nat.le_refl _) _⟩
  case round =>
    obtain ⟨k, hk, rfl, ⟨f, hrow, hf⟩, hbel⟩ := hrel
    by_cases hlt : k < n
    · have hcx := (hbel.cell (p := ⟨ab, ao + k, none⟩) hab2).trans (HC.out k hlt)
      have hcy := hrow.cell hlt
      have hfz := hrow.frozen k
      have F := Lib.hid hf
      have R := Lib.hid hrow
      have BL := Lib.hid hbel
      have S := Lib.hid (actL_at (ss := ss) (k := k) (by rw [HL.out]; exact hlt))
      obtain ⟨x, hx⟩ : ∃ x, ss.getD k 0 = x := ⟨_, rfl⟩
      rw [hx] at S hcx
      clear hf hrow hbel hx
      go_wp2_with (go_at_call 56; refine (impl_Activation_any _ _).mono ?_; rintro e w' ⟨rfl, rfl⟩)
      go_roundw
      case rel =>
        refine ⟨k + 1, by omega, by go_num, ⟨_, R.out.set k _, fun j hj => ?_⟩, BL.out.setCell (Nat.le_refl _) _⟩
        by_cases e : j = k
        · subst e
          rw [if_pos rfl, icell, S.out]
        · simp only [if_neg e]; exact F.out j (by omega)
      case measure => simp [intOf]; omega
    · obtain rfl : k = n := by omega
      go_wp2
      go_ret
      exact ⟨_, _, Nat.le_refl _, by omega, rfl, .of_row (hrow.congr hf) (Nat.le_refl _) hrow.lt, hbel⟩

set_option maxHeartbeats 1600000 in
theorem l23Hidden_any (p h : Nat) (ab ao n c : Nat) (xs : List Int) (b : Option Addr) (m d : Nat) (q : Option Addr) (r : Nat) (vs : List Int) (B : Nat) (w : World) (h1 : Ints w B .i64 (some ⟨ab, ao, none⟩) n xs) (h3 : Ints w B .i64 q p vs) (hB : B ≤ w.heap.size) (hnc : n ≤ c) (hc : c ≤ 9223372036854775807) (hn : n = h * (p + 1)) (hp : 1 ≤ p) (hp2 : p ≤ 32) (hh : 1 ≤ h) (hh2 : h ≤ 12) (hx : wgt xs n = true) (hv : inP vs p = true) :
    Calls Try.prog 47 #[netV p h (some ⟨ab, ao, none⟩) n c b m d, .slice q p r] w fun e w' => RowPost h (actL (sumL xs vs p h)) w e w' := by
  have HB0 := (Below.refl w.heap.size w).alloc (Nat.le_refl _) (.cells #[.int .i64 p, .int .i64 h, .slice (some ⟨ab, ao, none⟩) n c, .slice b m d] 27)
  have R0 := Lib.hid ((four_new w (.int .i64 p) (.int .i64 h) (.slice (some ⟨ab, ao, none⟩) n c) (.slice b m d) 27).alloc (.cells #[] 2))
  have HB1 := Lib.hid (HB0.alloc HB0.size (.cells #[] 2))
  have Hnew := Lib.hid (Own.new (w.alloc (.cells #[.int .i64 p, .int .i64 h, .slice (some ⟨ab, ao, none⟩) n c, .slice b m d] 27)) (w.heap.size + 1) 2 1 #[] 0 (by simp) (by unfold maxLen; omega) rfl)
  have Hk1 := Lib.hid (fun (W : World) (x : Int) => show (W.alloc (.cells #[.int .i64 x] 2)).cell? ⟨W.heap.size, 0, none⟩ = some (.int .i64 x) by have h := new_cell W #[.int .i64 x] 2 0; exact h)
  have HN := Lib.hid hn
  have H1 := Lib.hid h1
  have H3 := Lib.hid h3
  have HX := Lib.hid (fun k (hk : k < n) => wgt_at hx hk)
  have HV := Lib.hid (fun k (hk : k < p) => inP_at hv hk)
  clear hn h1 h3 hx hv HB0
  go_enter Try.func47, Try.ntmps47
  go_wp2_with fail
  go_loopw [5, 6] (fun o ix wr => ∃ k : Nat, k ≤ h ∧ ix = .int .i64 k ∧ (∃ g cp, o = .slice (some ⟨g, 0, none⟩) k cp ∧ Own wr (w.heap.size + 1) 2 1 g cp k ((actL (sumL xs vs p k)).map (.int .i64))) ∧ wr.rowIs w.heap.size 27 4 (four (.int .i64 p) (.int .i64 h) (.slice (some ⟨ab, ao, none⟩) n c) (.slice b m d)) ∧ Below w.heap.size w wr) (fun _ ix _ => h - (intOf ix).toNat)
  case atStart =>
    have := Hnew.out
    simp only [World.size_alloc] at this
    exact ⟨0, Nat.zero_le _, rfl, ⟨_, _, rfl, this⟩, R0.out, HB1.out⟩
  case round =>
    obtain ⟨k, hk, rfl, ⟨g, cp, rfl, hown⟩, hq, hbel⟩ := hrel
    obtain ⟨c0, c1, c2, c3⟩ := four_cells hq
    by_cases hlt : k < h
    · have O := Lib.hid hown
      have Q := Lib.hid hq
      have BL := Lib.hid hbel
      have e1 : w.heap.size < wr.heap.size := hq.lt
      clear hown hq hbel
      go_wp2_with fail
      refine (l23Unit_any p h ab ao n c b m d k _ hnc hc HN.out hp2 hh2 hlt).mono ?_
      rintro e w2 ⟨c', hc', rfl, hb2⟩
      have hlo : k * (p + 1) + (p + 1) ≤ n := by
        have l1 : (k + 1) * (p + 1) ≤ h * (p + 1) := Nat.mul_le_mul hlt (Nat.le_refl _)
        rw [Nat.add_mul] at l1
        rw [HN.out]; omega
      have I1 : Ints w2 B .i64 (some ⟨ab, ao + k * (p + 1), none⟩) (p + 1) (unW xs p k) := ((H1.out.below (BL.out.mono hB)).below (hb2.mono (Nat.le_trans hB BL.out.size))).part hlo
      have I2 : Ints w2 B .i64 q p vs := (H3.out.below (BL.out.mono hB)).below (hb2.mono (Nat.le_trans hB BL.out.size))
      have O2 := Lib.hid (O.out.below hb2)
      have Q2 := Lib.hid (rowIs_below Q.out hb2 Q.out.lt)
      have B2 := Lib.hid (BL.out.trans (hb2.mono BL.out.size))
      have hW : ∀ j, j < p + 1 → -1048576 ≤ (unW xs p k).getD j 0 ∧ (unW xs p k).getD j 0 ≤ 1048576 := fun j hj => by rw [unW, part_getD hj]; exact HX.out _ (by omega)
      have WW := Lib.hid hW
      have II := Lib.hid (And.intro I1 I2)
      clear hW I1 I2 hb2 c0 c1 c2 c3
      go_wp2_with fail
      refine (l23Sum_any _ _ _ _ _ _ _ _ _ _ _ II.out.1 II.out.2 (by omega) (by omega) hp WW.out HV.out).mono ?_
      rintro e w3 ⟨rfl, hb3⟩
      have O3 := Lib.hid (O2.out.below hb3)
      have Q3 := Lib.hid (rowIs_below Q2.out hb3 Q2.out.lt)
      have B3 := Lib.hid (B2.out.trans (hb3.mono B2.out.size))
      have S := Lib.hid (show actL (sumL xs vs p (k + 1)) = actL (sumL xs vs p k) ++ [act (uS (unW xs p k) vs p)] by rw [sumL_succ, actL_snoc])
      obtain ⟨u, hu⟩ : ∃ u, uS (unW xs p k) vs p = u := ⟨_, rfl⟩
      rw [hu] at S ⊢
      have z3 : w.heap.size < w3.heap.size := Q3.out.lt
      clear hu hb3
      go_wp2_with fail
      refine (spec_Activation_any _ _).mono ?_
      rintro e w' ⟨rfl, rfl⟩
      obtain ⟨x, hx⟩ : ∃ x, act u = x := ⟨_, rfl⟩
      rw [hx] at S ⊢
      clear hx
      go_wp2_with (at_builtin; refine app_own rfl (.tmp 14) (.tmp 21) 22 rfl (w.heap.size + 1) 2 (.int .i64 0) 1 8 Try.underlying22 info_int rfl (by omega) (by omega) g cp k _ rfl (O3.out.alloc _) ⟨w3.heap.size, 0, none⟩ 1 1 [.int .i64 x] rfl rfl (one_news (Hk1.out w3 x)) one_cells (by omega) (by simp; omega) ?_; intro g1 p1 w4 ho4 hg4; have B4 := (B3.out.alloc B3.out.size _).grown hg4 (by simp; omega) (fun k e => by injection e with e; have := O3.out.ge; omega); have Q4 := (Q3.out.alloc (.cells #[.int .i64 x] 2)).of_block (hg4.block w.heap.size (by simp; omega) (by have := O3.out.ge; simp; omega)); clear hg4)
      go_roundw
      case rel =>
        refine ⟨k + 1, by omega, by go_num, ⟨g1, p1, rfl, ?_⟩, Q4, B4⟩
        rw [S.out, List.map_append]
        exact ho4
      case measure => simp [intOf]; omega
    · obtain rfl : k = h := by omega
      go_wp2
      go_ret
      exact ⟨g, cp, hown.room, own_capb hown, rfl, (hown.lower (Nat.le_succ _)).rowI, hbel⟩
end Go.Proofs.Ytcpbaigghhjceaa
