/-
  boardKey of the program (a text that tells boards apart), l05Same of the reference.
-/
import Derived.Test.YtjfmpnkbocilpaaHwL
import Derived.Laws.BytesArg
import Derived.Deep.QuietTactic
import Derived.BigQuiet
namespace Go.Proofs.Ytjfmpnkbocilpaa
open Go.ChangeShapes Go.WideShapes Go.ChangeAt Go.RowKit
set_option linter.unusedVariables false

def kyS (xs ys : List Int) : ByteArray := strOfNums (xs ++ ys)
theorem byte_inj {x y : Int} (h1 : 0 ≤ x) (h2 : x ≤ 15) (h3 : 0 ≤ y) (h4 : y ≤ 15) (h : UInt8.ofNat x.toNat = UInt8.ofNat y.toNat) : x = y := by
  have e := congrArg UInt8.toNat h
  rw [UInt8.toNat_ofNat', UInt8.toNat_ofNat', Nat.mod_eq_of_lt (by omega), Nat.mod_eq_of_lt (by omega)] at e
  omega
theorem nums_inj : ∀ (l l' : List Int), (∀ x ∈ l, 0 ≤ x ∧ x ≤ 15) → (∀ x ∈ l', 0 ≤ x ∧ x ≤ 15) → (l.map fun n => UInt8.ofNat n.toNat) = (l'.map fun n => UInt8.ofNat n.toNat) → l = l'
  | [], [], _, _, _ => rfl
  | [], y :: l', _, _, h => by cases h
  | x :: l, [], _, _, h => by cases h
  | x :: l, y :: l', h1, h2, h => by
    simp only [List.map_cons, List.cons.injEq] at h
    have a := h1 x List.mem_cons_self
    have b := h2 y List.mem_cons_self
    rw [byte_inj a.1 a.2 b.1 b.2 h.1, nums_inj l l' (fun z hz => h1 z (List.mem_cons_of_mem _ hz)) (fun z hz => h2 z (List.mem_cons_of_mem _ hz)) h.2]
theorem kyS_inj {xs ys xs' ys' : List Int} (hl : xs.length = xs'.length) (h1 : ∀ x ∈ xs, 0 ≤ x ∧ x ≤ 15) (h2 : ∀ x ∈ ys, 0 ≤ x ∧ x ≤ 15) (h3 : ∀ x ∈ xs', 0 ≤ x ∧ x ≤ 15) (h4 : ∀ x ∈ ys', 0 ≤ x ∧ x ≤ 15) (h : kyS xs ys = kyS xs' ys') : xs = xs' ∧ ys = ys' := by
  have e : (xs ++ ys) = (xs' ++ ys') := by
    refine nums_inj _ _ (fun x hx => (List.mem_append.1 hx).elim (h1 x) (h2 x)) (fun x hx => (List.mem_append.1 hx).elim (h3 x) (h4 x)) ?_
    rw [← strOfNums_data, ← strOfNums_data]
    exact congrArg (fun s : ByteArray => s.data.toList) h
  exact List.append_inj e hl
theorem kyS_size (xs ys : List Int) : (kyS xs ys).size = xs.length + ys.length := by rw [kyS, strOfNums_size, List.length_append]
theorem sv_mem {P c : Int} {xs : List Int} (h : SV P c xs) (hc : c ≤ 15) : ∀ x ∈ xs, 0 ≤ x ∧ x ≤ 15 := by
  intro x hx
  obtain ⟨i, hi, rfl⟩ := List.mem_iff_getElem.1 hx
  have h1 := h.pos i hi
  have h2 := h.le hi
  rw [List.getD_eq_getElem?_getD, List.getElem?_eq_getElem hi] at h1 h2
  simp at h1 h2
  omega
theorem sv_bd {P c : Int} {xs : List Int} (h : SV P c xs) (hc : c ≤ 15) {n : Nat} (hn : xs.length = n) : ∀ i, i < n → 0 ≤ xs.getD i 0 ∧ xs.getD i 0 ≤ 15 := fun i hi => ⟨h.pos i (by omega), by have := h.le (i := i) (by omega); omega⟩
theorem info_b8 : (Try.prog.info? 5).map (fun i => (i.zero, i.size, i.bytes)) = some (some (.int .u8 0), 1, 1) := by kernel_rfl
theorem make_key (n : Nat) (hn : n ≤ 1048576) (x : Int) (hx : x = n) (W : World) : (Instr.makeSlice 36 (.int .i64 0) (.int .i64 x)).run Try.prog W = .ok (.slice (some ⟨W.heap.size, 0, none⟩) 0 n) (W.alloc (.cells (madeCells #[.int .u8 0] n) 5)) := by
  obtain ⟨i, hi, hz, hs, hb⟩ := info_parts info_b8
  have hr := run_make (P := Try.prog) W 36 5 i (.int .u8 0) Try.underlying36 hi hz .i64 .i64 0 x (Int.le_refl _) (by omega) (by rw [hb]; omega) (by omega)
  rw [hs, hx] at hr
  rw [hx]
  simpa [Value.cells] using hr
def KyO (w : World) (base : Nat) (v : Value) (l : List Int) : Prop := w.ownsRow base 5 1 v l.length (l.map (.int .u8))
theorem app_ky {ops : Array Oper} {rest : List Oper} {o : Oper} {a : Act} {Q : Exit → Act → World → Prop} {w : World} {base : Nat} {v : Value} {l : List Int} (hgd : o.guard = none) (s y : Operand)
    (ho : o.op = .call { callee := .builtin .append, args := #[s, y], argTypes := #[36, 36] })
    (hs : a.eval s = v) (hown : KyO w base v l) (b : Nat) (hy : a.eval y = .slice (some ⟨b, 0, none⟩) 1 1) (x : Int) (c0 : w.cell? ⟨b, 0, none⟩ = some (.int .u8 x)) (hn : l.length ≤ 8000000) (hbase : base ≤ w.heap.size)
    (h : ∀ v' w', KyO w' base v' (l ++ [x]) → w.grownBy w' v.ownBlock → wpList Try.prog ops Q rest (a.put o.dst v') w') : wpList Try.prog ops Q (o :: rest) a w := by
  refine app_row hgd s y 36 5 _ 1 1 ho Try.underlying36 info_b8 rfl (by omega) (by omega) hs hown ⟨b, 0, none⟩ 1 1 [.int .u8 x] hy rfl (one_news c0) one_cells (by omega) hbase ?_
  intro v' w' hv' hg'
  refine h v' w' ?_ hg'
  unfold KyO
  rw [List.map_append, List.length_append]
  exact hv'
theorem take_snoc {xs : List Int} {k : Nat} (hk : k < xs.length) : xs.take (k + 1) = xs.take k ++ [xs.getD k 0] := by
  rw [List.take_succ_eq_append_getElem hk, List.getD_eq_getElem?_getD, List.getElem?_eq_getElem hk]; rfl
set_option maxRecDepth 16000 in
set_option maxHeartbeats 3200000 in
theorem boardKey_any (a : Option Addr) (n ca : Nat) (xs : List Int) (b : Option Addr) (m cb : Nat) (ys : List Int) (B : Nat) (w : World) (h1 : Ints w B .i64 a n xs) (h2 : Ints w B .i64 b m ys) (hB : B ≤ w.heap.size) (hn0 : 0 < n) (hm0 : 0 < m) (hn25 : n ≤ 25) (hm25 : m ≤ 25) (hX : ∀ i, i < n → 0 ≤ xs.getD i 0 ∧ xs.getD i 0 ≤ 15) (hY : ∀ i, i < m → 0 ≤ ys.getD i 0 ∧ ys.getD i 0 ≤ 15) :
    Calls Try.prog 46 #[bdV a n ca b m cb] w fun e w' => e = .returned (.string (kyS xs ys)) ∧ Below w.heap.size w w' := by
  obtain ⟨ga, oa, rfl, hga, hca⟩ := h1.2 hn0
  obtain ⟨gb, ob, rfl, hgb, hcb⟩ := h2.2 hm0
  have HB0 := Lib.hid ((Below.refl w.heap.size w).alloc (Nat.le_refl _) (.cells #[.slice (some ⟨ga, oa, none⟩) n ca, .slice (some ⟨gb, ob, none⟩) m cb] 32))
  have D0 := Lib.hid (pr_new w (.slice (some ⟨ga, oa, none⟩) n ca) (.slice (some ⟨gb, ob, none⟩) m cb) 32)
  have CA := Lib.hid hca
  have CB := Lib.hid hcb
  have XL := Lib.hid h1.len
  have YL := Lib.hid h2.len
  have XB := Lib.hid hX
  have YB := Lib.hid hY
  have wm : IntKind.i64.wrap ((n : Int) + m) = (n : Int) + m := IntWalk.i64_in _ (by omega)
  have hmk := fun W => make_key (n + m) (by omega) ((n : Int) + m) (by omega) W
  have O0 := Lib.hid (show KyO ((w.alloc (.cells #[.slice (some ⟨ga, oa, none⟩) n ca, .slice (some ⟨gb, ob, none⟩) m cb] 32)).alloc (.cells (madeCells #[.int .u8 0] (n + m)) 5)) (w.heap.size + 1) (.slice (some ⟨w.heap.size + 1, 0, none⟩) 0 (n + m)) [] from by
    have e := World.ownsRow_made (w.alloc (.cells #[.slice (some ⟨ga, oa, none⟩) n ca, .slice (some ⟨gb, ob, none⟩) m cb] 32)) (madeCells #[.int .u8 0] (n + m)) (n + m) (base := w.heap.size + 1) (e := 5) (size := 1) (by simp) (by unfold maxLen; omega) (by simp [madeCells])
    rw [World.size_alloc] at e
    exact e)
  clear h1 h2 hca hcb hX hY
  go_enter Try.func46, Try.ntmps46
  go_wp2_with fail
  go_loopw [3, 19] (fun ky i wr => ∃ (k : Nat) (kv : Value), kv = ky ∧ k ≤ n ∧ i = .int .i64 k ∧ Hid (KyO wr (w.heap.size + 1) kv (xs.take k)) ∧ Hid (wr.rowIs w.heap.size 32 2 (pr (.slice (some ⟨ga, oa, none⟩) n ca) (.slice (some ⟨gb, ob, none⟩) m cb))) ∧ Hid (Below w.heap.size w wr) ∧ w.heap.size + 1 ≤ wr.heap.size) (fun _ i _ => n - (intOf i).toNat)
  case atStart => exact ⟨0, _, rfl, Nat.zero_le _, rfl, O0, Lib.hid (D0.out.alloc _), Lib.hid (HB0.out.alloc HB0.out.size _), by simp⟩
  case round =>
    obtain ⟨k, kv, rfl, hk, rfl, HK, HD, HB, hz⟩ := hrel
    by_cases hlt : k < n
    · have cx := (HB.out.cell (p := ⟨ga, oa + k, none⟩) (by show ga < _; omega)).trans (CA.out k hlt)
      have bx := XB.out k hlt
      have TS := Lib.hid (take_snoc (xs := xs) (k := k) (by have := XL.out; omega))
      have TL : (xs.take k).length ≤ 100 := by rw [List.length_take]; omega
      obtain ⟨x, hx⟩ : ∃ x, xs.getD k 0 = x := ⟨_, rfl⟩
      rw [hx] at cx bx TS
      clear hx
      have w8 : IntKind.u8.wrap x = x := by rw [IntKind.wrap_u8]; omega
      have c0 := new_cell wr #[.int .u8 x] 5 0
      go_wp2_with (first | (at_builtin; refine app_ky rfl (.tmp 23) (.tmp 26) rfl rfl (ow_alloc HK.out _) wr.heap.size rfl x c0 (by omega) (by simp; omega) ?_; intro v5 w5 hg5 hr5))
      have R5 := fun b e => (ow_in HK.out b e).1
      have hb5 : Below (w.heap.size + 1) (wr.alloc (.cells #[.int .u8 x] 5)) w5 := grown_below' (Below.refl _ _) hr5 R5 (by simp; omega)
      have z5 := hb5.size
      simp only [World.size_alloc] at z5
      go_roundw
      case rel => exact ⟨k + 1, _, rfl, by omega, by go_num, Lib.hid (by rw [TS.out]; exact hg5), Lib.hid (rowIs_below (HD.out.alloc _) hb5 (by omega)), Lib.hid ((HB.out.alloc HB.out.size _).trans (hb5.mono (by omega))), by omega⟩
      case measure => (simp [intOf]; try omega)
    · obtain rfl : k = n := by omega
      have HK2 := Lib.hid (show KyO wr (w.heap.size + 1) kv (xs ++ ys.take 0) by
        have := HK.out
        rw [List.take_of_length_le (by have := XL.out; omega)] at this
        rw [List.take_zero, List.append_nil]; exact this)
      obtain ⟨q4, q5⟩ := pr_cells HD.out
      clear hlt HK
      obtain ⟨wo, hwo⟩ : ∃ wo, wo = wr := ⟨_, rfl⟩
      subst hwo
      go_wp2_with fail
      go_loopw [3, 32] (fun ky i wr => ∃ (j : Nat) (kv : Value), kv = ky ∧ j ≤ m ∧ i = .int .i64 j ∧ Hid (KyO wr (w.heap.size + 1) kv (xs ++ ys.take j)) ∧ Hid (Below w.heap.size w wr) ∧ w.heap.size + 1 ≤ wr.heap.size) (fun _ i _ => m - (intOf i).toNat)
      case atStart => exact ⟨0, _, rfl, Nat.zero_le _, rfl, HK2, HB, hz⟩
      case round =>
        obtain ⟨j, kv', rfl, hj, rfl, HK3, HB3, hz3⟩ := hrel
        by_cases hlt : j < m
        · have cx := (HB3.out.cell (p := ⟨gb, ob + j, none⟩) (by show gb < _; omega)).trans (CB.out j hlt)
          have bx := YB.out j hlt
          have TS := Lib.hid (take_snoc (xs := ys) (k := j) (by have := YL.out; omega))
          have TL : (xs ++ ys.take j).length ≤ 100 := by have := XL.out; rw [List.length_append, List.length_take]; omega
          obtain ⟨x, hx⟩ : ∃ x, ys.getD j 0 = x := ⟨_, rfl⟩
          rw [hx] at cx bx TS
          clear hx
          have w8 : IntKind.u8.wrap x = x := by rw [IntKind.wrap_u8]; omega
          have c0 := new_cell wr #[.int .u8 x] 5 0
          go_wp2_with (first | (at_builtin; refine app_ky rfl (.tmp 36) (.tmp 39) rfl rfl (ow_alloc HK3.out _) wr.heap.size rfl x c0 (by omega) (by simp; omega) ?_; intro v5 w5 hg5 hr5))
          have R5 := fun b e => (ow_in HK3.out b e).1
          have hb5 : Below (w.heap.size + 1) (wr.alloc (.cells #[.int .u8 x] 5)) w5 := grown_below' (Below.refl _ _) hr5 R5 (by simp; omega)
          have z5 := hb5.size
          simp only [World.size_alloc] at z5
          go_roundw
          case rel => exact ⟨j + 1, _, rfl, by omega, by go_num, Lib.hid (by rw [TS.out, ← List.append_assoc]; exact hg5), Lib.hid ((HB3.out.alloc HB3.out.size _).trans (hb5.mono (by omega))), by omega⟩
          case measure => (simp [intOf]; try omega)
        · obtain rfl : j = m := by omega
          have HK4 := Lib.hid (show KyO wr (w.heap.size + 1) kv' (xs ++ ys) by
            have := HK3.out
            rw [List.take_of_length_le (by have := YL.out; omega)] at this
            exact this)
          obtain ⟨g, c, hv, _, _⟩ := ow_shape HK4.out (by have := XL.out; rw [List.length_append]; omega)
          subst hv
          have HCV := Lib.hid (run_convert_bytes_arg wr 36 5 Try.underlying36 Try.underlying5 g 0 (xs ++ ys).length c (xs ++ ys) rfl (fun i hi => by
            refine (show wr.cell? ((⟨g, 0, none⟩ : Addr).add i) = wr.cell? ⟨g, 0 + i, none⟩ by unfold Addr.add; split <;> simp_all).symm.trans ?_
            refine World.ownsRow.cells HK4.out rfl i _ ?_
            rw [List.getElem?_map, List.getElem?_eq_getElem hi, List.getD_eq_getElem?_getD, List.getElem?_eq_getElem hi]
            rfl) 9 Try.underlying9)
          obtain ⟨LL, hLL⟩ : ∃ LL, (xs ++ ys).length = LL := ⟨_, rfl⟩
          rw [hLL] at HCV ⊢
          have hcv := HCV.out
          obtain ⟨KS, hKS⟩ : ∃ KS, strOfNums (xs ++ ys) = KS := ⟨_, rfl⟩
          rw [hKS] at hcv HCV
          have EK := Lib.hid hKS
          clear hLL hKS
          go_wp2_with fail
          go_ret
          exact ⟨by rw [kyS, EK.out]; rfl, HB3.out⟩
theorem list_ext0 {xs ys : List Int} {n : Nat} (h1 : xs.length = n) (h2 : ys.length = n) (h : ∀ i, i < n → xs.getD i 0 = ys.getD i 0) : xs = ys := by
  refine List.ext_getElem (by omega) fun i hi hi' => ?_
  have := h i (by omega)
  rw [List.getD_eq_getElem?_getD, List.getD_eq_getElem?_getD, List.getElem?_eq_getElem hi, List.getElem?_eq_getElem hi'] at this
  simpa using this
set_option maxRecDepth 16000 in
set_option maxHeartbeats 3200000 in
theorem l05Same_any (a : Option Addr) (n ca : Nat) (xs : List Int) (b : Option Addr) (m cb : Nat) (ys : List Int) (a' : Option Addr) (ca' : Nat) (xs' : List Int) (b' : Option Addr) (cb' : Nat) (ys' : List Int) (B : Nat) (w : World) (h1 : Ints w B .i64 a n xs) (h2 : Ints w B .i64 b m ys) (h3 : Ints w B .i64 a' n xs') (h4 : Ints w B .i64 b' m ys') (hB : B ≤ w.heap.size) (hn0 : 0 < n) (hm0 : 0 < m) (hn25 : n ≤ 25) (hm25 : m ≤ 25) :
    Calls Try.prog 58 #[bdV a n ca b m cb, bdV a' n ca' b' m cb'] w fun e w' => e = .returned (.bool (decide (xs = xs') && decide (ys = ys'))) ∧ Below w.heap.size w w' := by
  obtain ⟨ga, oa, rfl, hga, hca⟩ := h1.2 hn0
  obtain ⟨gb, ob, rfl, hgb, hcb⟩ := h2.2 hm0
  obtain ⟨gc, oc, rfl, hgc, hcc⟩ := h3.2 hn0
  obtain ⟨gd, od, rfl, hgd, hcd⟩ := h4.2 hm0
  have HB0 := Lib.hid (((Below.refl w.heap.size w).alloc (Nat.le_refl _) (.cells #[.slice (some ⟨ga, oa, none⟩) n ca, .slice (some ⟨gb, ob, none⟩) m cb] 32)).alloc (by simp) (.cells #[.slice (some ⟨gc, oc, none⟩) n ca', .slice (some ⟨gd, od, none⟩) m cb'] 32))
  have D0 := Lib.hid ((pr_new w (.slice (some ⟨ga, oa, none⟩) n ca) (.slice (some ⟨gb, ob, none⟩) m cb) 32).alloc (.cells #[.slice (some ⟨gc, oc, none⟩) n ca', .slice (some ⟨gd, od, none⟩) m cb'] 32))
  have e0 := pr_new (w.alloc (.cells #[.slice (some ⟨ga, oa, none⟩) n ca, .slice (some ⟨gb, ob, none⟩) m cb] 32)) (.slice (some ⟨gc, oc, none⟩) n ca') (.slice (some ⟨gd, od, none⟩) m cb') 32
  simp only [World.size_alloc] at e0
  have E0 := Lib.hid e0
  have CA := Lib.hid hca
  have CB := Lib.hid hcb
  have CC := Lib.hid hcc
  have CD := Lib.hid hcd
  have LX := Lib.hid (fun h => list_ext0 h1.len h3.len h)
  have LY := Lib.hid (fun h => list_ext0 h2.len h4.len h)
  clear h1 h2 h3 h4 hca hcb hcc hcd e0
  obtain ⟨q0, q1⟩ := pr_cells D0.out
  obtain ⟨q2, q3⟩ := pr_cells E0.out
  go_enter Try.func58, Try.ntmps58
  go_wp2_with fail
  go_loopw [5] (fun i wr => ∃ (k : Nat), k ≤ n ∧ i = .int .i64 k ∧ Hid (∀ i, i < k → xs.getD i 0 = xs'.getD i 0) ∧ Hid (wr.rowIs w.heap.size 32 2 (pr (.slice (some ⟨ga, oa, none⟩) n ca) (.slice (some ⟨gb, ob, none⟩) m cb))) ∧ Hid (wr.rowIs (w.heap.size + 1) 32 2 (pr (.slice (some ⟨gc, oc, none⟩) n ca') (.slice (some ⟨gd, od, none⟩) m cb'))) ∧ Hid (Below w.heap.size w wr)) (fun i _ => n - (intOf i).toNat)
  case atStart => exact ⟨0, Nat.zero_le _, rfl, Lib.hid (fun i hi => absurd hi (by omega)), D0, E0, HB0⟩
  case round =>
    obtain ⟨k, hk, rfl, HE, HD, HF, HB⟩ := hrel
    clear q0 q1 q2 q3
    obtain ⟨q0, q1⟩ := pr_cells HD.out
    obtain ⟨q2, q3⟩ := pr_cells HF.out
    by_cases hlt : k < n
    · have cx := (HB.out.cell (p := ⟨ga, oa + k, none⟩) (by show ga < _; omega)).trans (CA.out k hlt)
      have cy := (HB.out.cell (p := ⟨gc, oc + k, none⟩) (by show gc < _; omega)).trans (CC.out k hlt)
      obtain ⟨x, hx⟩ : ∃ x, xs.getD k 0 = x := ⟨_, rfl⟩
      obtain ⟨y, hy⟩ : ∃ y, xs'.getD k 0 = y := ⟨_, rfl⟩
      rw [hx] at cx
      rw [hy] at cy
      have EX := Lib.hid hx
      have EY := Lib.hid hy
      clear hx hy
      by_cases hxy : x = y
      · subst hxy
        go_wp2_with fail
        go_quiet (fail)
        go_wp2_with fail
        go_roundw
        case rel =>
          refine ⟨k + 1, by omega, by go_num, Lib.hid (fun i hi => ?_), Lib.hid (rowIs_drewN HD.out _), Lib.hid (rowIs_drewN HF.out _), Lib.hid (below_drewN HB.out _)⟩
          by_cases e : i = k
          · subst e; rw [EX.out, EY.out]
          · exact HE.out i (by omega)
        case measure => (simp [intOf]; try omega)
      · have hne : (x != y) = true := by simpa using hxy
        have hne2 : (x == y) = false := by simpa using hxy
        have hq : (decide (xs = xs') && decide (ys = ys')) = false := by
          have : xs ≠ xs' := fun e => hxy (by rw [← EX.out, ← EY.out, e])
          simp [this]
        have HQ := Lib.hid hq
        clear hq
        go_wp2_with fail
        go_quiet (fail)
        go_wp2_with fail
        go_ret
        exact ⟨by rw [HQ.out]; rfl, below_drewN HB.out _⟩
    · obtain rfl : k = n := by omega
      have HX := Lib.hid (LX.out HE.out)
      clear hlt
      obtain ⟨wo, hwo⟩ : ∃ wo, wo = wr := ⟨_, rfl⟩
      subst hwo
      go_wp2_with fail
      go_loopw [6] (fun i wr => ∃ (j : Nat), j ≤ m ∧ i = .int .i64 j ∧ Hid (∀ i, i < j → ys.getD i 0 = ys'.getD i 0) ∧ Hid (wr.rowIs w.heap.size 32 2 (pr (.slice (some ⟨ga, oa, none⟩) k ca) (.slice (some ⟨gb, ob, none⟩) m cb))) ∧ Hid (wr.rowIs (w.heap.size + 1) 32 2 (pr (.slice (some ⟨gc, oc, none⟩) k ca') (.slice (some ⟨gd, od, none⟩) m cb'))) ∧ Hid (Below w.heap.size w wr)) (fun i _ => m - (intOf i).toNat)
      case atStart => exact ⟨0, Nat.zero_le _, rfl, Lib.hid (fun i hi => absurd hi (by omega)), HD, HF, HB⟩
      case round =>
        obtain ⟨j, hj, rfl, HE2, HD2, HF2, HB2⟩ := hrel
        clear q0 q1 q2 q3
        obtain ⟨q0, q1⟩ := pr_cells HD2.out
        obtain ⟨q2, q3⟩ := pr_cells HF2.out
        by_cases hlt : j < m
        · have cx := (HB2.out.cell (p := ⟨gb, ob + j, none⟩) (by show gb < _; omega)).trans (CB.out j hlt)
          have cy := (HB2.out.cell (p := ⟨gd, od + j, none⟩) (by show gd < _; omega)).trans (CD.out j hlt)
          obtain ⟨x, hx⟩ : ∃ x, ys.getD j 0 = x := ⟨_, rfl⟩
          obtain ⟨y, hy⟩ : ∃ y, ys'.getD j 0 = y := ⟨_, rfl⟩
          rw [hx] at cx
          rw [hy] at cy
          have EX := Lib.hid hx
          have EY := Lib.hid hy
          clear hx hy
          by_cases hxy : x = y
          · subst hxy
            go_wp2_with fail
            go_quiet (fail)
            go_wp2_with fail
            go_roundw
            case rel =>
              refine ⟨j + 1, by omega, by go_num, Lib.hid (fun i hi => ?_), Lib.hid (rowIs_drewN HD2.out _), Lib.hid (rowIs_drewN HF2.out _), Lib.hid (below_drewN HB2.out _)⟩
              by_cases e : i = j
              · subst e; rw [EX.out, EY.out]
              · exact HE2.out i (by omega)
            case measure => (simp [intOf]; try omega)
          · have hne : (x != y) = true := by simpa using hxy
            have hne2 : (x == y) = false := by simpa using hxy
            have hq : (decide (xs = xs') && decide (ys = ys')) = false := by
              have : ys ≠ ys' := fun e => hxy (by rw [← EX.out, ← EY.out, e])
              simp [this]
            have HQ := Lib.hid hq
            clear hq
            go_wp2_with fail
            go_quiet (fail)
            go_wp2_with fail
            go_ret
            exact ⟨by rw [HQ.out]; rfl, below_drewN HB2.out _⟩
        · obtain rfl : j = m := by omega
          have HY := Lib.hid (LY.out HE2.out)
          clear hlt
          go_wp2_with fail
          go_ret
          exact ⟨by rw [HX.out, HY.out]; simp, HB2.out⟩
end Go.Proofs.Ytjfmpnkbocilpaa
