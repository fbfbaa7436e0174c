/-
  Lists of shares that grow; the codes of situations; a game for each of some points.
-/
import Derived.Test.YtkioliioakmepaaMchA
import Derived.Test.YtkioliioakmepaaGrow
import Derived.Test.YtkioliioakmepaaRec
namespace Go.Proofs.Ytkioliioakmepaa
open Go.ChangeShapes Go.WideShapes Go.ChangeAt Go.RowKit
set_option linter.unusedVariables false

/-- v is a slice of n shares with the cells xs, nil or own, from block base on -/
def Gs (w : World) (base : Nat) (v : Value) (n : Nat) (xs : List Int) : Prop := w.ownsRow base 30 2 v n (xs.map (.int .i64))
section
variable {w w' : World} {base n : Nat} {v : Value} {xs : List Int}
theorem Gs.nil (w : World) (base : Nat) : Gs w base (.slice none 0 0) 0 [] := World.ownsRow_nil _ _ _ _
theorem Gs.new (w : World) (base : Nat) (hb : base ≤ w.heap.size) : Gs (w.alloc (.cells #[] 30)) base (.slice (some ⟨w.heap.size, 0, none⟩) 0 0) 0 [] :=
  World.ownsRow_lit w #[] 0 hb (Nat.zero_le _) rfl
theorem Gs.alloc (h : Gs w base v n xs) (o : Obj) : Gs (w.alloc o) base v n xs := World.ownsRow.alloc h o
theorem Gs.drew (h : Gs w base v n xs) : Gs w.drew base v n xs := h
theorem Gs.len (h : Gs w base v n xs) : xs.length = n * 2 := by have := h.1; rwa [List.length_map] at this
theorem Gs.out (h : Gs w base v n xs) {lo hi : Nat} (ho : Out lo hi w w') (hh : hi ≤ base) : Gs w' base v n xs := by
  obtain ⟨h0, h1 | ⟨g', cap', cur, h1, h2, h3, h4⟩⟩ := h
  · exact ⟨h0, .inl h1⟩
  · have hl : g' < w.heap.size := by
      rcases Nat.lt_or_ge g' w.heap.size with h | h
      · exact h
      · rw [Array.getElem?_eq_none h] at h3; cases h3
    exact ⟨h0, .inr ⟨g', cap', cur, h1, h2, (ho.block g' hl (.inr (by omega))).trans h3, h4⟩⟩
theorem Gs.below (h : Gs w base v n xs) (hb : Below w.heap.size w w') : Gs w' base v n xs := by
  obtain ⟨h0, h1 | ⟨g', cap', cur, h1, h2, h3, h4⟩⟩ := h
  · exact ⟨h0, .inl h1⟩
  · have hl : g' < w.heap.size := by
      rcases Nat.lt_or_ge g' w.heap.size with h | h
      · exact h
      · rw [Array.getElem?_eq_none h] at h3; cases h3
    exact ⟨h0, .inr ⟨g', cap', cur, h1, h2, (hb.block g' hl).trans h3, h4⟩⟩
theorem Gs.row (h : Gs w base v n xs) : ∃ a c, v = .slice a n c ∧ RowN w base w.heap.size 30 a (n * 2) (icell .i64 xs) := by
  have hl := h.len
  have h' := h
  obtain ⟨h0, ⟨h1, h2⟩ | ⟨g', cap', cur, h1, h2, h3, h4, _⟩⟩ := h
  · exact ⟨none, 0, by rw [h1, h2], .inl (by omega)⟩
  · subst h1
    exact ⟨_, cap', rfl, (RowN.of_own h').congr fun i hi => ints_getD .i64 xs (by omega)⟩
theorem info_sh2 : (Try.prog.info? 30).map (fun i => (i.zero, i.size, i.bytes)) = some (some (shV 0 0), 2, 16) := by kernel_rfl
theorem share_cells {x y : Int} : ∀ u ∈ [Value.int .i64 x, Value.int .i64 y], u.oneCell' = true := by
  intro u hu
  rcases List.mem_cons.1 hu with rfl | hu
  · rfl
  · rcases List.mem_cons.1 hu with rfl | hu
    · rfl
    · cases hu
/-- append one share -/
theorem app_share {ops : Array Oper} {rest : List Oper} {o : Oper} {a : Act} {Q : Exit → Act → World → Prop} (hgd : o.guard = none) (s x : Operand)
    (ho : o.op = .call { callee := .builtin .append, args := #[s, x], argTypes := #[63, 63] })
    (hs : a.eval s = v) (hown : Gs w base v n xs) (g : Nat) (p d : Int) (hx : a.eval x = .slice (some ⟨g, 0, none⟩) 1 1) (hc : w.rowIs g 30 2 (two p d)) (hn : n ≤ 1000) (hbase : base ≤ w.heap.size)
    (h : ∀ v' w', Gs w' base v' (n + 1) (xs ++ [p, d]) → Below base w w' → wpList Try.prog ops Q rest (a.put o.dst v') w') : wpList Try.prog ops Q (o :: rest) a w := by
  obtain ⟨i, hi, hz, hsize, hb⟩ := info_parts info_sh2
  obtain ⟨c0, c1, _, _⟩ := two_cells hc
  refine wpList_append_own w hgd s x 63 ho base 30 i (shV 0 0) 2 16 Try.underlying63 hi hz hsize hb rfl (by omega) v n _ hs hown ⟨g, 0, none⟩ 1 1 [.int .i64 p, .int .i64 d] hx rfl ?_ share_cells (by unfold maxLen; omega) (by omega) hbase ?_
  · intro j u hj
    match j, hj with
    | 0, hj =>
      have e : Value.int .i64 p = u := by simpa using hj
      rw [← e]; exact news2 c0 c1 0 (by omega)
    | 1, hj =>
      have e : Value.int .i64 d = u := by simpa using hj
      rw [← e]; exact news2 c0 c1 1 (by omega)
    | j + 2, hj => exact absurd hj (by simp)
  · intro v' w' hv' hg' _
    refine h v' w' ?_ ?_
    · unfold Gs
      rw [List.map_append]
      exact hv'
    · refine (Below.refl base w).grown hg' hbase fun k e => ?_
      obtain ⟨h0, ⟨h1, h2⟩ | ⟨g', cap', cur, h1, h2, _⟩⟩ := hown
      · subst h1; cases e
      · subst h1; have e' : g' = k := by simpa [Value.ownBlock] using e
        omega
end
/-- the shares after the first k of some games -/
def Mm.afK (M : Mm) (a b : Nat) (ph : Int) (ps : List Int) : Nat → Option (List Int)
  | 0 => some []
  | k + 1 => match M.afK a b ph ps k, M.af a b ph (ps.getD k 0) with
    | some l, some c => some (l ++ [sN c, sD c])
    | _, _ => none
theorem Mm.afK_some {M : Mm} {a b : Nat} {ph : Int} {ps : List Int} {k : Nat} {l : List Int} {p c : Int} (h : M.afK a b ph ps k = some l) (hp : ps.getD k 0 = p) (hc : M.af a b ph p = some c) : M.afK a b ph ps (k + 1) = some (l ++ [sN c, sD c]) := by
  show (match M.afK a b ph ps k, M.af a b ph (ps.getD k 0) with | some l, some c => some (l ++ [sN c, sD c]) | _, _ => none) = _
  rw [h, hp, hc]
theorem Mm.afK_none {M : Mm} {a b : Nat} {ph : Int} {ps : List Int} {k : Nat} {p : Int} (hp : ps.getD k 0 = p) (hc : M.af a b ph p = none) : ∀ n, k < n → M.afK a b ph ps n = none
  | 0, hn => absurd hn (by omega)
  | n + 1, hn => by
    show (match M.afK a b ph ps n, M.af a b ph (ps.getD n 0) with | some l, some c => some (l ++ [sN c, sD c]) | _, _ => none) = _
    by_cases e : k = n
    · subst e
      rw [hp, hc]
      cases M.afK a b ph ps k <;> rfl
    · rw [Mm.afK_none hp hc n (by omega)]
/-- the code of a situation -/
def cdV (M : Mm) (a b ph c : Int) : Int := if M.good = true then (if stB a b ph = true ∧ pwB c 64 = true then (if a = 0 ∨ b = 0 then 5 else 0) else 2) else 1
theorem l19Cube_k (c : Int) (k : Bool) (hk : pwB c 64 = k) (w : World) : Calls Try.prog 92 #[.int .i64 c] w fun e w' => e = .returned (.bool k) ∧ w = w' := hk ▸ l19Cube_any c w
theorem isCube_k (c : Int) (k : Bool) (hk : pwB c 64 = k) (w : World) : Calls Try.prog 49 #[.int .i64 c] w fun e w' => e = .returned (.bool k) ∧ w = w' := hk ▸ isCubeValue_any c w
set_option maxHeartbeats 800000 in
theorem l19Code_any (M : Mm) (a b ph c : Int) (w : World) (hA : M.at w w.heap.size) (hs : M.sz) (C : Int) (hC : cdV M a b ph c = C) :
    Calls Try.prog 54 #[.agg #[.slice M.a M.n M.c, .slice M.b M.m M.d, .slice M.e M.p M.f], .int .i64 a, .int .i64 b, .int .i64 ph, .int .i64 c] w fun e w' => e = .returned (.int .i64 C) ∧ Below w.heap.size w w' := by
  have hb0 := (Below.refl w.heap.size w).alloc (Nat.le_refl _) (.cells #[.slice M.a M.n M.c, .slice M.b M.m M.d, .slice M.e M.p M.f] 26)
  have HB := Lib.hid hb0
  have HA := Lib.hid (hA.keep hb0)
  obtain ⟨K, hK⟩ : ∃ K, M.good = K := ⟨_, rfl⟩
  obtain ⟨S, hS⟩ : ∃ S, stB a b ph = S := ⟨_, rfl⟩
  obtain ⟨U, hU⟩ : ∃ U, pwB c 64 = U := ⟨_, rfl⟩
  have HCV : Hid (C = if K = true then (if S = true ∧ U = true then (if a = 0 ∨ b = 0 then 5 else 0) else 2) else 1) := by
    refine Lib.hid ?_
    rw [← hC, ← hK, ← hS, ← hU]; rfl
  have HK := Lib.hid hK
  have HS := Lib.hid hS
  have HU := Lib.hid hU
  clear hb0 hA hK hS hC hU
  go_enter Try.func54, Try.ntmps54
  go_wp2_with fail
  refine (spec_mm M _ (HA.out.more HB.out.size) hs K HK.out).mono ?_
  rintro e w1 ⟨rfl, hb1⟩
  have B1 := Lib.hid (HB.out.trans (hb1.mono HB.out.size))
  clear hb1
  cases K
  · have HF : Hid (C = 1) := HCV.out.trans (if_neg (by decide))
    go_wp2_with fail
    go_ret
    exact ⟨ret_int HF.out, B1.out⟩
  · go_wp2_with fail
    refine (l18State_k a b ph S HS.out _).mono ?_
    rintro e w2 ⟨rfl, rfl⟩
    cases S
    · have HF : Hid (C = 2) := HCV.out.trans (by simp)
      go_wp2_with fail
      go_ret
      exact ⟨ret_int HF.out, B1.out⟩
    · go_wp2_with fail
      refine (l19Cube_k c U HU.out _).mono ?_
      rintro e w2 ⟨rfl, rfl⟩
      cases U
      · have HF : Hid (C = 2) := HCV.out.trans (by simp)
        go_wp2_with fail
        go_ret
        exact ⟨ret_int HF.out, B1.out⟩
      · have HV : Hid (C = if a = 0 ∨ b = 0 then 5 else 0) := HCV.out.trans (by simp)
        by_cases ha : a = 0
        · have HF := Lib.hid (HV.out.trans (if_pos (.inl ha)))
          subst ha
          go_wp2_with fail
          go_ret
          exact ⟨ret_int HF.out, B1.out⟩
        have ea : (a == 0) = false := by simpa using ha
        by_cases hb : b = 0
        · have HF := Lib.hid (HV.out.trans (if_pos (.inr hb)))
          subst hb
          go_wp2_with fail
          go_ret
          exact ⟨ret_int HF.out, B1.out⟩
        have eb : (b == 0) = false := by simpa using hb
        have HF := Lib.hid (HV.out.trans (if_neg (by rintro (h | h); exact ha h; exact hb h)))
        clear ha hb
        go_wp2_with fail
        go_ret
        exact ⟨ret_int HF.out, B1.out⟩
theorem otherChance_any (x y : Int) (w : World) (h0 : 0 ≤ x) (h1 : x ≤ y) (h2 : y ≤ 1000000000000000) : Calls Try.prog 47 #[shV x y] w fun e w' => e = .returned (shV (y - x) y) ∧ Below w.heap.size w w' := by
  have HB := Lib.hid ((((Below.refl w.heap.size w).alloc (Nat.le_refl _) (.cells #[.int .i64 x, .int .i64 y] 30)).alloc (by simp) (.cells #[.int .i64 (y - x), .int .i64 y] 30)))
  go_enter Try.func47, Try.ntmps47
  go_wp2
  refine bodyPost_ret (v := shV (y - x) y) (by simp [results, Try.results47, go_sem]) rfl ⟨rfl, HB.out⟩
theorem l19Rest_any (x y : Int) (w : World) (h0 : 0 ≤ x) (h1 : x ≤ y) (h2 : y ≤ 1000000000000000) : Calls Try.prog 48 #[shV x y] w fun e w' => e = .returned (shV (y - x) y) ∧ Below w.heap.size w w' := by
  have HB := Lib.hid ((((Below.refl w.heap.size w).alloc (Nat.le_refl _) (.cells #[.int .i64 x, .int .i64 y] 30)).alloc (by simp) (.cells #[.int .i64 (y - x), .int .i64 y] 30)))
  go_enter Try.func48, Try.ntmps48
  go_wp2
  refine bodyPost_ret (v := shV (y - x) y) (by simp [results, Try.results48, go_sem]) rfl ⟨rfl, HB.out⟩
end Go.Proofs.Ytkioliioakmepaa
