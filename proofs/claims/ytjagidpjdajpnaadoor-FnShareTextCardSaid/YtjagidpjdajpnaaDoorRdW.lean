/-
  impl.readDecimal.
-/
import Derived.Test.YtjagidpjdajpnaaDoorDec
import Derived.Test.YtjagidpjdajpnaaDoorShelf
import Derived.Test.YtjagidpjdajpnaaDoorShRP
import Derived.Lib.ParseIntBTie
import Derived.Lib.SmallJoins
namespace Go.Proofs.YtjagidpjdajpnaaDoor
open Go.ChangeShapes Go.WideShapes Go.ChangeAt Go.RowKit
set_option linter.unusedVariables false
theorem rdN_no {s : ByteArray} (h : ∀ n, Lib.parseIntB 64 s.data.toList = .ok n → Lib.itoa n ≠ s.data.toList) : rdN s = (0, false) := by
  unfold rdN
  split
  · rename_i n hn
    rw [if_neg (h n hn)]
  · rfl
theorem parse_rng {l : List UInt8} {n : Int} (h : Lib.parseIntB 64 l = .ok n) : -9223372036854775808 ≤ n ∧ n ≤ 9223372036854775807 := by
  obtain ⟨b0, b1⟩ := Lib.parseIntB_bounds h
  have e : ((2 ^ (64 - 1) : Nat) : Int) = 9223372036854775808 := by decide
  omega
theorem itoa_trim {n : Int} (h0 : -9223372036854775808 ≤ n) (h1 : n ≤ 9223372036854775807) : ∃ l, Lib.trimPrefix (Lib.itoa n) [45] = l ∧ l ≠ [] ∧ l.length ≤ 19 := by
  have hlen : ∀ m : Nat, m < 10 ^ 19 → (Lib.decDigits m).length ≤ 19 := by
    intro m hm
    have := decL_len 18 m hm
    rw [decL, List.length_map] at this
    exact this
  unfold Lib.itoa
  by_cases hn : n < 0
  · rw [if_pos hn]
    refine ⟨Lib.decDigits n.natAbs, ?_, decDigits_ne _, hlen _ (by omega)⟩
    simp [Lib.trimPrefix, Lib.hasPrefix]
  · rw [if_neg hn]
    refine ⟨Lib.decDigits n.toNat, ?_, decDigits_ne _, hlen _ (by omega)⟩
    cases hL : Lib.decDigits n.toNat with
    | nil => exact absurd hL (decDigits_ne _)
    | cons c r =>
      have hc := decDigits_mem c (hL ▸ List.mem_cons_self)
      have hne : ¬ (45 : UInt8) = c := fun e => by subst e; exact absurd hc.1 (by decide)
      simp [Lib.trimPrefix, Lib.hasPrefix, hne]
/-- the two error variables of strconv hold what they should -/
def Evs (w : World) : Prop := (∃ (tp : TypeId) (p : Value), w.var? Tryd.prog "strconv.ErrSyntax" = some #[.iface tp p]) ∧ (∃ (tp : TypeId) (p : Value), w.var? Tryd.prog "strconv.ErrRange" = some #[.iface tp p])
theorem var_below {w w' : World} {nm : String} {cs : Array Value} (h : w.var? Tryd.prog nm = some cs) (hb : Below w.heap.size w w') : w'.var? Tryd.prog nm = some cs := by
  unfold World.var? at *
  cases hg : Tryd.prog.globalNamed nm with
  | none => simp [hg] at h
  | some g =>
    simp only [hg, Option.bind_some] at h ⊢
    have hlt : g < w.heap.size := by
      rcases Nat.lt_or_ge g w.heap.size with h1 | h1
      · exact h1
      · rw [Array.getElem?_eq_none h1] at h; simp at h
    rw [hb.block g hlt]
    exact h
theorem Evs.below {w w' : World} (h : Evs w) (hb : Below w.heap.size w w') : Evs w' := by
  obtain ⟨⟨a, b, h1⟩, ⟨c, d, h2⟩⟩ := h
  exact ⟨⟨a, b, var_below h1 hb⟩, ⟨c, d, var_below h2 hb⟩⟩
theorem below_bytes {w w' : World} {t : TypeId} (h : w' = w ∨ ∃ x, w' = Lib.bytesWorld w t x) : Below w.heap.size w w' := by
  rcases h with rfl | ⟨x, rfl⟩
  · exact Below.refl _ _
  · exact Joins.below_bytesWorld _ w t x (Nat.le_refl _)
theorem parse_ok (s : ByteArray) (w : World) (hs : s.size ≤ 2000000) (x : Int) (h : Lib.parseIntB 64 s.data.toList = .ok x) :
    Calls Tryd.prog 28 #[.string s, .int .i64 10, .int .i64 64] w fun e w' => e = .returned (.tuple #[.int .i64 x, .nilIface]) ∧ Below w.heap.size w w' :=
  (Tryd.strconv_ParseInt_10_at64_ok s (by omega) x h w).mono fun e w' ⟨he, hb⟩ => ⟨he, below_bytes hb⟩
theorem parse_no (s : ByteArray) (w : World) (hs : s.size ≤ 2000000) (he : Evs w) (h : ∀ x, Lib.parseIntB 64 s.data.toList ≠ .ok x) :
    Calls Tryd.prog 28 #[.string s, .int .i64 10, .int .i64 64] w fun e w' => ∃ (x : Int) (t : TypeId) (p : Value), e = .returned (.tuple #[.int .i64 x, .iface t p]) ∧ Below w.heap.size w w' := by
  obtain ⟨⟨a, b, h1⟩, ⟨c, d, h2⟩⟩ := he
  rcases hp : Lib.parseIntB 64 s.data.toList with x | _ | _
  · exact absurd hp (h x)
  · exact (Tryd.strconv_ParseInt_10_at64_syntax_var s (by omega) hp a b w h1).mono fun e w' ⟨N, he, _, _, hb⟩ => ⟨_, _, _, he, hb⟩
  · exact (Tryd.strconv_ParseInt_10_at64_range_var s (by omega) hp c d w h2).mono fun e w' ⟨N, he, _, _, hb⟩ => ⟨_, _, _, he, hb⟩
set_option maxHeartbeats 1600000 in
theorem readDecimal_any (s : ByteArray) (w : World) (hs : s.size ≤ 2000000) (ht : Tab w) (he : Evs w) :
    Calls Tryd.prog 17 #[.string s] w fun e w' => e = .returned (.tuple #[.int .i64 (rdN s).1, .bool (rdN s).2]) ∧ Below w.heap.size w w' := by
  obtain ⟨l, hl⟩ : ∃ l, Lib.trimPrefix s.data.toList [45] = l := ⟨_, rfl⟩
  have TP := Lib.hid (fun W => hl ▸ Tryd.strings_TrimPrefix s ⟨#[45]⟩ W)
  have hbad : (l = [] ∨ 19 < l.length) → rdN s = (0, false) := fun h => rdN_no (fun n hn e => by
    obtain ⟨b0, b1⟩ := parse_rng hn
    obtain ⟨l', e1, e2, e3⟩ := itoa_trim (n := n) b0 b1
    rw [e, hl] at e1
    subst e1
    rcases h with h | h
    · exact e2 h
    · omega)
  by_cases hA : l = []
  · have HV := Lib.hid (hbad (Or.inl hA))
    subst hA
    clear hbad hl
    go_enter Tryd.func17, Tryd.ntmps17
    go_wp2_with fail
    refine (TP.out _).mono ?_
    rintro e w1 ⟨rfl, rfl⟩
    go_wp2_with fail
    go_ret2
    exact ⟨by rw [HV.out]; rfl, Below.refl _ _⟩
  obtain ⟨D, hD⟩ : ∃ D : ByteArray, ⟨l.toArray⟩ = D := ⟨_, rfl⟩
  have hDs : D.size = l.length := by rw [← hD]; simp [ByteArray.size]
  have hnm : D.toList.isEmpty = false := by
    rw [← hD, ByteArray.toList_eq]
    cases l with
    | nil => exact absurd rfl hA
    | cons a b => rfl
  rw [hD] at TP
  by_cases hB : 19 < l.length
  · have HV := Lib.hid (hbad (Or.inr hB))
    have hz : 19 < D.size := by omega
    clear hbad hl hD hDs hA hB
    go_enter Tryd.func17, Tryd.ntmps17
    go_wp2_with fail
    refine (TP.out _).mono ?_
    rintro e w1 ⟨rfl, rfl⟩
    go_wp2_with fail
    go_ret2
    exact ⟨by rw [HV.out]; rfl, Below.refl _ _⟩
  have hz : D.size ≤ 19 := by omega
  clear hbad hl hD hDs hA hB
  rcases hp : Lib.parseIntB 64 s.data.toList with x | _ | _
  · skip
    obtain ⟨b0, b1⟩ := parse_rng hp
    have PO := Lib.hid (fun W => parse_ok s W hs x hp)
    by_cases hx : itS x = s
    · have HV := Lib.hid (rdN_yes (s := s) b0 b1 (by rw [← hx]; rfl))
      have DC := Lib.hid (fun W (hW : Tab W) => hx ▸ decimal_any x W b0 b1 hW)
      clear hp hx
      go_enter Tryd.func17, Tryd.ntmps17
      go_wp2_with fail
      refine (TP.out _).mono ?_
      rintro e w1 ⟨rfl, rfl⟩
      go_wp2_with fail
      refine (PO.out _).mono ?_
      rintro e w2 ⟨rfl, hb⟩
      have HT := Lib.hid (ht.below hb)
      have HB := Lib.hid hb
      clear hb
      go_wp2_with fail
      refine (DC.out _ HT.out).mono ?_
      rintro e w3 ⟨rfl, hb⟩
      have HB3 := Lib.hid (HB.out.trans (hb.mono HB.out.size))
      clear hb
      go_wp2_with fail
      go_ret2
      exact ⟨by rw [HV.out]; rfl, HB3.out⟩
    · have HV := Lib.hid (rdN_no (s := s) (fun n hn e => hx (by
        rw [hp] at hn
        injection hn with hn
        subst hn
        cases s with
        | mk a => rw [itS, e])))
      have DC := Lib.hid (fun W (hW : Tab W) => decimal_any x W b0 b1 hW)
      have hq : ((itS x).toList == s.toList) = false := by
        rw [beq_eq_false_iff_ne, ByteArray.toList_eq, ByteArray.toList_eq]
        intro e
        exact hx (by
          cases s with
          | mk a => exact congrArg ByteArray.mk (Array.toList_inj.1 e))
      obtain ⟨q, hq'⟩ : ∃ q, itS x = q := ⟨_, rfl⟩
      rw [hq'] at DC hq hx
      clear hp hq'
      go_enter Tryd.func17, Tryd.ntmps17
      go_wp2_with fail
      refine (TP.out _).mono ?_
      rintro e w1 ⟨rfl, rfl⟩
      go_wp2_with fail
      refine (PO.out _).mono ?_
      rintro e w2 ⟨rfl, hb⟩
      have HT := Lib.hid (ht.below hb)
      have HB := Lib.hid hb
      clear hb
      go_wp2_with fail
      refine (DC.out _ HT.out).mono ?_
      rintro e w3 ⟨rfl, hb⟩
      have HB3 := Lib.hid (HB.out.trans (hb.mono HB.out.size))
      clear hb
      go_wp2_with fail
      all_goals
        go_ret2
        exact ⟨by rw [HV.out]; rfl, HB3.out⟩
  · skip
    have HV := Lib.hid (rdN_no (s := s) (fun n hn e => by rw [hp] at hn; cases hn))
    have PN := Lib.hid (fun W (hW : Evs W) => parse_no s W hs hW (fun x h => by rw [hp] at h; cases h))
    clear hp
    go_enter Tryd.func17, Tryd.ntmps17
    go_wp2_with fail
    refine (TP.out _).mono ?_
    rintro e w1 ⟨rfl, rfl⟩
    go_wp2_with fail
    refine (PN.out _ he).mono ?_
    rintro e w2 ⟨x, t, p, rfl, hb⟩
    have HB := Lib.hid hb
    clear hb
    go_wp2_with fail
    go_ret2
    exact ⟨by rw [HV.out]; rfl, HB.out⟩
  · skip
    have HV := Lib.hid (rdN_no (s := s) (fun n hn e => by rw [hp] at hn; cases hn))
    have PN := Lib.hid (fun W (hW : Evs W) => parse_no s W hs hW (fun x h => by rw [hp] at h; cases h))
    clear hp
    go_enter Tryd.func17, Tryd.ntmps17
    go_wp2_with fail
    refine (TP.out _).mono ?_
    rintro e w1 ⟨rfl, rfl⟩
    go_wp2_with fail
    refine (PN.out _ he).mono ?_
    rintro e w2 ⟨x, t, p, rfl, hb⟩
    have HB := Lib.hid hb
    clear hb
    go_wp2_with fail
    go_ret2
    exact ⟨by rw [HV.out]; rfl, HB.out⟩
end Go.Proofs.YtjagidpjdajpnaaDoor
