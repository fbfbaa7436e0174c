/-
  The walk of l19Chances of the reference: the match chances after some games.
-/
import Derived.Test.YtkioliioakmepaaMchV
import Derived.StillTailTactics
import Derived.RegionTactic
import Derived.BigRegion
import Derived.Deep.RegionWith
import Derived.Deep.Cut
import Derived.Deep.CutRange
import Derived.Deep.DeepCutAuto
namespace Go.Proofs.Ytkioliioakmepaa
open Go.ChangeShapes Go.WideShapes Go.ChangeAt Go.RowKit
set_option linter.unusedVariables false

/-- what l19Chances leaves -/
def LcPost (M : Mm) (a b : Nat) (ph : Int) (m : Nat) (ps : List Int) (w : World) (e : Ending) (w' : World) : Prop :=
  ∃ (v : Value) (ok : Bool), e = .returned (.tuple #[v, .bool ok]) ∧ Below w.heap.size w w' ∧ (ok = true → ∃ xs lo, M.afK a b ph ps m = some xs ∧ Gs w' lo v m xs ∧ w.heap.size ≤ lo) ∧ (ok = false → M.afK a b ph ps m = none)
theorem apV_ok {M : Mm} {a b : Nat} {ph p : Int} (hg : M.good = true) (hs : stB a b ph = true) (ha : 0 < a) (hb : 0 < b) (hp : ¬ p = 0) (h1 : -1000 ≤ p) (h2 : p ≤ 1000) : apV M a b ph p = chR (M.af a b ph p) := by
  unfold apV
  rw [if_pos hg, if_pos hs, if_neg (by rintro (h | h); exact hp h; rw [wB_true.2 ⟨h1, h2⟩] at h; cases h), if_neg (by omega)]
  rfl
set_option maxHeartbeats 3200000 in
theorem l19Chances_any (M : Mm) (a b : Nat) (ph : Int) (A : Option Addr) (m C : Nat) (ps : List Int) (w : World) (hA : M.at w w.heap.size) (hs : M.sz) (hg : M.good = true) (hst : stB a b ph = true) (ha : 0 < a) (hb : 0 < b) (hP : Ints w w.heap.size .i64 A m ps) (hm : m ≤ 8) (hps : ∀ i, i < m → ¬ ps.getD i 0 = 0 ∧ -1000 ≤ ps.getD i 0 ∧ ps.getD i 0 ≤ 1000) :
    Calls Try.prog 55 #[.agg #[.slice M.a M.n M.c, .slice M.b M.m M.d, .slice M.e M.p M.f], .int .i64 a, .int .i64 b, .int .i64 ph, .slice A m C] w fun e w' => LcPost M a b ph m ps w e w' := by
  have hb0 := ((Below.refl w.heap.size w).alloc (Nat.le_refl _) (.cells #[.slice M.a M.n M.c, .slice M.b M.m M.d, .slice M.e M.p M.f] 26)).alloc (by simp) (.cells #[] 30)
  have HB := Lib.hid hb0
  have HA := Lib.hid (hA.keep hb0)
  have HP := Lib.hid (hP.below hb0)
  have RM := Lib.hid ((three_new w (.slice M.a M.n M.c) (.slice M.b M.m M.d) (.slice M.e M.p M.f) 26).alloc (.cells #[] 30))
  have gn := Gs.new (w.alloc (.cells #[.slice M.a M.n M.c, .slice M.b M.m M.d, .slice M.e M.p M.f] 26)) (w.heap.size + 1) (by simp)
  rw [World.size_alloc] at gn
  have GN := Lib.hid gn
  have HSZ := Lib.hid hs
  have HPP := Lib.hid hps
  have APV := Lib.hid (fun p h0 h1 h2 => apV_ok (p := p) hg hst ha hb h0 h1 h2)
  clear hb0 hA hP gn hps hg hst
  go_enter Try.func55, Try.ntmps55
  go_wp2_with fail
  go_loopw [12, 13] (fun v i wx => ∃ (k : Nat) (sv : Value) (xs : List Int), k ≤ m ∧ sv = v ∧ i = .int .i64 k ∧ Hid (M.afK a b ph ps k = some xs) ∧ Hid (Gs wx (w.heap.size + 1) sv k xs) ∧ Hid (Below w.heap.size w wx) ∧ Hid (M.at wx w.heap.size) ∧ Hid (Ints wx w.heap.size .i64 A m ps) ∧ Hid (wx.rowIs w.heap.size 26 3 (three (.slice M.a M.n M.c) (.slice M.b M.m M.d) (.slice M.e M.p M.f))) ∧ w.heap.size + 1 ≤ wx.heap.size) (fun _ i _ => m - (intOf i).toNat)
  case atStart => exact ⟨0, _, [], by omega, rfl, rfl, rfl, GN, HB, HA, HP, RM, by simp⟩
  case round =>
    obtain ⟨k, sv, xs, hk, hsv, rfl, hafk, hgs, hB, hAt, hPt, hR, hz⟩ := hrel
    subst hsv
    by_cases hkm : k < m
    · obtain ⟨bb, off, hAA, hbb, hcs⟩ := hPt.out.2 (by omega)
      have hcx := hcs k hkm
      obtain ⟨p, hp⟩ : ∃ p, ps.getD k 0 = p := ⟨_, rfl⟩
      rw [hp] at hcx
      have hpp := HPP.out k hkm
      rw [hp] at hpp
      obtain ⟨pn, pl, pu⟩ := hpp
      have HPK := Lib.hid hp
      subst hAA
      obtain ⟨x, hx⟩ : ∃ x, (apV M a b ph p).1 = x := ⟨_, rfl⟩
      obtain ⟨y, hy⟩ : ∃ y, (apV M a b ph p).2.1 = y := ⟨_, rfl⟩
      obtain ⟨c, hc⟩ : ∃ c, (apV M a b ph p).2.2 = c := ⟨_, rfl⟩
      have HV : Hid (chR (M.af a b ph p) = (x, y, c)) := by
        refine Lib.hid ?_
        rw [← APV.out p pn pl pu, ← hx, ← hy, ← hc]
      have AP := Lib.hid (fun W (h : M.at W W.heap.size) => spec_AfterPoints_any M a b ph p W h HSZ.out)
      unfold ShPost at AP
      rw [hx, hy, hc] at AP
      clear hx hy hc hp pn hcs
      go_upto_region 5 with fail
      go_cut [14, 15] (fun t u wx => ∃ gg, t = .pointer (some ⟨gg, 0, none⟩) ∧ u = .int .i64 c ∧ Hid (wx.rowIs gg 30 2 (two x y)) ∧ Hid (Gs wx (w.heap.size + 1) sv k xs) ∧ Hid (Below w.heap.size w wx) ∧ Hid (M.at wx w.heap.size) ∧ Hid (Ints wx w.heap.size .i64 (some ⟨bb, off, none⟩) m ps) ∧ Hid (wx.rowIs w.heap.size 26 3 (three (.slice M.a M.n M.c) (.slice M.b M.m M.d) (.slice M.e M.p M.f))) ∧ w.heap.size + 1 ≤ wx.heap.size)
      case first =>
        obtain ⟨m0, m1, m2⟩ := three_cells hR.out
        obtain ⟨n0, n1, n2⟩ := three_cells (hR.out.alloc (.cells #[.int .i64 0, .int .i64 0] 30))
        have hcy := Ints.hid (hPt.out.below ((Below.refl w.heap.size wr).alloc (by omega) (.cells #[.int .i64 0, .int .i64 0] 30))) k hkm
        rw [HPK.out] at hcy
        have AP1 := Lib.hid (AP.out wr.drew (hAt.out.more (by show w.heap.size ≤ wr.heap.size; omega)))
        have AP2 := Lib.hid (AP.out (wr.alloc (.cells #[.int .i64 0, .int .i64 0] 30)).drew ((hAt.out.keep ((Below.refl w.heap.size wr).alloc (by omega) _)).more (by show w.heap.size ≤ (wr.alloc (.cells #[.int .i64 0, .int .i64 0] 30)).heap.size; simp; omega)))
        have hwl : w.heap.size < wr.heap.size := hR.out.lt
        go_region_with (first
          | (go_at_call 33; (with_reducible refine (AP1.out).mono ?_); rintro e w6 ⟨rfl, hb⟩; have z6 := hb.size; have R6 := Lib.hid (rowIs_below (w := wr.drew) hR.out.drew hb hR.out.lt); obtain ⟨l0, l1, l2⟩ := three_cells R6.out)
          | (go_at_call 33; (with_reducible refine (AP2.out).mono ?_); rintro e w6 ⟨rfl, hb⟩; have z6 := hb.size; have R6 := Lib.hid (rowIs_below (w := (wr.alloc (.cells #[.int .i64 0, .int .i64 0] 30)).drew) (hR.out.alloc _).drew hb (hR.out.alloc _).lt); have N6 := Lib.hid (rowIs_below (w := (wr.alloc (.cells #[.int .i64 0, .int .i64 0] 30)).drew) (two_new wr 0 0 30).drew hb (two_new wr 0 0 30).lt); obtain ⟨q0, q1, q2, q3⟩ := two_cells N6.out))
        all_goals
          go_wp2_with fail
          go_meet
          first
            | (have BB : Below wr.heap.size wr (w6.alloc (.cells #[.int .i64 x, .int .i64 y] 30)) := ((Below.refl wr.heap.size wr).drew.trans hb).alloc z6 _
               exact ⟨_, rfl, rfl, Lib.hid (two_new w6 x y 30), Lib.hid (hgs.out.below BB), Lib.hid (hB.out.trans (BB.mono hB.out.size)), Lib.hid (hAt.out.keep (BB.mono (by omega))), Lib.hid (hPt.out.below (BB.mono (by omega))), Lib.hid (rowIs_below hR.out BB hR.out.lt), Nat.le_trans hz BB.size⟩)
            | (have BB : Below wr.heap.size wr ((w6.setCell ⟨wr.heap.size, 0, none⟩ (.int .i64 x)).setCell ⟨wr.heap.size, 1, none⟩ (.int .i64 y)) := ((((Below.refl wr.heap.size wr).alloc (Nat.le_refl _) (.cells #[.int .i64 0, .int .i64 0] 30)).drew.trans (hb.mono (by show wr.heap.size ≤ (wr.alloc (.cells #[.int .i64 0, .int .i64 0] 30)).heap.size; simp))).setCell (Nat.le_refl _) _).setCell (Nat.le_refl _) _
               exact ⟨_, rfl, rfl, Lib.hid (two_set N6.out x y), Lib.hid (hgs.out.below BB), Lib.hid (hB.out.trans (BB.mono hB.out.size)), Lib.hid (hAt.out.keep (BB.mono (by omega))), Lib.hid (hPt.out.below (BB.mono (by omega))), Lib.hid (rowIs_below hR.out BB hR.out.lt), Nat.le_trans hz BB.size⟩)
            | skip
        all_goals trace_state
      case rest =>
        obtain ⟨gg, rfl, rfl, hrow, hgs', hB', hAt', hPt', hR', hz'⟩ := hcut
        obtain ⟨r0, r1, _, _⟩ := two_cells hrow.out
        clear hgs hB hAt hPt hR hz hcx
        by_cases hc0 : c = 0
        · subst hc0
          have HYES : Hid (M.afK a b ph ps (k + 1) = some (xs ++ [x, y])) := by
            have h := HV.out
            cases hv : M.af a b ph p with
            | none => rw [hv] at h; injection h with _ h; injection h with _ h; exact absurd h (by decide)
            | some cc =>
              rw [hv] at h
              injection h with h1 h2
              injection h2 with h2 h3
              have := Mm.afK_some hafk.out HPK.out hv
              rw [← h1, ← h2]; exact this
          obtain ⟨wo, hwo⟩ : ∃ wo, wo = wc := ⟨_, rfl⟩
          subst hwo
          have G4 := Lib.hid (hgs'.out.alloc (.cells #[.int .i64 x, .int .i64 y] 30))
          have C4 := Lib.hid (two_new wo x y 30)
          have B4 := Lib.hid (hB'.out.alloc (by omega) (.cells #[.int .i64 x, .int .i64 y] 30))
          have A4 := Lib.hid (hAt'.out.keep ((Below.refl w.heap.size wo).alloc (by omega) (.cells #[.int .i64 x, .int .i64 y] 30)))
          have P4 := Lib.hid (hPt'.out.below ((Below.refl w.heap.size wo).alloc (by omega) (.cells #[.int .i64 x, .int .i64 y] 30)))
          have R4 := Lib.hid (hR'.out.alloc (.cells #[.int .i64 x, .int .i64 y] 30))
          go_wp2_with (first | (at_builtin; refine app_share rfl (.tmp 37) (.tmp 39) rfl rfl G4.out wo.heap.size x y rfl C4.out (by omega) (by first | (simp; done) | (simp; omega)) ?_; intro v5 w5 hg5 hb5))
          have z5 := hb5.size
          simp only [World.size_alloc] at z5
          go_roundw
          case rel => exact ⟨k + 1, v5, xs ++ [x, y], by omega, rfl, by go_num, HYES, Lib.hid hg5, Lib.hid (B4.out.trans (hb5.mono (by omega))), Lib.hid (A4.out.keep (hb5.mono (by omega))), Lib.hid (P4.out.below (hb5.mono (by omega))), Lib.hid (rowIs_below R4.out hb5 (by omega)), by omega⟩
          case measure => simp [intOf]; omega
        · have ec : (c != 0) = true := by simpa using hc0
          have HNO : Hid (M.afK a b ph ps m = none) := by
            have h := HV.out
            cases hv : M.af a b ph p with
            | none => exact Mm.afK_none HPK.out hv m hkm
            | some cc => rw [hv] at h; injection h with _ h; injection h with _ h; exact absurd h.symm hc0
          clear hc0
          go_wp2_with fail
          refine bodyPost_ret (v := .tuple #[.slice none 0 0, .bool false]) (by simp [results, Try.results55, go_sem]) rfl ⟨_, _, rfl, hB'.out, (fun h => by cases h), fun _ => HNO.out⟩
    · obtain rfl : k = m := by omega
      go_wp2_with fail
      refine bodyPost_ret (v := .tuple #[sv, .bool true]) (by simp [results, Try.results55, go_sem]) rfl ⟨_, _, rfl, hB.out, fun _ => ⟨xs, _, hafk.out, hgs.out, by omega⟩, (fun h => by cases h)⟩
end Go.Proofs.Ytkioliioakmepaa
