/-
  The draw of DrawMoneyTakePoint.
-/
import Derived.Test.YtjagidpjdajpnaaDraw
namespace Go.Proofs.Ytjagidpjdajpnaa
open Go.ChangeShapes Go.WideShapes Go.ChangeAt Go.RowKit

def MtpPost (w : World) (e : Ending) (w' : World) : Prop := ∃ x : Int, e = .returned (.int .i64 x) ∧ -1 ≤ x ∧ x ≤ 21 ∧ Below w.heap.size w w'
theorem DrawMoneyTakePoint_any (a : Option Addr) (n c : Nat) (xs : List Int) (w : World) (h : IntsArg w .u8 a n xs) (hn : n ≤ 4096) :
    Calls Try.prog 13 #[.slice a n c] w fun e w' => MtpPost w e w' := by
  go_enter Try.func13, Try.ntmps13
  go_wp2_with fail
  refine (from_dr a n c xs w h hn).mono ?_
  rintro e w1 ⟨rfl, hd⟩
  go_wp2_with fail
  refine (next_dr _ w _ a n c xs w1 hd (by omega)).mono ?_
  rintro e w2 ⟨x, rfl, x0, x1, hd2, hg2⟩
  have x2 : x < 23 := by omega
  clear x1
  go_wp2_with fail
  go_ret
  exact ⟨_, rfl, by omega, by omega, hd2.below⟩
end Go.Proofs.Ytjagidpjdajpnaa
