/-
  Plain: the network whose only hidden unit has the weights of Second; its hidden value is the output. Nothing is assumed.
-/
import Derived.Test.YtcpbaigghhjceaaOut
namespace Go.Proofs.Ytcpbaigghhjceaa
open Go.RowKit

theorem hidV_yes {i h : Int} {n m l : Nat} {xs ys vs : List Int} (h1 : netB i h n xs m ys = true) (h2 : inB i l vs = true) : hidV i h n xs m ys l vs = actL (sumL xs vs i.toNat h.toNat) := by rw [hidV, h1, h2]; rfl
theorem outV_yes {i h : Int} {n m l : Nat} {xs ys vs : List Int} (h1 : netB i h n xs m ys = true) (h2 : inB i l vs = true) : outV i h n xs m ys l vs = act (uS ys (actL (sumL xs vs i.toNat h.toNat)) h.toNat) := by rw [outV, h1, h2]; rfl
theorem hidV_no {i h : Int} {n m l : Nat} {xs ys vs : List Int} (h2 : (netB i h n xs m ys && inB i l vs) = false) : hidV i h n xs m ys l vs = [] := by rw [hidV, h2]; rfl
theorem outV_no {i h : Int} {n m l : Nat} {xs ys vs : List Int} (h2 : (netB i h n xs m ys && inB i l vs) = false) : outV i h n xs m ys l vs = 0 := by rw [outV, h2]; rfl
theorem act_at {ss : List Int} {k : Nat} (hk : k < ss.length) : 0 ≤ (actL ss).getD k 0 ∧ (actL ss).getD k 0 ≤ 4096 := by
  rw [actL_at hk]
  exact act_bd _
theorem inP_act (ss : List Int) : inP (actL ss) ss.length = true := allTo_of fun _ hk => wB_true.2 (actL_bd hk)
theorem one_unit {i h : Int} {n m l : Nat} {xs ys vs : List Int} (h1 : netB i h n xs m ys = true) (h2 : inB i l vs = true) (hl : ys.length = m) :
    netB h 1 m ys 2 [0, 0] = true ∧ inB h h.toNat (hidV i h n xs m ys l vs) = true ∧ hidV h 1 m ys 2 [0, 0] h.toNat (hidV i h n xs m ys l vs) = [outV i h n xs m ys l vs] ∧
    ((hidV i h n xs m ys l vs).length : Int) = h ∧ (hidV i h n xs m ys l vs).length = h.toNat ∧ 1 ≤ h ∧ h ≤ 12 ∧ (m : Int) = h + 1 := by
  obtain ⟨p, q, rfl, rfl, e1, e2, e3, p1, p2, q1, q2, wx, wy, hv⟩ := net_ok h1 h2
  have b1 : netB q 1 m ys 2 [0, 0] = true := by
    simp only [netB, Bool.and_eq_true]
    refine ⟨wB_true.2 (by omega), wB_true.2 (by omega), ?_, ?_, wy, by decide⟩
    · simp; omega
    · decide
  have hlen : (hidV p q n xs m ys l vs).length = q := by rw [hidV_yes h1 h2, actL_len, sumL_len, Int.toNat_natCast]
  have b2 : inB q q (hidV p q n xs m ys l vs) = true := by
    simp only [inB, Bool.and_eq_true, beq_self_eq_true, true_and]
    rw [hidV_yes h1 h2, Int.toNat_natCast]
    have := inP_act (sumL xs vs (p : Int).toNat q)
    rw [sumL_len] at this
    exact this
  refine ⟨b1, b2, ?_, by omega, by rw [Int.toNat_natCast]; exact hlen, by omega, by omega, by omega⟩
  rw [Int.toNat_natCast, hidV_yes b1 b2, outV_yes h1 h2, hidV_yes h1 h2]
  simp only [Int.toNat_natCast]
  have e : sumL ys (actL (sumL xs vs p q)) q (Int.toNat 1) = [uS (unW ys q 0) (actL (sumL xs vs p q)) q] := rfl
  have eu : unW ys q 0 = ys := by
    unfold unW
    rw [Nat.zero_mul, List.drop_zero, List.take_of_length_le (by omega)]
  rw [e, eu]
  rfl
end Go.Proofs.Ytcpbaigghhjceaa
