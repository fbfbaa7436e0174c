/-
  No cell of these rows narrows 'for every input' (looked for: loops, veiled, ifaces, maps, wideKeys, modest, calm, conditions, laid).
  DERIVED. THE GIVEN ROWS OF THIS SEAT. 6 by the template 'for every input the law returns true; each argument reads behind the call as it read before'; 0 by the template 'total and deterministic' (their statements: YtjagidpjdajpnaaTotals.lean).
  GIVEN WITH THE SEED: the statements are not yours to turn. If you find one false, say at which input.
  Laid BY PROGRAM, IN A SANDBOX (cutbox-rows.mjs): the forced cells as the released guide's own fill.sh prints them over the translation dcfee50782ba746f… (all of the seat's roots in one cut). By AI agents, Wed Nov 11 2026. No macro, syntax, notation, axiom, sorry.
-/
import Derived.Test.YtjagidpjdajpnaaChecked
import GoSem.Claim
import GoSem.ClaimJoined
import GoSem.ClaimMapViews
import Derived.JoinedTies
import Derived.KernelRfl
namespace Go.Proofs.Ytjagidpjdajpnaa
/- THE CELL 'sum', in the pinned program and in every row, IS THE sha256 OF THE DUMP (.gsa) THAT YtjagidpjdajpnaaProg.lean LOADS. Nothing in Lean hashes anything: it is a label: what it is worth is what the hold of that sum in a sandbox is worth. -/
noncomputable def Try.pinned : Pinned := { name := "ytjagidpjdajpnaa", sum := "dcfee50782ba746f95697c5ee41415168ffd5e0bdfa1c6b97a6b9a781610128e", checked := Try.checked }
namespace Rows
def none {H : Type} : Left H := { results := [], args := [] }

/-- 'laws.FnExactMoneyTakePoint': WHATEVER THE INPUT: true; the input reads as it did. -/
def fnExactMoneyTakePointSpec : ChangeSpec := { name := "fnExactMoneyTakePoint", fn := fun _ => fun
  | [d] => { results := [.lit (.bool true)], args := [d] }
  | _ => none }
def fnExactMoneyTakePointRow : OpenClaim := { program := "ytjagidpjdajpnaa", sum := "dcfee50782ba746f95697c5ee41415168ffd5e0bdfa1c6b97a6b9a781610128e", func := "loop.example/g00885/laws.FnExactMoneyTakePoint", spec := "fnExactMoneyTakePoint", apart := false }
def FnExactMoneyTakePointSaid : Prop := fnExactMoneyTakePointRow.holds Try.pinned (OpenSpec.ofChange fnExactMoneyTakePointSpec)

/-- ITS FALSE NEIGHBOUR: 'it returns false'. Refute it at one input. -/
def fnExactMoneyTakePointWrong : ChangeSpec := { name := "fnExactMoneyTakePoint", fn := fun _ => fun
  | [d] => { results := [.lit (.bool false)], args := [d] }
  | _ => none }
def FnExactMoneyTakePointWrongFalsely : Prop := fnExactMoneyTakePointRow.holds Try.pinned (OpenSpec.ofChange fnExactMoneyTakePointWrong)

/-- 'laws.FnMoneyPoints': WHATEVER THE INPUT: true; the input reads as it did. -/
def fnMoneyPointsSpec : ChangeSpec := { name := "fnMoneyPoints", fn := fun _ => fun
  | [d] => { results := [.lit (.bool true)], args := [d] }
  | _ => none }
def fnMoneyPointsRow : OpenClaim := { program := "ytjagidpjdajpnaa", sum := "dcfee50782ba746f95697c5ee41415168ffd5e0bdfa1c6b97a6b9a781610128e", func := "loop.example/g00885/laws.FnMoneyPoints", spec := "fnMoneyPoints", apart := false }
def FnMoneyPointsSaid : Prop := fnMoneyPointsRow.holds Try.pinned (OpenSpec.ofChange fnMoneyPointsSpec)

/-- ITS FALSE NEIGHBOUR: 'it returns false'. Refute it at one input. -/
def fnMoneyPointsWrong : ChangeSpec := { name := "fnMoneyPoints", fn := fun _ => fun
  | [d] => { results := [.lit (.bool false)], args := [d] }
  | _ => none }
def FnMoneyPointsWrongFalsely : Prop := fnMoneyPointsRow.holds Try.pinned (OpenSpec.ofChange fnMoneyPointsWrong)

/-- 'laws.FnExactMixPoints': WHATEVER THE INPUT: true; the input reads as it did. -/
def fnExactMixPointsSpec : ChangeSpec := { name := "fnExactMixPoints", fn := fun _ => fun
  | [d1, d2, d3] => { results := [.lit (.bool true)], args := [d1, d2, d3] }
  | _ => none }
def fnExactMixPointsRow : OpenClaim := { program := "ytjagidpjdajpnaa", sum := "dcfee50782ba746f95697c5ee41415168ffd5e0bdfa1c6b97a6b9a781610128e", func := "loop.example/g00885/laws.FnExactMixPoints", spec := "fnExactMixPoints", apart := false }
def FnExactMixPointsSaid : Prop := fnExactMixPointsRow.holds Try.pinned (OpenSpec.ofChange fnExactMixPointsSpec)

/-- ITS FALSE NEIGHBOUR: 'it returns false'. Refute it at one input. -/
def fnExactMixPointsWrong : ChangeSpec := { name := "fnExactMixPoints", fn := fun _ => fun
  | [d1, d2, d3] => { results := [.lit (.bool false)], args := [d1, d2, d3] }
  | _ => none }
def FnExactMixPointsWrongFalsely : Prop := fnExactMixPointsRow.holds Try.pinned (OpenSpec.ofChange fnExactMixPointsWrong)

/-- 'laws.FnExactTakePoint': WHATEVER THE INPUT: true; the input reads as it did. -/
def fnExactTakePointSpec : ChangeSpec := { name := "fnExactTakePoint", fn := fun _ => fun
  | [d1, d2, d3] => { results := [.lit (.bool true)], args := [d1, d2, d3] }
  | _ => none }
def fnExactTakePointRow : OpenClaim := { program := "ytjagidpjdajpnaa", sum := "dcfee50782ba746f95697c5ee41415168ffd5e0bdfa1c6b97a6b9a781610128e", func := "loop.example/g00885/laws.FnExactTakePoint", spec := "fnExactTakePoint", apart := false }
def FnExactTakePointSaid : Prop := fnExactTakePointRow.holds Try.pinned (OpenSpec.ofChange fnExactTakePointSpec)

/-- ITS FALSE NEIGHBOUR: 'it returns false'. Refute it at one input. -/
def fnExactTakePointWrong : ChangeSpec := { name := "fnExactTakePoint", fn := fun _ => fun
  | [d1, d2, d3] => { results := [.lit (.bool false)], args := [d1, d2, d3] }
  | _ => none }
def FnExactTakePointWrongFalsely : Prop := fnExactTakePointRow.holds Try.pinned (OpenSpec.ofChange fnExactTakePointWrong)

/-- 'laws.FnMixed': WHATEVER THE INPUT: true; the input reads as it did. -/
def fnMixedSpec : ChangeSpec := { name := "fnMixed", fn := fun _ => fun
  | [d] => { results := [.lit (.bool true)], args := [d] }
  | _ => none }
def fnMixedRow : OpenClaim := { program := "ytjagidpjdajpnaa", sum := "dcfee50782ba746f95697c5ee41415168ffd5e0bdfa1c6b97a6b9a781610128e", func := "loop.example/g00885/laws.FnMixed", spec := "fnMixed", apart := false }
def FnMixedSaid : Prop := fnMixedRow.holds Try.pinned (OpenSpec.ofChange fnMixedSpec)

/-- ITS FALSE NEIGHBOUR: 'it returns false'. Refute it at one input. -/
def fnMixedWrong : ChangeSpec := { name := "fnMixed", fn := fun _ => fun
  | [d] => { results := [.lit (.bool false)], args := [d] }
  | _ => none }
def FnMixedWrongFalsely : Prop := fnMixedRow.holds Try.pinned (OpenSpec.ofChange fnMixedWrong)

/-- 'laws.FnTakePoint': WHATEVER THE INPUT: true; the input reads as it did. -/
def fnTakePointSpec : ChangeSpec := { name := "fnTakePoint", fn := fun _ => fun
  | [d] => { results := [.lit (.bool true)], args := [d] }
  | _ => none }
def fnTakePointRow : OpenClaim := { program := "ytjagidpjdajpnaa", sum := "dcfee50782ba746f95697c5ee41415168ffd5e0bdfa1c6b97a6b9a781610128e", func := "loop.example/g00885/laws.FnTakePoint", spec := "fnTakePoint", apart := false }
def FnTakePointSaid : Prop := fnTakePointRow.holds Try.pinned (OpenSpec.ofChange fnTakePointSpec)

/-- ITS FALSE NEIGHBOUR: 'it returns false'. Refute it at one input. -/
def fnTakePointWrong : ChangeSpec := { name := "fnTakePoint", fn := fun _ => fun
  | [d] => { results := [.lit (.bool false)], args := [d] }
  | _ => none }
def FnTakePointWrongFalsely : Prop := fnTakePointRow.holds Try.pinned (OpenSpec.ofChange fnTakePointWrong)

/- THE SECOND FORM. 'bulk': how many values and letters a reading holds, each counted each time it is reached (what is shared counts as often as it is met; a slice's spare places count too). A statement '..UptoSaid' is the law's where the arguments, and the package variables that the reading takes, are together of bulk at most 1048576: NARROWER than '..Said'. Prove '..Said' where nothing that the law and all that it calls make is longer than what came in: it says more and counts as full. Else prove '..UptoSaid'. A law counts once. -/
mutual
def uptoBulk {H : Type} : DataW H → Nat
  | .lit (.string bytes) => bytes.length + 1
  | .lit _ => 1
  | .nil => 1
  | .ptr d => uptoBulk d + 1
  | .slice elems spare => uptoBulkAll elems + uptoBulkAll spare + 1
  | .agg parts => uptoBulkAll parts + 1
  | .iface _ d => uptoBulk d + 1
  | .map entries => uptoBulkEntries entries + 1
  | .held _ => 1
def uptoBulkAll {H : Type} : List (DataW H) → Nat
  | [] => 0
  | d :: r => uptoBulk d + uptoBulkAll r
def uptoBulkEntries {H : Type} : List (Lit × DataW H) → Nat
  | [] => 0
  | x :: r => uptoBulkEntry x + uptoBulkEntries r
def uptoBulkEntry {H : Type} : Lit × DataW H → Nat
  | (.string bytes, d) => bytes.length + uptoBulk d + 1
  | (_, d) => uptoBulk d + 1
 end
def uptoSmall : (H : Type) → List (DataW H) → Bool := fun _ ds => decide (uptoBulkAll ds ≤ 1048576)
def OpenSpec.upto (s : _root_.Go.ChangeSpec) : _root_.Go.OpenSpec := { _root_.Go.OpenSpec.ofChange s with cond := some uptoSmall }

/-- 'laws.FnExactMoneyTakePoint', WHERE WHAT IT READS IS OF BULK AT MOST 1048576: true; the input reads as it did. -/
def fnExactMoneyTakePointUptoRow : OpenClaim := { program := "ytjagidpjdajpnaa", sum := "dcfee50782ba746f95697c5ee41415168ffd5e0bdfa1c6b97a6b9a781610128e", func := "loop.example/g00885/laws.FnExactMoneyTakePoint", spec := "fnExactMoneyTakePoint", apart := false, narrowed := true }
def FnExactMoneyTakePointUptoSaid : Prop := fnExactMoneyTakePointUptoRow.holds Try.pinned (OpenSpec.upto fnExactMoneyTakePointSpec)

/-- 'laws.FnMoneyPoints', WHERE WHAT IT READS IS OF BULK AT MOST 1048576: true; the input reads as it did. -/
def fnMoneyPointsUptoRow : OpenClaim := { program := "ytjagidpjdajpnaa", sum := "dcfee50782ba746f95697c5ee41415168ffd5e0bdfa1c6b97a6b9a781610128e", func := "loop.example/g00885/laws.FnMoneyPoints", spec := "fnMoneyPoints", apart := false, narrowed := true }
def FnMoneyPointsUptoSaid : Prop := fnMoneyPointsUptoRow.holds Try.pinned (OpenSpec.upto fnMoneyPointsSpec)

/-- 'laws.FnExactMixPoints', WHERE WHAT IT READS IS OF BULK AT MOST 1048576: true; the input reads as it did. -/
def fnExactMixPointsUptoRow : OpenClaim := { program := "ytjagidpjdajpnaa", sum := "dcfee50782ba746f95697c5ee41415168ffd5e0bdfa1c6b97a6b9a781610128e", func := "loop.example/g00885/laws.FnExactMixPoints", spec := "fnExactMixPoints", apart := false, narrowed := true }
def FnExactMixPointsUptoSaid : Prop := fnExactMixPointsUptoRow.holds Try.pinned (OpenSpec.upto fnExactMixPointsSpec)

/-- 'laws.FnExactTakePoint', WHERE WHAT IT READS IS OF BULK AT MOST 1048576: true; the input reads as it did. -/
def fnExactTakePointUptoRow : OpenClaim := { program := "ytjagidpjdajpnaa", sum := "dcfee50782ba746f95697c5ee41415168ffd5e0bdfa1c6b97a6b9a781610128e", func := "loop.example/g00885/laws.FnExactTakePoint", spec := "fnExactTakePoint", apart := false, narrowed := true }
def FnExactTakePointUptoSaid : Prop := fnExactTakePointUptoRow.holds Try.pinned (OpenSpec.upto fnExactTakePointSpec)

/-- 'laws.FnMixed', WHERE WHAT IT READS IS OF BULK AT MOST 1048576: true; the input reads as it did. -/
def fnMixedUptoRow : OpenClaim := { program := "ytjagidpjdajpnaa", sum := "dcfee50782ba746f95697c5ee41415168ffd5e0bdfa1c6b97a6b9a781610128e", func := "loop.example/g00885/laws.FnMixed", spec := "fnMixed", apart := false, narrowed := true }
def FnMixedUptoSaid : Prop := fnMixedUptoRow.holds Try.pinned (OpenSpec.upto fnMixedSpec)

/-- 'laws.FnTakePoint', WHERE WHAT IT READS IS OF BULK AT MOST 1048576: true; the input reads as it did. -/
def fnTakePointUptoRow : OpenClaim := { program := "ytjagidpjdajpnaa", sum := "dcfee50782ba746f95697c5ee41415168ffd5e0bdfa1c6b97a6b9a781610128e", func := "loop.example/g00885/laws.FnTakePoint", spec := "fnTakePoint", apart := false, narrowed := true }
def FnTakePointUptoSaid : Prop := fnTakePointUptoRow.holds Try.pinned (OpenSpec.upto fnTakePointSpec)

end Rows
end Go.Proofs.Ytjagidpjdajpnaa
