/-
  No cell of these rows narrows 'for every input' (looked for: loops, veiled, ifaces, maps, wideKeys, modest, calm, conditions, laid).
  DERIVED. THE GIVEN ROWS OF THIS SEAT. 11 by the template 'for every input the law returns true; each argument reads behind the call as it read before'; 0 by the template 'total and deterministic' (their statements: YtkioliioakmepaaTotals.lean).
  GIVEN WITH THE SEED: the statements are not yours to turn. If you find one false, say at which input.
  Laid BY PROGRAM, IN A SANDBOX (cutbox-rows.mjs): the forced cells as the released guide's own fill.sh prints them over the translation 2243091e85825270… (all of the seat's roots in one cut). By AI agents, Wed Nov 11 2026. No macro, syntax, notation, axiom, sorry.
-/
import Derived.Test.YtkioliioakmepaaChecked
import GoSem.Claim
import GoSem.ClaimJoined
import GoSem.ClaimMapViews
import Derived.JoinedTies
import Derived.KernelRfl
namespace Go.Proofs.Ytkioliioakmepaa
/- THE CELL 'sum', in the pinned program and in every row, IS THE sha256 OF THE DUMP (.gsa) THAT YtkioliioakmepaaProg.lean LOADS. Nothing in Lean hashes anything: it is a label: what it is worth is what the hold of that sum in a sandbox is worth. -/
noncomputable def Try.pinned : Pinned := { name := "ytkioliioakmepaa", sum := "2243091e85825270d7999ca32e0f5fe38250e133196658a33715752516e75863", checked := Try.checked }
namespace Rows
def none {H : Type} : Left H := { results := [], args := [] }

/-- 'laws.FnWindow': WHATEVER THE INPUT: true; the input reads as it did. -/
def fnWindowSpec : ChangeSpec := { name := "fnWindow", fn := fun _ => fun
  | [d] => { results := [.lit (.bool true)], args := [d] }
  | _ => none }
def fnWindowRow : OpenClaim := { program := "ytkioliioakmepaa", sum := "2243091e85825270d7999ca32e0f5fe38250e133196658a33715752516e75863", func := "loop.example/g00885/laws.FnWindow", spec := "fnWindow", recurses := true, plainKeys := false, apart := false }
def FnWindowSaid : Prop := fnWindowRow.holds Try.pinned (OpenSpec.ofChange fnWindowSpec)

/-- ITS FALSE NEIGHBOUR: 'it returns false'. Refute it at one input. -/
def fnWindowWrong : ChangeSpec := { name := "fnWindow", fn := fun _ => fun
  | [d] => { results := [.lit (.bool false)], args := [d] }
  | _ => none }
def FnWindowWrongFalsely : Prop := fnWindowRow.holds Try.pinned (OpenSpec.ofChange fnWindowWrong)

/-- 'laws.FnExactMatchChance': WHATEVER THE INPUT: true; the input reads as it did. -/
def fnExactMatchChanceSpec : ChangeSpec := { name := "fnExactMatchChance", fn := fun _ => fun
  | [d1, d2, d3, d4] => { results := [.lit (.bool true)], args := [d1, d2, d3, d4] }
  | _ => none }
def fnExactMatchChanceRow : OpenClaim := { program := "ytkioliioakmepaa", sum := "2243091e85825270d7999ca32e0f5fe38250e133196658a33715752516e75863", func := "loop.example/g00885/laws.FnExactMatchChance", spec := "fnExactMatchChance", recurses := true, plainKeys := false, apart := false }
def FnExactMatchChanceSaid : Prop := fnExactMatchChanceRow.holds Try.pinned (OpenSpec.ofChange fnExactMatchChanceSpec)

/-- ITS FALSE NEIGHBOUR: 'it returns false'. Refute it at one input. -/
def fnExactMatchChanceWrong : ChangeSpec := { name := "fnExactMatchChance", fn := fun _ => fun
  | [d1, d2, d3, d4] => { results := [.lit (.bool false)], args := [d1, d2, d3, d4] }
  | _ => none }
def FnExactMatchChanceWrongFalsely : Prop := fnExactMatchChanceRow.holds Try.pinned (OpenSpec.ofChange fnExactMatchChanceWrong)

/-- 'laws.FnMatchRecursion': WHATEVER THE INPUT: true; the input reads as it did. -/
def fnMatchRecursionSpec : ChangeSpec := { name := "fnMatchRecursion", fn := fun _ => fun
  | [d] => { results := [.lit (.bool true)], args := [d] }
  | _ => none }
def fnMatchRecursionRow : OpenClaim := { program := "ytkioliioakmepaa", sum := "2243091e85825270d7999ca32e0f5fe38250e133196658a33715752516e75863", func := "loop.example/g00885/laws.FnMatchRecursion", spec := "fnMatchRecursion", recurses := true, plainKeys := false, apart := false }
def FnMatchRecursionSaid : Prop := fnMatchRecursionRow.holds Try.pinned (OpenSpec.ofChange fnMatchRecursionSpec)

/-- ITS FALSE NEIGHBOUR: 'it returns false'. Refute it at one input. -/
def fnMatchRecursionWrong : ChangeSpec := { name := "fnMatchRecursion", fn := fun _ => fun
  | [d] => { results := [.lit (.bool false)], args := [d] }
  | _ => none }
def FnMatchRecursionWrongFalsely : Prop := fnMatchRecursionRow.holds Try.pinned (OpenSpec.ofChange fnMatchRecursionWrong)

/-- 'laws.FnExactAfterPoints': WHATEVER THE INPUT: true; the input reads as it did. -/
def fnExactAfterPointsSpec : ChangeSpec := { name := "fnExactAfterPoints", fn := fun _ => fun
  | [d1, d2, d3, d4, d5] => { results := [.lit (.bool true)], args := [d1, d2, d3, d4, d5] }
  | _ => none }
def fnExactAfterPointsRow : OpenClaim := { program := "ytkioliioakmepaa", sum := "2243091e85825270d7999ca32e0f5fe38250e133196658a33715752516e75863", func := "loop.example/g00885/laws.FnExactAfterPoints", spec := "fnExactAfterPoints", recurses := true, plainKeys := false, apart := false }
def FnExactAfterPointsSaid : Prop := fnExactAfterPointsRow.holds Try.pinned (OpenSpec.ofChange fnExactAfterPointsSpec)

/-- ITS FALSE NEIGHBOUR: 'it returns false'. Refute it at one input. -/
def fnExactAfterPointsWrong : ChangeSpec := { name := "fnExactAfterPoints", fn := fun _ => fun
  | [d1, d2, d3, d4, d5] => { results := [.lit (.bool false)], args := [d1, d2, d3, d4, d5] }
  | _ => none }
def FnExactAfterPointsWrongFalsely : Prop := fnExactAfterPointsRow.holds Try.pinned (OpenSpec.ofChange fnExactAfterPointsWrong)

/-- 'laws.FnMatchSum': WHATEVER THE INPUT: true; the input reads as it did. -/
def fnMatchSumSpec : ChangeSpec := { name := "fnMatchSum", fn := fun _ => fun
  | [d] => { results := [.lit (.bool true)], args := [d] }
  | _ => none }
def fnMatchSumRow : OpenClaim := { program := "ytkioliioakmepaa", sum := "2243091e85825270d7999ca32e0f5fe38250e133196658a33715752516e75863", func := "loop.example/g00885/laws.FnMatchSum", spec := "fnMatchSum", recurses := true, plainKeys := false, apart := false }
def FnMatchSumSaid : Prop := fnMatchSumRow.holds Try.pinned (OpenSpec.ofChange fnMatchSumSpec)

/-- ITS FALSE NEIGHBOUR: 'it returns false'. Refute it at one input. -/
def fnMatchSumWrong : ChangeSpec := { name := "fnMatchSum", fn := fun _ => fun
  | [d] => { results := [.lit (.bool false)], args := [d] }
  | _ => none }
def FnMatchSumWrongFalsely : Prop := fnMatchSumRow.holds Try.pinned (OpenSpec.ofChange fnMatchSumWrong)

/-- 'laws.FnExactMatchTable': WHATEVER THE INPUT: true; the input reads as it did. -/
def fnExactMatchTableSpec : ChangeSpec := { name := "fnExactMatchTable", fn := fun _ => fun
  | [d1, d2] => { results := [.lit (.bool true)], args := [d1, d2] }
  | _ => none }
def fnExactMatchTableRow : OpenClaim := { program := "ytkioliioakmepaa", sum := "2243091e85825270d7999ca32e0f5fe38250e133196658a33715752516e75863", func := "loop.example/g00885/laws.FnExactMatchTable", spec := "fnExactMatchTable", recurses := true, plainKeys := false, apart := false }
def FnExactMatchTableSaid : Prop := fnExactMatchTableRow.holds Try.pinned (OpenSpec.ofChange fnExactMatchTableSpec)

/-- ITS FALSE NEIGHBOUR: 'it returns false'. Refute it at one input. -/
def fnExactMatchTableWrong : ChangeSpec := { name := "fnExactMatchTable", fn := fun _ => fun
  | [d1, d2] => { results := [.lit (.bool false)], args := [d1, d2] }
  | _ => none }
def FnExactMatchTableWrongFalsely : Prop := fnExactMatchTableRow.holds Try.pinned (OpenSpec.ofChange fnExactMatchTableWrong)

/-- 'laws.FnDoublePoints': WHATEVER THE INPUT: true; the input reads as it did. -/
def fnDoublePointsSpec : ChangeSpec := { name := "fnDoublePoints", fn := fun _ => fun
  | [d] => { results := [.lit (.bool true)], args := [d] }
  | _ => none }
def fnDoublePointsRow : OpenClaim := { program := "ytkioliioakmepaa", sum := "2243091e85825270d7999ca32e0f5fe38250e133196658a33715752516e75863", func := "loop.example/g00885/laws.FnDoublePoints", spec := "fnDoublePoints", recurses := true, plainKeys := false, apart := false }
def FnDoublePointsSaid : Prop := fnDoublePointsRow.holds Try.pinned (OpenSpec.ofChange fnDoublePointsSpec)

/-- ITS FALSE NEIGHBOUR: 'it returns false'. Refute it at one input. -/
def fnDoublePointsWrong : ChangeSpec := { name := "fnDoublePoints", fn := fun _ => fun
  | [d] => { results := [.lit (.bool false)], args := [d] }
  | _ => none }
def FnDoublePointsWrongFalsely : Prop := fnDoublePointsRow.holds Try.pinned (OpenSpec.ofChange fnDoublePointsWrong)

/-- 'laws.FnExactGammonValue': WHATEVER THE INPUT: true; the input reads as it did. -/
def fnExactGammonValueSpec : ChangeSpec := { name := "fnExactGammonValue", fn := fun _ => fun
  | [d1, d2, d3, d4, d5] => { results := [.lit (.bool true)], args := [d1, d2, d3, d4, d5] }
  | _ => none }
def fnExactGammonValueRow : OpenClaim := { program := "ytkioliioakmepaa", sum := "2243091e85825270d7999ca32e0f5fe38250e133196658a33715752516e75863", func := "loop.example/g00885/laws.FnExactGammonValue", spec := "fnExactGammonValue", recurses := true, plainKeys := false, apart := false }
def FnExactGammonValueSaid : Prop := fnExactGammonValueRow.holds Try.pinned (OpenSpec.ofChange fnExactGammonValueSpec)

/-- ITS FALSE NEIGHBOUR: 'it returns false'. Refute it at one input. -/
def fnExactGammonValueWrong : ChangeSpec := { name := "fnExactGammonValue", fn := fun _ => fun
  | [d1, d2, d3, d4, d5] => { results := [.lit (.bool false)], args := [d1, d2, d3, d4, d5] }
  | _ => none }
def FnExactGammonValueWrongFalsely : Prop := fnExactGammonValueRow.holds Try.pinned (OpenSpec.ofChange fnExactGammonValueWrong)

/-- 'laws.FnExactMatchDoublePoint': WHATEVER THE INPUT: true; the input reads as it did. -/
def fnExactMatchDoublePointSpec : ChangeSpec := { name := "fnExactMatchDoublePoint", fn := fun _ => fun
  | [d1, d2, d3, d4, d5] => { results := [.lit (.bool true)], args := [d1, d2, d3, d4, d5] }
  | _ => none }
def fnExactMatchDoublePointRow : OpenClaim := { program := "ytkioliioakmepaa", sum := "2243091e85825270d7999ca32e0f5fe38250e133196658a33715752516e75863", func := "loop.example/g00885/laws.FnExactMatchDoublePoint", spec := "fnExactMatchDoublePoint", recurses := true, plainKeys := false, apart := false }
def FnExactMatchDoublePointSaid : Prop := fnExactMatchDoublePointRow.holds Try.pinned (OpenSpec.ofChange fnExactMatchDoublePointSpec)

/-- ITS FALSE NEIGHBOUR: 'it returns false'. Refute it at one input. -/
def fnExactMatchDoublePointWrong : ChangeSpec := { name := "fnExactMatchDoublePoint", fn := fun _ => fun
  | [d1, d2, d3, d4, d5] => { results := [.lit (.bool false)], args := [d1, d2, d3, d4, d5] }
  | _ => none }
def FnExactMatchDoublePointWrongFalsely : Prop := fnExactMatchDoublePointRow.holds Try.pinned (OpenSpec.ofChange fnExactMatchDoublePointWrong)

/-- 'laws.FnExactMatchTakePoint': WHATEVER THE INPUT: true; the input reads as it did. -/
def fnExactMatchTakePointSpec : ChangeSpec := { name := "fnExactMatchTakePoint", fn := fun _ => fun
  | [d1, d2, d3, d4, d5] => { results := [.lit (.bool true)], args := [d1, d2, d3, d4, d5] }
  | _ => none }
def fnExactMatchTakePointRow : OpenClaim := { program := "ytkioliioakmepaa", sum := "2243091e85825270d7999ca32e0f5fe38250e133196658a33715752516e75863", func := "loop.example/g00885/laws.FnExactMatchTakePoint", spec := "fnExactMatchTakePoint", recurses := true, plainKeys := false, apart := false }
def FnExactMatchTakePointSaid : Prop := fnExactMatchTakePointRow.holds Try.pinned (OpenSpec.ofChange fnExactMatchTakePointSpec)

/-- ITS FALSE NEIGHBOUR: 'it returns false'. Refute it at one input. -/
def fnExactMatchTakePointWrong : ChangeSpec := { name := "fnExactMatchTakePoint", fn := fun _ => fun
  | [d1, d2, d3, d4, d5] => { results := [.lit (.bool false)], args := [d1, d2, d3, d4, d5] }
  | _ => none }
def FnExactMatchTakePointWrongFalsely : Prop := fnExactMatchTakePointRow.holds Try.pinned (OpenSpec.ofChange fnExactMatchTakePointWrong)

/-- 'laws.FnExactDoublingWindow': WHATEVER THE INPUT: true; the input reads as it did. -/
def fnExactDoublingWindowSpec : ChangeSpec := { name := "fnExactDoublingWindow", fn := fun _ => fun
  | [d1, d2, d3, d4, d5] => { results := [.lit (.bool true)], args := [d1, d2, d3, d4, d5] }
  | _ => none }
def fnExactDoublingWindowRow : OpenClaim := { program := "ytkioliioakmepaa", sum := "2243091e85825270d7999ca32e0f5fe38250e133196658a33715752516e75863", func := "loop.example/g00885/laws.FnExactDoublingWindow", spec := "fnExactDoublingWindow", recurses := true, plainKeys := false, apart := false }
def FnExactDoublingWindowSaid : Prop := fnExactDoublingWindowRow.holds Try.pinned (OpenSpec.ofChange fnExactDoublingWindowSpec)

/-- ITS FALSE NEIGHBOUR: 'it returns false'. Refute it at one input. -/
def fnExactDoublingWindowWrong : ChangeSpec := { name := "fnExactDoublingWindow", fn := fun _ => fun
  | [d1, d2, d3, d4, d5] => { results := [.lit (.bool false)], args := [d1, d2, d3, d4, d5] }
  | _ => none }
def FnExactDoublingWindowWrongFalsely : Prop := fnExactDoublingWindowRow.holds Try.pinned (OpenSpec.ofChange fnExactDoublingWindowWrong)

/- THE SECOND FORM. 'bulk': how many values and letters a reading holds, each counted each time it is reached (what is shared counts as often as it is met; a slice's spare places count too). A statement '..UptoSaid' is the law's where the arguments, and the package variables that the reading takes, are together of bulk at most 1048576: NARROWER than '..Said'. Prove '..Said' where nothing that the law and all that it calls make is longer than what came in: it says more and counts as full. Else prove '..UptoSaid'. A law counts once. -/
mutual
def uptoBulk {H : Type} : DataW H → Nat
  | .lit (.string bytes) => bytes.length + 1
  | .lit _ => 1
  | .nil => 1
  | .ptr d => uptoBulk d + 1
  | .slice elems spare => uptoBulkAll elems + uptoBulkAll spare + 1
  | .agg parts => uptoBulkAll parts + 1
  | .iface _ d => uptoBulk d + 1
  | .map entries => uptoBulkEntries entries + 1
  | .held _ => 1
def uptoBulkAll {H : Type} : List (DataW H) → Nat
  | [] => 0
  | d :: r => uptoBulk d + uptoBulkAll r
def uptoBulkEntries {H : Type} : List (Lit × DataW H) → Nat
  | [] => 0
  | x :: r => uptoBulkEntry x + uptoBulkEntries r
def uptoBulkEntry {H : Type} : Lit × DataW H → Nat
  | (.string bytes, d) => bytes.length + uptoBulk d + 1
  | (_, d) => uptoBulk d + 1
 end
def uptoSmall : (H : Type) → List (DataW H) → Bool := fun _ ds => decide (uptoBulkAll ds ≤ 1048576)
def OpenSpec.upto (s : _root_.Go.ChangeSpec) : _root_.Go.OpenSpec := { _root_.Go.OpenSpec.ofChange s with cond := some uptoSmall }

/-- 'laws.FnWindow', WHERE WHAT IT READS IS OF BULK AT MOST 1048576: true; the input reads as it did. -/
def fnWindowUptoRow : OpenClaim := { program := "ytkioliioakmepaa", sum := "2243091e85825270d7999ca32e0f5fe38250e133196658a33715752516e75863", func := "loop.example/g00885/laws.FnWindow", spec := "fnWindow", recurses := true, plainKeys := false, apart := false, narrowed := true }
def FnWindowUptoSaid : Prop := fnWindowUptoRow.holds Try.pinned (OpenSpec.upto fnWindowSpec)

/-- 'laws.FnExactMatchChance', WHERE WHAT IT READS IS OF BULK AT MOST 1048576: true; the input reads as it did. -/
def fnExactMatchChanceUptoRow : OpenClaim := { program := "ytkioliioakmepaa", sum := "2243091e85825270d7999ca32e0f5fe38250e133196658a33715752516e75863", func := "loop.example/g00885/laws.FnExactMatchChance", spec := "fnExactMatchChance", recurses := true, plainKeys := false, apart := false, narrowed := true }
def FnExactMatchChanceUptoSaid : Prop := fnExactMatchChanceUptoRow.holds Try.pinned (OpenSpec.upto fnExactMatchChanceSpec)

/-- 'laws.FnMatchRecursion', WHERE WHAT IT READS IS OF BULK AT MOST 1048576: true; the input reads as it did. -/
def fnMatchRecursionUptoRow : OpenClaim := { program := "ytkioliioakmepaa", sum := "2243091e85825270d7999ca32e0f5fe38250e133196658a33715752516e75863", func := "loop.example/g00885/laws.FnMatchRecursion", spec := "fnMatchRecursion", recurses := true, plainKeys := false, apart := false, narrowed := true }
def FnMatchRecursionUptoSaid : Prop := fnMatchRecursionUptoRow.holds Try.pinned (OpenSpec.upto fnMatchRecursionSpec)

/-- 'laws.FnExactAfterPoints', WHERE WHAT IT READS IS OF BULK AT MOST 1048576: true; the input reads as it did. -/
def fnExactAfterPointsUptoRow : OpenClaim := { program := "ytkioliioakmepaa", sum := "2243091e85825270d7999ca32e0f5fe38250e133196658a33715752516e75863", func := "loop.example/g00885/laws.FnExactAfterPoints", spec := "fnExactAfterPoints", recurses := true, plainKeys := false, apart := false, narrowed := true }
def FnExactAfterPointsUptoSaid : Prop := fnExactAfterPointsUptoRow.holds Try.pinned (OpenSpec.upto fnExactAfterPointsSpec)

/-- 'laws.FnMatchSum', WHERE WHAT IT READS IS OF BULK AT MOST 1048576: true; the input reads as it did. -/
def fnMatchSumUptoRow : OpenClaim := { program := "ytkioliioakmepaa", sum := "2243091e85825270d7999ca32e0f5fe38250e133196658a33715752516e75863", func := "loop.example/g00885/laws.FnMatchSum", spec := "fnMatchSum", recurses := true, plainKeys := false, apart := false, narrowed := true }
def FnMatchSumUptoSaid : Prop := fnMatchSumUptoRow.holds Try.pinned (OpenSpec.upto fnMatchSumSpec)

/-- 'laws.FnExactMatchTable', WHERE WHAT IT READS IS OF BULK AT MOST 1048576: true; the input reads as it did. -/
def fnExactMatchTableUptoRow : OpenClaim := { program := "ytkioliioakmepaa", sum := "2243091e85825270d7999ca32e0f5fe38250e133196658a33715752516e75863", func := "loop.example/g00885/laws.FnExactMatchTable", spec := "fnExactMatchTable", recurses := true, plainKeys := false, apart := false, narrowed := true }
def FnExactMatchTableUptoSaid : Prop := fnExactMatchTableUptoRow.holds Try.pinned (OpenSpec.upto fnExactMatchTableSpec)

/-- 'laws.FnDoublePoints', WHERE WHAT IT READS IS OF BULK AT MOST 1048576: true; the input reads as it did. -/
def fnDoublePointsUptoRow : OpenClaim := { program := "ytkioliioakmepaa", sum := "2243091e85825270d7999ca32e0f5fe38250e133196658a33715752516e75863", func := "loop.example/g00885/laws.FnDoublePoints", spec := "fnDoublePoints", recurses := true, plainKeys := false, apart := false, narrowed := true }
def FnDoublePointsUptoSaid : Prop := fnDoublePointsUptoRow.holds Try.pinned (OpenSpec.upto fnDoublePointsSpec)

/-- 'laws.FnExactGammonValue', WHERE WHAT IT READS IS OF BULK AT MOST 1048576: true; the input reads as it did. -/
def fnExactGammonValueUptoRow : OpenClaim := { program := "ytkioliioakmepaa", sum := "2243091e85825270d7999ca32e0f5fe38250e133196658a33715752516e75863", func := "loop.example/g00885/laws.FnExactGammonValue", spec := "fnExactGammonValue", recurses := true, plainKeys := false, apart := false, narrowed := true }
def FnExactGammonValueUptoSaid : Prop := fnExactGammonValueUptoRow.holds Try.pinned (OpenSpec.upto fnExactGammonValueSpec)

/-- 'laws.FnExactMatchDoublePoint', WHERE WHAT IT READS IS OF BULK AT MOST 1048576: true; the input reads as it did. -/
def fnExactMatchDoublePointUptoRow : OpenClaim := { program := "ytkioliioakmepaa", sum := "2243091e85825270d7999ca32e0f5fe38250e133196658a33715752516e75863", func := "loop.example/g00885/laws.FnExactMatchDoublePoint", spec := "fnExactMatchDoublePoint", recurses := true, plainKeys := false, apart := false, narrowed := true }
def FnExactMatchDoublePointUptoSaid : Prop := fnExactMatchDoublePointUptoRow.holds Try.pinned (OpenSpec.upto fnExactMatchDoublePointSpec)

/-- 'laws.FnExactMatchTakePoint', WHERE WHAT IT READS IS OF BULK AT MOST 1048576: true; the input reads as it did. -/
def fnExactMatchTakePointUptoRow : OpenClaim := { program := "ytkioliioakmepaa", sum := "2243091e85825270d7999ca32e0f5fe38250e133196658a33715752516e75863", func := "loop.example/g00885/laws.FnExactMatchTakePoint", spec := "fnExactMatchTakePoint", recurses := true, plainKeys := false, apart := false, narrowed := true }
def FnExactMatchTakePointUptoSaid : Prop := fnExactMatchTakePointUptoRow.holds Try.pinned (OpenSpec.upto fnExactMatchTakePointSpec)

/-- 'laws.FnExactDoublingWindow', WHERE WHAT IT READS IS OF BULK AT MOST 1048576: true; the input reads as it did. -/
def fnExactDoublingWindowUptoRow : OpenClaim := { program := "ytkioliioakmepaa", sum := "2243091e85825270d7999ca32e0f5fe38250e133196658a33715752516e75863", func := "loop.example/g00885/laws.FnExactDoublingWindow", spec := "fnExactDoublingWindow", recurses := true, plainKeys := false, apart := false, narrowed := true }
def FnExactDoublingWindowUptoSaid : Prop := fnExactDoublingWindowUptoRow.holds Try.pinned (OpenSpec.upto fnExactDoublingWindowSpec)

end Rows
end Go.Proofs.Ytkioliioakmepaa
