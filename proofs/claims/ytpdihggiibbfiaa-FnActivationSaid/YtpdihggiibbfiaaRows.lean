/-
  No cell of these rows narrows 'for every input' (looked for: loops, veiled, ifaces, maps, wideKeys, modest, calm, conditions, laid).
  DERIVED. THE GIVEN ROWS OF THIS SEAT. 6 by the template 'for every input the law returns true; each argument reads behind the call as it read before'; 0 by the template 'total and deterministic' (their statements: YtpdihggiibbfiaaTotals.lean).
  GIVEN WITH THE SEED: the statements are not yours to turn. If you find one false, say at which input.
  Laid BY PROGRAM, IN A SANDBOX (cutbox-rows.mjs): the forced cells as the released guide's own fill.sh prints them over the translation 433de1c410738b2e… (all of the seat's roots in one cut). By AI agents, Wed Nov 11 2026. No macro, syntax, notation, axiom, sorry.
-/
import Derived.Test.YtpdihggiibbfiaaChecked
import GoSem.Claim
import GoSem.ClaimJoined
import GoSem.ClaimMapViews
import Derived.JoinedTies
import Derived.KernelRfl
namespace Go.Proofs.Ytpdihggiibbfiaa
/- THE CELL 'sum', in the pinned program and in every row, IS THE sha256 OF THE DUMP (.gsa) THAT YtpdihggiibbfiaaProg.lean LOADS. Nothing in Lean hashes anything: it is a label: what it is worth is what the hold of that sum in a sandbox is worth. -/
noncomputable def Try.pinned : Pinned := { name := "ytpdihggiibbfiaa", sum := "433de1c410738b2e00b246f6c1014aead6307c176fd2bfbd7061a8202478fcff", checked := Try.checked }
namespace Rows
def none {H : Type} : Left H := { results := [], args := [] }

/-- 'laws.FnExactIsDeadCube': WHATEVER THE INPUT: true; the input reads as it did. -/
def fnExactIsDeadCubeSpec : ChangeSpec := { name := "fnExactIsDeadCube", fn := fun _ => fun
  | [d1, d2] => { results := [.lit (.bool true)], args := [d1, d2] }
  | _ => none }
def fnExactIsDeadCubeRow : OpenClaim := { program := "ytpdihggiibbfiaa", sum := "433de1c410738b2e00b246f6c1014aead6307c176fd2bfbd7061a8202478fcff", func := "loop.example/g00885/laws.FnExactIsDeadCube", spec := "fnExactIsDeadCube", apart := false }
def FnExactIsDeadCubeSaid : Prop := fnExactIsDeadCubeRow.holds Try.pinned (OpenSpec.ofChange fnExactIsDeadCubeSpec)

/-- ITS FALSE NEIGHBOUR: 'it returns false'. Refute it at one input. -/
def fnExactIsDeadCubeWrong : ChangeSpec := { name := "fnExactIsDeadCube", fn := fun _ => fun
  | [d1, d2] => { results := [.lit (.bool false)], args := [d1, d2] }
  | _ => none }
def FnExactIsDeadCubeWrongFalsely : Prop := fnExactIsDeadCubeRow.holds Try.pinned (OpenSpec.ofChange fnExactIsDeadCubeWrong)

/-- 'laws.FnExactFeatureName': WHATEVER THE INPUT: true; the input reads as it did. -/
def fnExactFeatureNameSpec : ChangeSpec := { name := "fnExactFeatureName", fn := fun _ => fun
  | [d] => { results := [.lit (.bool true)], args := [d] }
  | _ => none }
def fnExactFeatureNameRow : OpenClaim := { program := "ytpdihggiibbfiaa", sum := "433de1c410738b2e00b246f6c1014aead6307c176fd2bfbd7061a8202478fcff", func := "loop.example/g00885/laws.FnExactFeatureName", spec := "fnExactFeatureName", apart := false }
def FnExactFeatureNameSaid : Prop := fnExactFeatureNameRow.holds Try.pinned (OpenSpec.ofChange fnExactFeatureNameSpec)

/-- ITS FALSE NEIGHBOUR: 'it returns false'. Refute it at one input. -/
def fnExactFeatureNameWrong : ChangeSpec := { name := "fnExactFeatureName", fn := fun _ => fun
  | [d] => { results := [.lit (.bool false)], args := [d] }
  | _ => none }
def FnExactFeatureNameWrongFalsely : Prop := fnExactFeatureNameRow.holds Try.pinned (OpenSpec.ofChange fnExactFeatureNameWrong)

/-- 'laws.FnExactActivation': WHATEVER THE INPUT: true; the input reads as it did. -/
def fnExactActivationSpec : ChangeSpec := { name := "fnExactActivation", fn := fun _ => fun
  | [d] => { results := [.lit (.bool true)], args := [d] }
  | _ => none }
def fnExactActivationRow : OpenClaim := { program := "ytpdihggiibbfiaa", sum := "433de1c410738b2e00b246f6c1014aead6307c176fd2bfbd7061a8202478fcff", func := "loop.example/g00885/laws.FnExactActivation", spec := "fnExactActivation", apart := false }
def FnExactActivationSaid : Prop := fnExactActivationRow.holds Try.pinned (OpenSpec.ofChange fnExactActivationSpec)

/-- ITS FALSE NEIGHBOUR: 'it returns false'. Refute it at one input. -/
def fnExactActivationWrong : ChangeSpec := { name := "fnExactActivation", fn := fun _ => fun
  | [d] => { results := [.lit (.bool false)], args := [d] }
  | _ => none }
def FnExactActivationWrongFalsely : Prop := fnExactActivationRow.holds Try.pinned (OpenSpec.ofChange fnExactActivationWrong)

/-- 'laws.FnExactFeatureLimit': WHATEVER THE INPUT: true; the input reads as it did. -/
def fnExactFeatureLimitSpec : ChangeSpec := { name := "fnExactFeatureLimit", fn := fun _ => fun
  | [d1, d2] => { results := [.lit (.bool true)], args := [d1, d2] }
  | _ => none }
def fnExactFeatureLimitRow : OpenClaim := { program := "ytpdihggiibbfiaa", sum := "433de1c410738b2e00b246f6c1014aead6307c176fd2bfbd7061a8202478fcff", func := "loop.example/g00885/laws.FnExactFeatureLimit", spec := "fnExactFeatureLimit", apart := false }
def FnExactFeatureLimitSaid : Prop := fnExactFeatureLimitRow.holds Try.pinned (OpenSpec.ofChange fnExactFeatureLimitSpec)

/-- ITS FALSE NEIGHBOUR: 'it returns false'. Refute it at one input. -/
def fnExactFeatureLimitWrong : ChangeSpec := { name := "fnExactFeatureLimit", fn := fun _ => fun
  | [d1, d2] => { results := [.lit (.bool false)], args := [d1, d2] }
  | _ => none }
def FnExactFeatureLimitWrongFalsely : Prop := fnExactFeatureLimitRow.holds Try.pinned (OpenSpec.ofChange fnExactFeatureLimitWrong)

/-- 'laws.FnExactIsBalances': WHATEVER THE INPUT: true; the input reads as it did. -/
def fnExactIsBalancesSpec : ChangeSpec := { name := "fnExactIsBalances", fn := fun _ => fun
  | [d] => { results := [.lit (.bool true)], args := [d] }
  | _ => none }
def fnExactIsBalancesRow : OpenClaim := { program := "ytpdihggiibbfiaa", sum := "433de1c410738b2e00b246f6c1014aead6307c176fd2bfbd7061a8202478fcff", func := "loop.example/g00885/laws.FnExactIsBalances", spec := "fnExactIsBalances", apart := false }
def FnExactIsBalancesSaid : Prop := fnExactIsBalancesRow.holds Try.pinned (OpenSpec.ofChange fnExactIsBalancesSpec)

/-- ITS FALSE NEIGHBOUR: 'it returns false'. Refute it at one input. -/
def fnExactIsBalancesWrong : ChangeSpec := { name := "fnExactIsBalances", fn := fun _ => fun
  | [d] => { results := [.lit (.bool false)], args := [d] }
  | _ => none }
def FnExactIsBalancesWrongFalsely : Prop := fnExactIsBalancesRow.holds Try.pinned (OpenSpec.ofChange fnExactIsBalancesWrong)

/-- 'laws.FnActivation': WHATEVER THE INPUT: true; the input reads as it did. -/
def fnActivationSpec : ChangeSpec := { name := "fnActivation", fn := fun _ => fun
  | [d] => { results := [.lit (.bool true)], args := [d] }
  | _ => none }
def fnActivationRow : OpenClaim := { program := "ytpdihggiibbfiaa", sum := "433de1c410738b2e00b246f6c1014aead6307c176fd2bfbd7061a8202478fcff", func := "loop.example/g00885/laws.FnActivation", spec := "fnActivation", apart := false }
def FnActivationSaid : Prop := fnActivationRow.holds Try.pinned (OpenSpec.ofChange fnActivationSpec)

/-- ITS FALSE NEIGHBOUR: 'it returns false'. Refute it at one input. -/
def fnActivationWrong : ChangeSpec := { name := "fnActivation", fn := fun _ => fun
  | [d] => { results := [.lit (.bool false)], args := [d] }
  | _ => none }
def FnActivationWrongFalsely : Prop := fnActivationRow.holds Try.pinned (OpenSpec.ofChange fnActivationWrong)

/- THE SECOND FORM. 'bulk': how many values and letters a reading holds, each counted each time it is reached (what is shared counts as often as it is met; a slice's spare places count too). A statement '..UptoSaid' is the law's where the arguments, and the package variables that the reading takes, are together of bulk at most 1048576: NARROWER than '..Said'. Prove '..Said' where nothing that the law and all that it calls make is longer than what came in: it says more and counts as full. Else prove '..UptoSaid'. A law counts once. -/
mutual
def uptoBulk {H : Type} : DataW H → Nat
  | .lit (.string bytes) => bytes.length + 1
  | .lit _ => 1
  | .nil => 1
  | .ptr d => uptoBulk d + 1
  | .slice elems spare => uptoBulkAll elems + uptoBulkAll spare + 1
  | .agg parts => uptoBulkAll parts + 1
  | .iface _ d => uptoBulk d + 1
  | .map entries => uptoBulkEntries entries + 1
  | .held _ => 1
def uptoBulkAll {H : Type} : List (DataW H) → Nat
  | [] => 0
  | d :: r => uptoBulk d + uptoBulkAll r
def uptoBulkEntries {H : Type} : List (Lit × DataW H) → Nat
  | [] => 0
  | x :: r => uptoBulkEntry x + uptoBulkEntries r
def uptoBulkEntry {H : Type} : Lit × DataW H → Nat
  | (.string bytes, d) => bytes.length + uptoBulk d + 1
  | (_, d) => uptoBulk d + 1
 end
def uptoSmall : (H : Type) → List (DataW H) → Bool := fun _ ds => decide (uptoBulkAll ds ≤ 1048576)
def OpenSpec.upto (s : _root_.Go.ChangeSpec) : _root_.Go.OpenSpec := { _root_.Go.OpenSpec.ofChange s with cond := some uptoSmall }

/-- 'laws.FnExactIsDeadCube', WHERE WHAT IT READS IS OF BULK AT MOST 1048576: true; the input reads as it did. -/
def fnExactIsDeadCubeUptoRow : OpenClaim := { program := "ytpdihggiibbfiaa", sum := "433de1c410738b2e00b246f6c1014aead6307c176fd2bfbd7061a8202478fcff", func := "loop.example/g00885/laws.FnExactIsDeadCube", spec := "fnExactIsDeadCube", apart := false, narrowed := true }
def FnExactIsDeadCubeUptoSaid : Prop := fnExactIsDeadCubeUptoRow.holds Try.pinned (OpenSpec.upto fnExactIsDeadCubeSpec)

/-- 'laws.FnExactFeatureName', WHERE WHAT IT READS IS OF BULK AT MOST 1048576: true; the input reads as it did. -/
def fnExactFeatureNameUptoRow : OpenClaim := { program := "ytpdihggiibbfiaa", sum := "433de1c410738b2e00b246f6c1014aead6307c176fd2bfbd7061a8202478fcff", func := "loop.example/g00885/laws.FnExactFeatureName", spec := "fnExactFeatureName", apart := false, narrowed := true }
def FnExactFeatureNameUptoSaid : Prop := fnExactFeatureNameUptoRow.holds Try.pinned (OpenSpec.upto fnExactFeatureNameSpec)

/-- 'laws.FnExactActivation', WHERE WHAT IT READS IS OF BULK AT MOST 1048576: true; the input reads as it did. -/
def fnExactActivationUptoRow : OpenClaim := { program := "ytpdihggiibbfiaa", sum := "433de1c410738b2e00b246f6c1014aead6307c176fd2bfbd7061a8202478fcff", func := "loop.example/g00885/laws.FnExactActivation", spec := "fnExactActivation", apart := false, narrowed := true }
def FnExactActivationUptoSaid : Prop := fnExactActivationUptoRow.holds Try.pinned (OpenSpec.upto fnExactActivationSpec)

/-- 'laws.FnExactFeatureLimit', WHERE WHAT IT READS IS OF BULK AT MOST 1048576: true; the input reads as it did. -/
def fnExactFeatureLimitUptoRow : OpenClaim := { program := "ytpdihggiibbfiaa", sum := "433de1c410738b2e00b246f6c1014aead6307c176fd2bfbd7061a8202478fcff", func := "loop.example/g00885/laws.FnExactFeatureLimit", spec := "fnExactFeatureLimit", apart := false, narrowed := true }
def FnExactFeatureLimitUptoSaid : Prop := fnExactFeatureLimitUptoRow.holds Try.pinned (OpenSpec.upto fnExactFeatureLimitSpec)

/-- 'laws.FnExactIsBalances', WHERE WHAT IT READS IS OF BULK AT MOST 1048576: true; the input reads as it did. -/
def fnExactIsBalancesUptoRow : OpenClaim := { program := "ytpdihggiibbfiaa", sum := "433de1c410738b2e00b246f6c1014aead6307c176fd2bfbd7061a8202478fcff", func := "loop.example/g00885/laws.FnExactIsBalances", spec := "fnExactIsBalances", apart := false, narrowed := true }
def FnExactIsBalancesUptoSaid : Prop := fnExactIsBalancesUptoRow.holds Try.pinned (OpenSpec.upto fnExactIsBalancesSpec)

/-- 'laws.FnActivation', WHERE WHAT IT READS IS OF BULK AT MOST 1048576: true; the input reads as it did. -/
def fnActivationUptoRow : OpenClaim := { program := "ytpdihggiibbfiaa", sum := "433de1c410738b2e00b246f6c1014aead6307c176fd2bfbd7061a8202478fcff", func := "loop.example/g00885/laws.FnActivation", spec := "fnActivation", apart := false, narrowed := true }
def FnActivationUptoSaid : Prop := fnActivationUptoRow.holds Try.pinned (OpenSpec.upto fnActivationSpec)

end Rows
end Go.Proofs.Ytpdihggiibbfiaa
