/-
  No cell of these rows narrows 'for every input' (looked for: loops, veiled, ifaces, maps, wideKeys, modest, calm, conditions, laid).
  DERIVED. THE GIVEN ROWS OF THIS SEAT. 10 by the template 'for every input the law returns true; each argument reads behind the call as it read before'; 0 by the template 'total and deterministic' (their statements: YtoolggmomlmnbaaTotals.lean).
  GIVEN WITH THE SEED: the statements are not yours to turn. If you find one false, say at which input.
  Laid BY PROGRAM, IN A SANDBOX (cutbox-rows.mjs): the forced cells as the released guide's own fill.sh prints them over the translation 48dd49eb67109ca8… (all of the seat's roots in one cut). By AI agents, Wed Nov 11 2026. No macro, syntax, notation, axiom, sorry.
-/
import Derived.Test.YtoolggmomlmnbaaChecked
import GoSem.Claim
import GoSem.ClaimJoined
import GoSem.ClaimMapViews
import Derived.JoinedTies
import Derived.KernelRfl
namespace Go.Proofs.Ytoolggmomlmnbaa
/- THE CELL 'sum', in the pinned program and in every row, IS THE sha256 OF THE DUMP (.gsa) THAT YtoolggmomlmnbaaProg.lean LOADS. Nothing in Lean hashes anything: it is a label: what it is worth is what the hold of that sum in a sandbox is worth. -/
noncomputable def Try.pinned : Pinned := { name := "ytoolggmomlmnbaa", sum := "48dd49eb67109ca8da6782ba78ea4bf693a8bdb1eecd9c54b97e85b8244b53d2", checked := Try.checked }
namespace Rows
def none {H : Type} : Left H := { results := [], args := [] }

/-- 'laws.FnExactLongestPrime': WHATEVER THE INPUT: true; the input reads as it did. -/
def fnExactLongestPrimeSpec : ChangeSpec := { name := "fnExactLongestPrime", fn := fun _ => fun
  | [d1, d2] => { results := [.lit (.bool true)], args := [d1, d2] }
  | _ => none }
def fnExactLongestPrimeRow : OpenClaim := { program := "ytoolggmomlmnbaa", sum := "48dd49eb67109ca8da6782ba78ea4bf693a8bdb1eecd9c54b97e85b8244b53d2", func := "loop.example/g00885/laws.FnExactLongestPrime", spec := "fnExactLongestPrime", apart := false }
def FnExactLongestPrimeSaid : Prop := fnExactLongestPrimeRow.holds Try.pinned (OpenSpec.ofChange fnExactLongestPrimeSpec)

/-- ITS FALSE NEIGHBOUR: 'it returns false'. Refute it at one input. -/
def fnExactLongestPrimeWrong : ChangeSpec := { name := "fnExactLongestPrime", fn := fun _ => fun
  | [d1, d2] => { results := [.lit (.bool false)], args := [d1, d2] }
  | _ => none }
def FnExactLongestPrimeWrongFalsely : Prop := fnExactLongestPrimeRow.holds Try.pinned (OpenSpec.ofChange fnExactLongestPrimeWrong)

/-- 'laws.FnExactOwnBlots': WHATEVER THE INPUT: true; the input reads as it did. -/
def fnExactOwnBlotsSpec : ChangeSpec := { name := "fnExactOwnBlots", fn := fun _ => fun
  | [d1, d2] => { results := [.lit (.bool true)], args := [d1, d2] }
  | _ => none }
def fnExactOwnBlotsRow : OpenClaim := { program := "ytoolggmomlmnbaa", sum := "48dd49eb67109ca8da6782ba78ea4bf693a8bdb1eecd9c54b97e85b8244b53d2", func := "loop.example/g00885/laws.FnExactOwnBlots", spec := "fnExactOwnBlots", apart := false }
def FnExactOwnBlotsSaid : Prop := fnExactOwnBlotsRow.holds Try.pinned (OpenSpec.ofChange fnExactOwnBlotsSpec)

/-- ITS FALSE NEIGHBOUR: 'it returns false'. Refute it at one input. -/
def fnExactOwnBlotsWrong : ChangeSpec := { name := "fnExactOwnBlots", fn := fun _ => fun
  | [d1, d2] => { results := [.lit (.bool false)], args := [d1, d2] }
  | _ => none }
def FnExactOwnBlotsWrongFalsely : Prop := fnExactOwnBlotsRow.holds Try.pinned (OpenSpec.ofChange fnExactOwnBlotsWrong)

/-- 'laws.FnExactMadePoints': WHATEVER THE INPUT: true; the input reads as it did. -/
def fnExactMadePointsSpec : ChangeSpec := { name := "fnExactMadePoints", fn := fun _ => fun
  | [d1, d2] => { results := [.lit (.bool true)], args := [d1, d2] }
  | _ => none }
def fnExactMadePointsRow : OpenClaim := { program := "ytoolggmomlmnbaa", sum := "48dd49eb67109ca8da6782ba78ea4bf693a8bdb1eecd9c54b97e85b8244b53d2", func := "loop.example/g00885/laws.FnExactMadePoints", spec := "fnExactMadePoints", apart := false }
def FnExactMadePointsSaid : Prop := fnExactMadePointsRow.holds Try.pinned (OpenSpec.ofChange fnExactMadePointsSpec)

/-- ITS FALSE NEIGHBOUR: 'it returns false'. Refute it at one input. -/
def fnExactMadePointsWrong : ChangeSpec := { name := "fnExactMadePoints", fn := fun _ => fun
  | [d1, d2] => { results := [.lit (.bool false)], args := [d1, d2] }
  | _ => none }
def FnExactMadePointsWrongFalsely : Prop := fnExactMadePointsRow.holds Try.pinned (OpenSpec.ofChange fnExactMadePointsWrong)

/-- 'laws.FnFeatures': WHATEVER THE INPUT: true; the input reads as it did. -/
def fnFeaturesSpec : ChangeSpec := { name := "fnFeatures", fn := fun _ => fun
  | [d] => { results := [.lit (.bool true)], args := [d] }
  | _ => none }
def fnFeaturesRow : OpenClaim := { program := "ytoolggmomlmnbaa", sum := "48dd49eb67109ca8da6782ba78ea4bf693a8bdb1eecd9c54b97e85b8244b53d2", func := "loop.example/g00885/laws.FnFeatures", spec := "fnFeatures", apart := false }
def FnFeaturesSaid : Prop := fnFeaturesRow.holds Try.pinned (OpenSpec.ofChange fnFeaturesSpec)

/-- ITS FALSE NEIGHBOUR: 'it returns false'. Refute it at one input. -/
def fnFeaturesWrong : ChangeSpec := { name := "fnFeatures", fn := fun _ => fun
  | [d] => { results := [.lit (.bool false)], args := [d] }
  | _ => none }
def FnFeaturesWrongFalsely : Prop := fnFeaturesRow.holds Try.pinned (OpenSpec.ofChange fnFeaturesWrong)

/-- 'laws.FnInputs': WHATEVER THE INPUT: true; the input reads as it did. -/
def fnInputsSpec : ChangeSpec := { name := "fnInputs", fn := fun _ => fun
  | [d] => { results := [.lit (.bool true)], args := [d] }
  | _ => none }
def fnInputsRow : OpenClaim := { program := "ytoolggmomlmnbaa", sum := "48dd49eb67109ca8da6782ba78ea4bf693a8bdb1eecd9c54b97e85b8244b53d2", func := "loop.example/g00885/laws.FnInputs", spec := "fnInputs", apart := false }
def FnInputsSaid : Prop := fnInputsRow.holds Try.pinned (OpenSpec.ofChange fnInputsSpec)

/-- ITS FALSE NEIGHBOUR: 'it returns false'. Refute it at one input. -/
def fnInputsWrong : ChangeSpec := { name := "fnInputs", fn := fun _ => fun
  | [d] => { results := [.lit (.bool false)], args := [d] }
  | _ => none }
def FnInputsWrongFalsely : Prop := fnInputsRow.holds Try.pinned (OpenSpec.ofChange fnInputsWrong)

/-- 'laws.FnExactFeaturesOf': WHATEVER THE INPUT: true; the input reads as it did. -/
def fnExactFeaturesOfSpec : ChangeSpec := { name := "fnExactFeaturesOf", fn := fun _ => fun
  | [d1, d2] => { results := [.lit (.bool true)], args := [d1, d2] }
  | _ => none }
def fnExactFeaturesOfRow : OpenClaim := { program := "ytoolggmomlmnbaa", sum := "48dd49eb67109ca8da6782ba78ea4bf693a8bdb1eecd9c54b97e85b8244b53d2", func := "loop.example/g00885/laws.FnExactFeaturesOf", spec := "fnExactFeaturesOf", apart := false }
def FnExactFeaturesOfSaid : Prop := fnExactFeaturesOfRow.holds Try.pinned (OpenSpec.ofChange fnExactFeaturesOfSpec)

/-- ITS FALSE NEIGHBOUR: 'it returns false'. Refute it at one input. -/
def fnExactFeaturesOfWrong : ChangeSpec := { name := "fnExactFeaturesOf", fn := fun _ => fun
  | [d1, d2] => { results := [.lit (.bool false)], args := [d1, d2] }
  | _ => none }
def FnExactFeaturesOfWrongFalsely : Prop := fnExactFeaturesOfRow.holds Try.pinned (OpenSpec.ofChange fnExactFeaturesOfWrong)

/-- 'laws.FnOwnPoints': WHATEVER THE INPUT: true; the input reads as it did. -/
def fnOwnPointsSpec : ChangeSpec := { name := "fnOwnPoints", fn := fun _ => fun
  | [d] => { results := [.lit (.bool true)], args := [d] }
  | _ => none }
def fnOwnPointsRow : OpenClaim := { program := "ytoolggmomlmnbaa", sum := "48dd49eb67109ca8da6782ba78ea4bf693a8bdb1eecd9c54b97e85b8244b53d2", func := "loop.example/g00885/laws.FnOwnPoints", spec := "fnOwnPoints", apart := false }
def FnOwnPointsSaid : Prop := fnOwnPointsRow.holds Try.pinned (OpenSpec.ofChange fnOwnPointsSpec)

/-- ITS FALSE NEIGHBOUR: 'it returns false'. Refute it at one input. -/
def fnOwnPointsWrong : ChangeSpec := { name := "fnOwnPoints", fn := fun _ => fun
  | [d] => { results := [.lit (.bool false)], args := [d] }
  | _ => none }
def FnOwnPointsWrongFalsely : Prop := fnOwnPointsRow.holds Try.pinned (OpenSpec.ofChange fnOwnPointsWrong)

/-- 'laws.FnExactInputsOf': WHATEVER THE INPUT: true; the input reads as it did. -/
def fnExactInputsOfSpec : ChangeSpec := { name := "fnExactInputsOf", fn := fun _ => fun
  | [d1, d2] => { results := [.lit (.bool true)], args := [d1, d2] }
  | _ => none }
def fnExactInputsOfRow : OpenClaim := { program := "ytoolggmomlmnbaa", sum := "48dd49eb67109ca8da6782ba78ea4bf693a8bdb1eecd9c54b97e85b8244b53d2", func := "loop.example/g00885/laws.FnExactInputsOf", spec := "fnExactInputsOf", apart := false }
def FnExactInputsOfSaid : Prop := fnExactInputsOfRow.holds Try.pinned (OpenSpec.ofChange fnExactInputsOfSpec)

/-- ITS FALSE NEIGHBOUR: 'it returns false'. Refute it at one input. -/
def fnExactInputsOfWrong : ChangeSpec := { name := "fnExactInputsOf", fn := fun _ => fun
  | [d1, d2] => { results := [.lit (.bool false)], args := [d1, d2] }
  | _ => none }
def FnExactInputsOfWrongFalsely : Prop := fnExactInputsOfRow.holds Try.pinned (OpenSpec.ofChange fnExactInputsOfWrong)

/-- 'laws.FnExactHitWeight': WHATEVER THE INPUT: true; the input reads as it did. -/
def fnExactHitWeightSpec : ChangeSpec := { name := "fnExactHitWeight", fn := fun _ => fun
  | [d1, d2] => { results := [.lit (.bool true)], args := [d1, d2] }
  | _ => none }
def fnExactHitWeightRow : OpenClaim := { program := "ytoolggmomlmnbaa", sum := "48dd49eb67109ca8da6782ba78ea4bf693a8bdb1eecd9c54b97e85b8244b53d2", func := "loop.example/g00885/laws.FnExactHitWeight", spec := "fnExactHitWeight", apart := false }
def FnExactHitWeightSaid : Prop := fnExactHitWeightRow.holds Try.pinned (OpenSpec.ofChange fnExactHitWeightSpec)

/-- ITS FALSE NEIGHBOUR: 'it returns false'. Refute it at one input. -/
def fnExactHitWeightWrong : ChangeSpec := { name := "fnExactHitWeight", fn := fun _ => fun
  | [d1, d2] => { results := [.lit (.bool false)], args := [d1, d2] }
  | _ => none }
def FnExactHitWeightWrongFalsely : Prop := fnExactHitWeightRow.holds Try.pinned (OpenSpec.ofChange fnExactHitWeightWrong)

/-- 'laws.FnHits': WHATEVER THE INPUT: true; the input reads as it did. -/
def fnHitsSpec : ChangeSpec := { name := "fnHits", fn := fun _ => fun
  | [d] => { results := [.lit (.bool true)], args := [d] }
  | _ => none }
def fnHitsRow : OpenClaim := { program := "ytoolggmomlmnbaa", sum := "48dd49eb67109ca8da6782ba78ea4bf693a8bdb1eecd9c54b97e85b8244b53d2", func := "loop.example/g00885/laws.FnHits", spec := "fnHits", apart := false }
def FnHitsSaid : Prop := fnHitsRow.holds Try.pinned (OpenSpec.ofChange fnHitsSpec)

/-- ITS FALSE NEIGHBOUR: 'it returns false'. Refute it at one input. -/
def fnHitsWrong : ChangeSpec := { name := "fnHits", fn := fun _ => fun
  | [d] => { results := [.lit (.bool false)], args := [d] }
  | _ => none }
def FnHitsWrongFalsely : Prop := fnHitsRow.holds Try.pinned (OpenSpec.ofChange fnHitsWrong)

/- THE SECOND FORM. 'bulk': how many values and letters a reading holds, each counted each time it is reached (what is shared counts as often as it is met; a slice's spare places count too). A statement '..UptoSaid' is the law's where the arguments, and the package variables that the reading takes, are together of bulk at most 1048576: NARROWER than '..Said'. Prove '..Said' where nothing that the law and all that it calls make is longer than what came in: it says more and counts as full. Else prove '..UptoSaid'. A law counts once. -/
mutual
def uptoBulk {H : Type} : DataW H → Nat
  | .lit (.string bytes) => bytes.length + 1
  | .lit _ => 1
  | .nil => 1
  | .ptr d => uptoBulk d + 1
  | .slice elems spare => uptoBulkAll elems + uptoBulkAll spare + 1
  | .agg parts => uptoBulkAll parts + 1
  | .iface _ d => uptoBulk d + 1
  | .map entries => uptoBulkEntries entries + 1
  | .held _ => 1
def uptoBulkAll {H : Type} : List (DataW H) → Nat
  | [] => 0
  | d :: r => uptoBulk d + uptoBulkAll r
def uptoBulkEntries {H : Type} : List (Lit × DataW H) → Nat
  | [] => 0
  | x :: r => uptoBulkEntry x + uptoBulkEntries r
def uptoBulkEntry {H : Type} : Lit × DataW H → Nat
  | (.string bytes, d) => bytes.length + uptoBulk d + 1
  | (_, d) => uptoBulk d + 1
 end
def uptoSmall : (H : Type) → List (DataW H) → Bool := fun _ ds => decide (uptoBulkAll ds ≤ 1048576)
def OpenSpec.upto (s : _root_.Go.ChangeSpec) : _root_.Go.OpenSpec := { _root_.Go.OpenSpec.ofChange s with cond := some uptoSmall }

/-- 'laws.FnExactLongestPrime', WHERE WHAT IT READS IS OF BULK AT MOST 1048576: true; the input reads as it did. -/
def fnExactLongestPrimeUptoRow : OpenClaim := { program := "ytoolggmomlmnbaa", sum := "48dd49eb67109ca8da6782ba78ea4bf693a8bdb1eecd9c54b97e85b8244b53d2", func := "loop.example/g00885/laws.FnExactLongestPrime", spec := "fnExactLongestPrime", apart := false, narrowed := true }
def FnExactLongestPrimeUptoSaid : Prop := fnExactLongestPrimeUptoRow.holds Try.pinned (OpenSpec.upto fnExactLongestPrimeSpec)

/-- 'laws.FnExactOwnBlots', WHERE WHAT IT READS IS OF BULK AT MOST 1048576: true; the input reads as it did. -/
def fnExactOwnBlotsUptoRow : OpenClaim := { program := "ytoolggmomlmnbaa", sum := "48dd49eb67109ca8da6782ba78ea4bf693a8bdb1eecd9c54b97e85b8244b53d2", func := "loop.example/g00885/laws.FnExactOwnBlots", spec := "fnExactOwnBlots", apart := false, narrowed := true }
def FnExactOwnBlotsUptoSaid : Prop := fnExactOwnBlotsUptoRow.holds Try.pinned (OpenSpec.upto fnExactOwnBlotsSpec)

/-- 'laws.FnExactMadePoints', WHERE WHAT IT READS IS OF BULK AT MOST 1048576: true; the input reads as it did. -/
def fnExactMadePointsUptoRow : OpenClaim := { program := "ytoolggmomlmnbaa", sum := "48dd49eb67109ca8da6782ba78ea4bf693a8bdb1eecd9c54b97e85b8244b53d2", func := "loop.example/g00885/laws.FnExactMadePoints", spec := "fnExactMadePoints", apart := false, narrowed := true }
def FnExactMadePointsUptoSaid : Prop := fnExactMadePointsUptoRow.holds Try.pinned (OpenSpec.upto fnExactMadePointsSpec)

/-- 'laws.FnFeatures', WHERE WHAT IT READS IS OF BULK AT MOST 1048576: true; the input reads as it did. -/
def fnFeaturesUptoRow : OpenClaim := { program := "ytoolggmomlmnbaa", sum := "48dd49eb67109ca8da6782ba78ea4bf693a8bdb1eecd9c54b97e85b8244b53d2", func := "loop.example/g00885/laws.FnFeatures", spec := "fnFeatures", apart := false, narrowed := true }
def FnFeaturesUptoSaid : Prop := fnFeaturesUptoRow.holds Try.pinned (OpenSpec.upto fnFeaturesSpec)

/-- 'laws.FnInputs', WHERE WHAT IT READS IS OF BULK AT MOST 1048576: true; the input reads as it did. -/
def fnInputsUptoRow : OpenClaim := { program := "ytoolggmomlmnbaa", sum := "48dd49eb67109ca8da6782ba78ea4bf693a8bdb1eecd9c54b97e85b8244b53d2", func := "loop.example/g00885/laws.FnInputs", spec := "fnInputs", apart := false, narrowed := true }
def FnInputsUptoSaid : Prop := fnInputsUptoRow.holds Try.pinned (OpenSpec.upto fnInputsSpec)

/-- 'laws.FnExactFeaturesOf', WHERE WHAT IT READS IS OF BULK AT MOST 1048576: true; the input reads as it did. -/
def fnExactFeaturesOfUptoRow : OpenClaim := { program := "ytoolggmomlmnbaa", sum := "48dd49eb67109ca8da6782ba78ea4bf693a8bdb1eecd9c54b97e85b8244b53d2", func := "loop.example/g00885/laws.FnExactFeaturesOf", spec := "fnExactFeaturesOf", apart := false, narrowed := true }
def FnExactFeaturesOfUptoSaid : Prop := fnExactFeaturesOfUptoRow.holds Try.pinned (OpenSpec.upto fnExactFeaturesOfSpec)

/-- 'laws.FnOwnPoints', WHERE WHAT IT READS IS OF BULK AT MOST 1048576: true; the input reads as it did. -/
def fnOwnPointsUptoRow : OpenClaim := { program := "ytoolggmomlmnbaa", sum := "48dd49eb67109ca8da6782ba78ea4bf693a8bdb1eecd9c54b97e85b8244b53d2", func := "loop.example/g00885/laws.FnOwnPoints", spec := "fnOwnPoints", apart := false, narrowed := true }
def FnOwnPointsUptoSaid : Prop := fnOwnPointsUptoRow.holds Try.pinned (OpenSpec.upto fnOwnPointsSpec)

/-- 'laws.FnExactInputsOf', WHERE WHAT IT READS IS OF BULK AT MOST 1048576: true; the input reads as it did. -/
def fnExactInputsOfUptoRow : OpenClaim := { program := "ytoolggmomlmnbaa", sum := "48dd49eb67109ca8da6782ba78ea4bf693a8bdb1eecd9c54b97e85b8244b53d2", func := "loop.example/g00885/laws.FnExactInputsOf", spec := "fnExactInputsOf", apart := false, narrowed := true }
def FnExactInputsOfUptoSaid : Prop := fnExactInputsOfUptoRow.holds Try.pinned (OpenSpec.upto fnExactInputsOfSpec)

/-- 'laws.FnExactHitWeight', WHERE WHAT IT READS IS OF BULK AT MOST 1048576: true; the input reads as it did. -/
def fnExactHitWeightUptoRow : OpenClaim := { program := "ytoolggmomlmnbaa", sum := "48dd49eb67109ca8da6782ba78ea4bf693a8bdb1eecd9c54b97e85b8244b53d2", func := "loop.example/g00885/laws.FnExactHitWeight", spec := "fnExactHitWeight", apart := false, narrowed := true }
def FnExactHitWeightUptoSaid : Prop := fnExactHitWeightUptoRow.holds Try.pinned (OpenSpec.upto fnExactHitWeightSpec)

/-- 'laws.FnHits', WHERE WHAT IT READS IS OF BULK AT MOST 1048576: true; the input reads as it did. -/
def fnHitsUptoRow : OpenClaim := { program := "ytoolggmomlmnbaa", sum := "48dd49eb67109ca8da6782ba78ea4bf693a8bdb1eecd9c54b97e85b8244b53d2", func := "loop.example/g00885/laws.FnHits", spec := "fnHits", apart := false, narrowed := true }
def FnHitsUptoSaid : Prop := fnHitsUptoRow.holds Try.pinned (OpenSpec.upto fnHitsSpec)

end Rows
end Go.Proofs.Ytoolggmomlmnbaa
