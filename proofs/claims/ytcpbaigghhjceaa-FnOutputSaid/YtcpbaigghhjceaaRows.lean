/-
  No cell of these rows narrows 'for every input' (looked for: loops, veiled, ifaces, maps, wideKeys, modest, calm, conditions, laid).
  DERIVED. THE GIVEN ROWS OF THIS SEAT. 7 by the template 'for every input the law returns true; each argument reads behind the call as it read before'; 0 by the template 'total and deterministic' (their statements: YtcpbaigghhjceaaTotals.lean).
  GIVEN WITH THE SEED: the statements are not yours to turn. If you find one false, say at which input.
  Laid BY PROGRAM, IN A SANDBOX (cutbox-rows.mjs): the forced cells as the released guide's own fill.sh prints them over the translation eeeb21631f617549… (all of the seat's roots in one cut). By AI agents, Wed Nov 11 2026. No macro, syntax, notation, axiom, sorry.
-/
import Derived.Test.YtcpbaigghhjceaaChecked
import GoSem.Claim
import GoSem.ClaimJoined
import GoSem.ClaimMapViews
import Derived.JoinedTies
import Derived.KernelRfl
namespace Go.Proofs.Ytcpbaigghhjceaa
/- THE CELL 'sum', in the pinned program and in every row, IS THE sha256 OF THE DUMP (.gsa) THAT YtcpbaigghhjceaaProg.lean LOADS. Nothing in Lean hashes anything: it is a label: what it is worth is what the hold of that sum in a sandbox is worth. -/
noncomputable def Try.pinned : Pinned := { name := "ytcpbaigghhjceaa", sum := "eeeb21631f617549ed9600158e41614aebbcf421072c91fe7ba4c3dd06d868fc", checked := Try.checked }
namespace Rows
def none {H : Type} : Left H := { results := [], args := [] }

/-- 'laws.FnExactIsNetwork': WHATEVER THE INPUT: true; the input reads as it did. -/
def fnExactIsNetworkSpec : ChangeSpec := { name := "fnExactIsNetwork", fn := fun _ => fun
  | [d] => { results := [.lit (.bool true)], args := [d] }
  | _ => none }
def fnExactIsNetworkRow : OpenClaim := { program := "ytcpbaigghhjceaa", sum := "eeeb21631f617549ed9600158e41614aebbcf421072c91fe7ba4c3dd06d868fc", func := "loop.example/g00885/laws.FnExactIsNetwork", spec := "fnExactIsNetwork", apart := false }
def FnExactIsNetworkSaid : Prop := fnExactIsNetworkRow.holds Try.pinned (OpenSpec.ofChange fnExactIsNetworkSpec)

/-- ITS FALSE NEIGHBOUR: 'it returns false'. Refute it at one input. -/
def fnExactIsNetworkWrong : ChangeSpec := { name := "fnExactIsNetwork", fn := fun _ => fun
  | [d] => { results := [.lit (.bool false)], args := [d] }
  | _ => none }
def FnExactIsNetworkWrongFalsely : Prop := fnExactIsNetworkRow.holds Try.pinned (OpenSpec.ofChange fnExactIsNetworkWrong)

/-- 'laws.FnExactSeededNetwork': WHATEVER THE INPUT: true; the input reads as it did. -/
def fnExactSeededNetworkSpec : ChangeSpec := { name := "fnExactSeededNetwork", fn := fun _ => fun
  | [d1, d2, d3] => { results := [.lit (.bool true)], args := [d1, d2, d3] }
  | _ => none }
def fnExactSeededNetworkRow : OpenClaim := { program := "ytcpbaigghhjceaa", sum := "eeeb21631f617549ed9600158e41614aebbcf421072c91fe7ba4c3dd06d868fc", func := "loop.example/g00885/laws.FnExactSeededNetwork", spec := "fnExactSeededNetwork", apart := false }
def FnExactSeededNetworkSaid : Prop := fnExactSeededNetworkRow.holds Try.pinned (OpenSpec.ofChange fnExactSeededNetworkSpec)

/-- ITS FALSE NEIGHBOUR: 'it returns false'. Refute it at one input. -/
def fnExactSeededNetworkWrong : ChangeSpec := { name := "fnExactSeededNetwork", fn := fun _ => fun
  | [d1, d2, d3] => { results := [.lit (.bool false)], args := [d1, d2, d3] }
  | _ => none }
def FnExactSeededNetworkWrongFalsely : Prop := fnExactSeededNetworkRow.holds Try.pinned (OpenSpec.ofChange fnExactSeededNetworkWrong)

/-- 'laws.FnExactNetworkDigest': WHATEVER THE INPUT: true; the input reads as it did. -/
def fnExactNetworkDigestSpec : ChangeSpec := { name := "fnExactNetworkDigest", fn := fun _ => fun
  | [d] => { results := [.lit (.bool true)], args := [d] }
  | _ => none }
def fnExactNetworkDigestRow : OpenClaim := { program := "ytcpbaigghhjceaa", sum := "eeeb21631f617549ed9600158e41614aebbcf421072c91fe7ba4c3dd06d868fc", func := "loop.example/g00885/laws.FnExactNetworkDigest", spec := "fnExactNetworkDigest", apart := false }
def FnExactNetworkDigestSaid : Prop := fnExactNetworkDigestRow.holds Try.pinned (OpenSpec.ofChange fnExactNetworkDigestSpec)

/-- ITS FALSE NEIGHBOUR: 'it returns false'. Refute it at one input. -/
def fnExactNetworkDigestWrong : ChangeSpec := { name := "fnExactNetworkDigest", fn := fun _ => fun
  | [d] => { results := [.lit (.bool false)], args := [d] }
  | _ => none }
def FnExactNetworkDigestWrongFalsely : Prop := fnExactNetworkDigestRow.holds Try.pinned (OpenSpec.ofChange fnExactNetworkDigestWrong)

/-- 'laws.FnSeeded': WHATEVER THE INPUT: true; the input reads as it did. -/
def fnSeededSpec : ChangeSpec := { name := "fnSeeded", fn := fun _ => fun
  | [d] => { results := [.lit (.bool true)], args := [d] }
  | _ => none }
def fnSeededRow : OpenClaim := { program := "ytcpbaigghhjceaa", sum := "eeeb21631f617549ed9600158e41614aebbcf421072c91fe7ba4c3dd06d868fc", func := "loop.example/g00885/laws.FnSeeded", spec := "fnSeeded", apart := false }
def FnSeededSaid : Prop := fnSeededRow.holds Try.pinned (OpenSpec.ofChange fnSeededSpec)

/-- ITS FALSE NEIGHBOUR: 'it returns false'. Refute it at one input. -/
def fnSeededWrong : ChangeSpec := { name := "fnSeeded", fn := fun _ => fun
  | [d] => { results := [.lit (.bool false)], args := [d] }
  | _ => none }
def FnSeededWrongFalsely : Prop := fnSeededRow.holds Try.pinned (OpenSpec.ofChange fnSeededWrong)

/-- 'laws.FnExactOutputOf': WHATEVER THE INPUT: true; the input reads as it did. -/
def fnExactOutputOfSpec : ChangeSpec := { name := "fnExactOutputOf", fn := fun _ => fun
  | [d1, d2] => { results := [.lit (.bool true)], args := [d1, d2] }
  | _ => none }
def fnExactOutputOfRow : OpenClaim := { program := "ytcpbaigghhjceaa", sum := "eeeb21631f617549ed9600158e41614aebbcf421072c91fe7ba4c3dd06d868fc", func := "loop.example/g00885/laws.FnExactOutputOf", spec := "fnExactOutputOf", apart := false }
def FnExactOutputOfSaid : Prop := fnExactOutputOfRow.holds Try.pinned (OpenSpec.ofChange fnExactOutputOfSpec)

/-- ITS FALSE NEIGHBOUR: 'it returns false'. Refute it at one input. -/
def fnExactOutputOfWrong : ChangeSpec := { name := "fnExactOutputOf", fn := fun _ => fun
  | [d1, d2] => { results := [.lit (.bool false)], args := [d1, d2] }
  | _ => none }
def FnExactOutputOfWrongFalsely : Prop := fnExactOutputOfRow.holds Try.pinned (OpenSpec.ofChange fnExactOutputOfWrong)

/-- 'laws.FnExactHiddenOf': WHATEVER THE INPUT: true; the input reads as it did. -/
def fnExactHiddenOfSpec : ChangeSpec := { name := "fnExactHiddenOf", fn := fun _ => fun
  | [d1, d2] => { results := [.lit (.bool true)], args := [d1, d2] }
  | _ => none }
def fnExactHiddenOfRow : OpenClaim := { program := "ytcpbaigghhjceaa", sum := "eeeb21631f617549ed9600158e41614aebbcf421072c91fe7ba4c3dd06d868fc", func := "loop.example/g00885/laws.FnExactHiddenOf", spec := "fnExactHiddenOf", apart := false }
def FnExactHiddenOfSaid : Prop := fnExactHiddenOfRow.holds Try.pinned (OpenSpec.ofChange fnExactHiddenOfSpec)

/-- ITS FALSE NEIGHBOUR: 'it returns false'. Refute it at one input. -/
def fnExactHiddenOfWrong : ChangeSpec := { name := "fnExactHiddenOf", fn := fun _ => fun
  | [d1, d2] => { results := [.lit (.bool false)], args := [d1, d2] }
  | _ => none }
def FnExactHiddenOfWrongFalsely : Prop := fnExactHiddenOfRow.holds Try.pinned (OpenSpec.ofChange fnExactHiddenOfWrong)

/-- 'laws.FnOutput': WHATEVER THE INPUT: true; the input reads as it did. -/
def fnOutputSpec : ChangeSpec := { name := "fnOutput", fn := fun _ => fun
  | [d] => { results := [.lit (.bool true)], args := [d] }
  | _ => none }
def fnOutputRow : OpenClaim := { program := "ytcpbaigghhjceaa", sum := "eeeb21631f617549ed9600158e41614aebbcf421072c91fe7ba4c3dd06d868fc", func := "loop.example/g00885/laws.FnOutput", spec := "fnOutput", apart := false }
def FnOutputSaid : Prop := fnOutputRow.holds Try.pinned (OpenSpec.ofChange fnOutputSpec)

/-- ITS FALSE NEIGHBOUR: 'it returns false'. Refute it at one input. -/
def fnOutputWrong : ChangeSpec := { name := "fnOutput", fn := fun _ => fun
  | [d] => { results := [.lit (.bool false)], args := [d] }
  | _ => none }
def FnOutputWrongFalsely : Prop := fnOutputRow.holds Try.pinned (OpenSpec.ofChange fnOutputWrong)

/- THE SECOND FORM. 'bulk': how many values and letters a reading holds, each counted each time it is reached (what is shared counts as often as it is met; a slice's spare places count too). A statement '..UptoSaid' is the law's where the arguments, and the package variables that the reading takes, are together of bulk at most 1048576: NARROWER than '..Said'. Prove '..Said' where nothing that the law and all that it calls make is longer than what came in: it says more and counts as full. Else prove '..UptoSaid'. A law counts once. -/
mutual
def uptoBulk {H : Type} : DataW H → Nat
  | .lit (.string bytes) => bytes.length + 1
  | .lit _ => 1
  | .nil => 1
  | .ptr d => uptoBulk d + 1
  | .slice elems spare => uptoBulkAll elems + uptoBulkAll spare + 1
  | .agg parts => uptoBulkAll parts + 1
  | .iface _ d => uptoBulk d + 1
  | .map entries => uptoBulkEntries entries + 1
  | .held _ => 1
def uptoBulkAll {H : Type} : List (DataW H) → Nat
  | [] => 0
  | d :: r => uptoBulk d + uptoBulkAll r
def uptoBulkEntries {H : Type} : List (Lit × DataW H) → Nat
  | [] => 0
  | x :: r => uptoBulkEntry x + uptoBulkEntries r
def uptoBulkEntry {H : Type} : Lit × DataW H → Nat
  | (.string bytes, d) => bytes.length + uptoBulk d + 1
  | (_, d) => uptoBulk d + 1
 end
def uptoSmall : (H : Type) → List (DataW H) → Bool := fun _ ds => decide (uptoBulkAll ds ≤ 1048576)
def OpenSpec.upto (s : _root_.Go.ChangeSpec) : _root_.Go.OpenSpec := { _root_.Go.OpenSpec.ofChange s with cond := some uptoSmall }

/-- 'laws.FnExactIsNetwork', WHERE WHAT IT READS IS OF BULK AT MOST 1048576: true; the input reads as it did. -/
def fnExactIsNetworkUptoRow : OpenClaim := { program := "ytcpbaigghhjceaa", sum := "eeeb21631f617549ed9600158e41614aebbcf421072c91fe7ba4c3dd06d868fc", func := "loop.example/g00885/laws.FnExactIsNetwork", spec := "fnExactIsNetwork", apart := false, narrowed := true }
def FnExactIsNetworkUptoSaid : Prop := fnExactIsNetworkUptoRow.holds Try.pinned (OpenSpec.upto fnExactIsNetworkSpec)

/-- 'laws.FnExactSeededNetwork', WHERE WHAT IT READS IS OF BULK AT MOST 1048576: true; the input reads as it did. -/
def fnExactSeededNetworkUptoRow : OpenClaim := { program := "ytcpbaigghhjceaa", sum := "eeeb21631f617549ed9600158e41614aebbcf421072c91fe7ba4c3dd06d868fc", func := "loop.example/g00885/laws.FnExactSeededNetwork", spec := "fnExactSeededNetwork", apart := false, narrowed := true }
def FnExactSeededNetworkUptoSaid : Prop := fnExactSeededNetworkUptoRow.holds Try.pinned (OpenSpec.upto fnExactSeededNetworkSpec)

/-- 'laws.FnExactNetworkDigest', WHERE WHAT IT READS IS OF BULK AT MOST 1048576: true; the input reads as it did. -/
def fnExactNetworkDigestUptoRow : OpenClaim := { program := "ytcpbaigghhjceaa", sum := "eeeb21631f617549ed9600158e41614aebbcf421072c91fe7ba4c3dd06d868fc", func := "loop.example/g00885/laws.FnExactNetworkDigest", spec := "fnExactNetworkDigest", apart := false, narrowed := true }
def FnExactNetworkDigestUptoSaid : Prop := fnExactNetworkDigestUptoRow.holds Try.pinned (OpenSpec.upto fnExactNetworkDigestSpec)

/-- 'laws.FnSeeded', WHERE WHAT IT READS IS OF BULK AT MOST 1048576: true; the input reads as it did. -/
def fnSeededUptoRow : OpenClaim := { program := "ytcpbaigghhjceaa", sum := "eeeb21631f617549ed9600158e41614aebbcf421072c91fe7ba4c3dd06d868fc", func := "loop.example/g00885/laws.FnSeeded", spec := "fnSeeded", apart := false, narrowed := true }
def FnSeededUptoSaid : Prop := fnSeededUptoRow.holds Try.pinned (OpenSpec.upto fnSeededSpec)

/-- 'laws.FnExactOutputOf', WHERE WHAT IT READS IS OF BULK AT MOST 1048576: true; the input reads as it did. -/
def fnExactOutputOfUptoRow : OpenClaim := { program := "ytcpbaigghhjceaa", sum := "eeeb21631f617549ed9600158e41614aebbcf421072c91fe7ba4c3dd06d868fc", func := "loop.example/g00885/laws.FnExactOutputOf", spec := "fnExactOutputOf", apart := false, narrowed := true }
def FnExactOutputOfUptoSaid : Prop := fnExactOutputOfUptoRow.holds Try.pinned (OpenSpec.upto fnExactOutputOfSpec)

/-- 'laws.FnExactHiddenOf', WHERE WHAT IT READS IS OF BULK AT MOST 1048576: true; the input reads as it did. -/
def fnExactHiddenOfUptoRow : OpenClaim := { program := "ytcpbaigghhjceaa", sum := "eeeb21631f617549ed9600158e41614aebbcf421072c91fe7ba4c3dd06d868fc", func := "loop.example/g00885/laws.FnExactHiddenOf", spec := "fnExactHiddenOf", apart := false, narrowed := true }
def FnExactHiddenOfUptoSaid : Prop := fnExactHiddenOfUptoRow.holds Try.pinned (OpenSpec.upto fnExactHiddenOfSpec)

/-- 'laws.FnOutput', WHERE WHAT IT READS IS OF BULK AT MOST 1048576: true; the input reads as it did. -/
def fnOutputUptoRow : OpenClaim := { program := "ytcpbaigghhjceaa", sum := "eeeb21631f617549ed9600158e41614aebbcf421072c91fe7ba4c3dd06d868fc", func := "loop.example/g00885/laws.FnOutput", spec := "fnOutput", apart := false, narrowed := true }
def FnOutputUptoSaid : Prop := fnOutputUptoRow.holds Try.pinned (OpenSpec.upto fnOutputSpec)

end Rows
end Go.Proofs.Ytcpbaigghhjceaa
