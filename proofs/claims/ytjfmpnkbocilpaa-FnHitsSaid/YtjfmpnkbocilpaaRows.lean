/-
  No cell of these rows narrows 'for every input' (looked for: loops, veiled, ifaces, maps, wideKeys, modest, calm, conditions, laid).
  DERIVED. THE GIVEN ROWS OF THIS SEAT. 2 by the template 'for every input the law returns true; each argument reads behind the call as it read before'; 0 by the template 'total and deterministic' (their statements: YtjfmpnkbocilpaaTotals.lean).
  GIVEN WITH THE SEED: the statements are not yours to turn. If you find one false, say at which input.
  Laid BY PROGRAM, IN A SANDBOX (cutbox-rows.mjs): the forced cells as the released guide's own fill.sh prints them over the translation 3f856be61dbec3d6… (all of the seat's roots in one cut). By AI agents, Wed Nov 11 2026. No macro, syntax, notation, axiom, sorry.
-/
import Derived.Test.YtjfmpnkbocilpaaChecked
import GoSem.Claim
import GoSem.ClaimJoined
import GoSem.ClaimMapViews
import Derived.JoinedTies
import Derived.KernelRfl
namespace Go.Proofs.Ytjfmpnkbocilpaa
/- THE CELL 'sum', in the pinned program and in every row, IS THE sha256 OF THE DUMP (.gsa) THAT YtjfmpnkbocilpaaProg.lean LOADS. Nothing in Lean hashes anything: it is a label: what it is worth is what the hold of that sum in a sandbox is worth. -/
noncomputable def Try.pinned : Pinned := { name := "ytjfmpnkbocilpaa", sum := "3f856be61dbec3d63104dbf884f251291ef31f284ea0e417ec33673d731609e6", checked := Try.checked }
namespace Rows
def none {H : Type} : Left H := { results := [], args := [] }

/-- 'laws.FnExactHitWeight': WHATEVER THE INPUT: true; the input reads as it did. -/
def fnExactHitWeightSpec : ChangeSpec := { name := "fnExactHitWeight", fn := fun _ => fun
  | [d1, d2] => { results := [.lit (.bool true)], args := [d1, d2] }
  | _ => none }
def fnExactHitWeightRow : OpenClaim := { program := "ytjfmpnkbocilpaa", sum := "3f856be61dbec3d63104dbf884f251291ef31f284ea0e417ec33673d731609e6", func := "loop.example/g00885/laws.FnExactHitWeight", spec := "fnExactHitWeight", apart := false }
def FnExactHitWeightSaid : Prop := fnExactHitWeightRow.holds Try.pinned (OpenSpec.ofChange fnExactHitWeightSpec)

/-- ITS FALSE NEIGHBOUR: 'it returns false'. Refute it at one input. -/
def fnExactHitWeightWrong : ChangeSpec := { name := "fnExactHitWeight", fn := fun _ => fun
  | [d1, d2] => { results := [.lit (.bool false)], args := [d1, d2] }
  | _ => none }
def FnExactHitWeightWrongFalsely : Prop := fnExactHitWeightRow.holds Try.pinned (OpenSpec.ofChange fnExactHitWeightWrong)

/-- 'laws.FnHits': WHATEVER THE INPUT: true; the input reads as it did. -/
def fnHitsSpec : ChangeSpec := { name := "fnHits", fn := fun _ => fun
  | [d] => { results := [.lit (.bool true)], args := [d] }
  | _ => none }
def fnHitsRow : OpenClaim := { program := "ytjfmpnkbocilpaa", sum := "3f856be61dbec3d63104dbf884f251291ef31f284ea0e417ec33673d731609e6", func := "loop.example/g00885/laws.FnHits", spec := "fnHits", apart := false }
def FnHitsSaid : Prop := fnHitsRow.holds Try.pinned (OpenSpec.ofChange fnHitsSpec)

/-- ITS FALSE NEIGHBOUR: 'it returns false'. Refute it at one input. -/
def fnHitsWrong : ChangeSpec := { name := "fnHits", fn := fun _ => fun
  | [d] => { results := [.lit (.bool false)], args := [d] }
  | _ => none }
def FnHitsWrongFalsely : Prop := fnHitsRow.holds Try.pinned (OpenSpec.ofChange fnHitsWrong)

/- THE SECOND FORM. 'bulk': how many values and letters a reading holds, each counted each time it is reached (what is shared counts as often as it is met; a slice's spare places count too). A statement '..UptoSaid' is the law's where the arguments, and the package variables that the reading takes, are together of bulk at most 1048576: NARROWER than '..Said'. Prove '..Said' where nothing that the law and all that it calls make is longer than what came in: it says more and counts as full. Else prove '..UptoSaid'. A law counts once. -/
mutual
def uptoBulk {H : Type} : DataW H → Nat
  | .lit (.string bytes) => bytes.length + 1
  | .lit _ => 1
  | .nil => 1
  | .ptr d => uptoBulk d + 1
  | .slice elems spare => uptoBulkAll elems + uptoBulkAll spare + 1
  | .agg parts => uptoBulkAll parts + 1
  | .iface _ d => uptoBulk d + 1
  | .map entries => uptoBulkEntries entries + 1
  | .held _ => 1
def uptoBulkAll {H : Type} : List (DataW H) → Nat
  | [] => 0
  | d :: r => uptoBulk d + uptoBulkAll r
def uptoBulkEntries {H : Type} : List (Lit × DataW H) → Nat
  | [] => 0
  | x :: r => uptoBulkEntry x + uptoBulkEntries r
def uptoBulkEntry {H : Type} : Lit × DataW H → Nat
  | (.string bytes, d) => bytes.length + uptoBulk d + 1
  | (_, d) => uptoBulk d + 1
 end
def uptoSmall : (H : Type) → List (DataW H) → Bool := fun _ ds => decide (uptoBulkAll ds ≤ 1048576)
def OpenSpec.upto (s : _root_.Go.ChangeSpec) : _root_.Go.OpenSpec := { _root_.Go.OpenSpec.ofChange s with cond := some uptoSmall }

/-- 'laws.FnExactHitWeight', WHERE WHAT IT READS IS OF BULK AT MOST 1048576: true; the input reads as it did. -/
def fnExactHitWeightUptoRow : OpenClaim := { program := "ytjfmpnkbocilpaa", sum := "3f856be61dbec3d63104dbf884f251291ef31f284ea0e417ec33673d731609e6", func := "loop.example/g00885/laws.FnExactHitWeight", spec := "fnExactHitWeight", apart := false, narrowed := true }
def FnExactHitWeightUptoSaid : Prop := fnExactHitWeightUptoRow.holds Try.pinned (OpenSpec.upto fnExactHitWeightSpec)

/-- 'laws.FnHits', WHERE WHAT IT READS IS OF BULK AT MOST 1048576: true; the input reads as it did. -/
def fnHitsUptoRow : OpenClaim := { program := "ytjfmpnkbocilpaa", sum := "3f856be61dbec3d63104dbf884f251291ef31f284ea0e417ec33673d731609e6", func := "loop.example/g00885/laws.FnHits", spec := "fnHits", apart := false, narrowed := true }
def FnHitsUptoSaid : Prop := fnHitsUptoRow.holds Try.pinned (OpenSpec.upto fnHitsSpec)

end Rows
end Go.Proofs.Ytjfmpnkbocilpaa
