/-
  No cell of these rows narrows 'for every input' (looked for: loops, veiled, ifaces, maps, wideKeys, modest, calm, conditions, laid).
  DERIVED. THE GIVEN ROWS OF THIS SEAT. 10 by the template 'for every input the law returns true; each argument reads behind the call as it read before'; 0 by the template 'total and deterministic' (their statements: YtocdiflkegbffaaTotals.lean).
  GIVEN WITH THE SEED: the statements are not yours to turn. If you find one false, say at which input.
  Laid BY PROGRAM, IN A SANDBOX (cutbox-rows.mjs): the forced cells as the released guide's own fill.sh prints them over the translation 7cd2495374b47eff… (all of the seat's roots in one cut). By AI agents, Wed Nov 11 2026. No macro, syntax, notation, axiom, sorry.
-/
import Derived.Test.YtocdiflkegbffaaChecked
import GoSem.Claim
import GoSem.ClaimJoined
import GoSem.ClaimMapViews
import Derived.JoinedTies
import Derived.KernelRfl
namespace Go.Proofs.Ytocdiflkegbffaa
/- THE CELL 'sum', in the pinned program and in every row, IS THE sha256 OF THE DUMP (.gsa) THAT YtocdiflkegbffaaProg.lean LOADS. Nothing in Lean hashes anything: it is a label: what it is worth is what the hold of that sum in a sandbox is worth. -/
noncomputable def Try.pinned : Pinned := { name := "ytocdiflkegbffaa", sum := "7cd2495374b47effdbb457ad407c0d2ac40fb5e147e05d34958637a5642ed2bc", checked := Try.checked }
namespace Rows
def none {H : Type} : Left H := { results := [], args := [] }

/-- 'laws.FnExactIsSession': WHATEVER THE INPUT: true; the input reads as it did. -/
def fnExactIsSessionSpec : ChangeSpec := { name := "fnExactIsSession", fn := fun _ => fun
  | [d1, d2] => { results := [.lit (.bool true)], args := [d1, d2] }
  | _ => none }
def fnExactIsSessionRow : OpenClaim := { program := "ytocdiflkegbffaa", sum := "7cd2495374b47effdbb457ad407c0d2ac40fb5e147e05d34958637a5642ed2bc", func := "loop.example/g00885/laws.FnExactIsSession", spec := "fnExactIsSession", apart := false }
def FnExactIsSessionSaid : Prop := fnExactIsSessionRow.holds Try.pinned (OpenSpec.ofChange fnExactIsSessionSpec)

/-- ITS FALSE NEIGHBOUR: 'it returns false'. Refute it at one input. -/
def fnExactIsSessionWrong : ChangeSpec := { name := "fnExactIsSession", fn := fun _ => fun
  | [d1, d2] => { results := [.lit (.bool false)], args := [d1, d2] }
  | _ => none }
def FnExactIsSessionWrongFalsely : Prop := fnExactIsSessionRow.holds Try.pinned (OpenSpec.ofChange fnExactIsSessionWrong)

/-- 'laws.FnExactIsChouette': WHATEVER THE INPUT: true; the input reads as it did. -/
def fnExactIsChouetteSpec : ChangeSpec := { name := "fnExactIsChouette", fn := fun _ => fun
  | [d1, d2] => { results := [.lit (.bool true)], args := [d1, d2] }
  | _ => none }
def fnExactIsChouetteRow : OpenClaim := { program := "ytocdiflkegbffaa", sum := "7cd2495374b47effdbb457ad407c0d2ac40fb5e147e05d34958637a5642ed2bc", func := "loop.example/g00885/laws.FnExactIsChouette", spec := "fnExactIsChouette", apart := false }
def FnExactIsChouetteSaid : Prop := fnExactIsChouetteRow.holds Try.pinned (OpenSpec.ofChange fnExactIsChouetteSpec)

/-- ITS FALSE NEIGHBOUR: 'it returns false'. Refute it at one input. -/
def fnExactIsChouetteWrong : ChangeSpec := { name := "fnExactIsChouette", fn := fun _ => fun
  | [d1, d2] => { results := [.lit (.bool false)], args := [d1, d2] }
  | _ => none }
def FnExactIsChouetteWrongFalsely : Prop := fnExactIsChouetteRow.holds Try.pinned (OpenSpec.ofChange fnExactIsChouetteWrong)

/-- 'laws.FnBalances': WHATEVER THE INPUT: true; the input reads as it did. -/
def fnBalancesSpec : ChangeSpec := { name := "fnBalances", fn := fun _ => fun
  | [d] => { results := [.lit (.bool true)], args := [d] }
  | _ => none }
def fnBalancesRow : OpenClaim := { program := "ytocdiflkegbffaa", sum := "7cd2495374b47effdbb457ad407c0d2ac40fb5e147e05d34958637a5642ed2bc", func := "loop.example/g00885/laws.FnBalances", spec := "fnBalances", apart := false }
def FnBalancesSaid : Prop := fnBalancesRow.holds Try.pinned (OpenSpec.ofChange fnBalancesSpec)

/-- ITS FALSE NEIGHBOUR: 'it returns false'. Refute it at one input. -/
def fnBalancesWrong : ChangeSpec := { name := "fnBalances", fn := fun _ => fun
  | [d] => { results := [.lit (.bool false)], args := [d] }
  | _ => none }
def FnBalancesWrongFalsely : Prop := fnBalancesRow.holds Try.pinned (OpenSpec.ofChange fnBalancesWrong)

/-- 'laws.FnExactPairTotal': WHATEVER THE INPUT: true; the input reads as it did. -/
def fnExactPairTotalSpec : ChangeSpec := { name := "fnExactPairTotal", fn := fun _ => fun
  | [d1, d2, d3, d4] => { results := [.lit (.bool true)], args := [d1, d2, d3, d4] }
  | _ => none }
def fnExactPairTotalRow : OpenClaim := { program := "ytocdiflkegbffaa", sum := "7cd2495374b47effdbb457ad407c0d2ac40fb5e147e05d34958637a5642ed2bc", func := "loop.example/g00885/laws.FnExactPairTotal", spec := "fnExactPairTotal", apart := false }
def FnExactPairTotalSaid : Prop := fnExactPairTotalRow.holds Try.pinned (OpenSpec.ofChange fnExactPairTotalSpec)

/-- ITS FALSE NEIGHBOUR: 'it returns false'. Refute it at one input. -/
def fnExactPairTotalWrong : ChangeSpec := { name := "fnExactPairTotal", fn := fun _ => fun
  | [d1, d2, d3, d4] => { results := [.lit (.bool false)], args := [d1, d2, d3, d4] }
  | _ => none }
def FnExactPairTotalWrongFalsely : Prop := fnExactPairTotalRow.holds Try.pinned (OpenSpec.ofChange fnExactPairTotalWrong)

/-- 'laws.FnExactBalancesOf': WHATEVER THE INPUT: true; the input reads as it did. -/
def fnExactBalancesOfSpec : ChangeSpec := { name := "fnExactBalancesOf", fn := fun _ => fun
  | [d1, d2] => { results := [.lit (.bool true)], args := [d1, d2] }
  | _ => none }
def fnExactBalancesOfRow : OpenClaim := { program := "ytocdiflkegbffaa", sum := "7cd2495374b47effdbb457ad407c0d2ac40fb5e147e05d34958637a5642ed2bc", func := "loop.example/g00885/laws.FnExactBalancesOf", spec := "fnExactBalancesOf", apart := false }
def FnExactBalancesOfSaid : Prop := fnExactBalancesOfRow.holds Try.pinned (OpenSpec.ofChange fnExactBalancesOfSpec)

/-- ITS FALSE NEIGHBOUR: 'it returns false'. Refute it at one input. -/
def fnExactBalancesOfWrong : ChangeSpec := { name := "fnExactBalancesOf", fn := fun _ => fun
  | [d1, d2] => { results := [.lit (.bool false)], args := [d1, d2] }
  | _ => none }
def FnExactBalancesOfWrongFalsely : Prop := fnExactBalancesOfRow.holds Try.pinned (OpenSpec.ofChange fnExactBalancesOfWrong)

/-- 'laws.FnExactChouetteOrder': WHATEVER THE INPUT: true; the input reads as it did. -/
def fnExactChouetteOrderSpec : ChangeSpec := { name := "fnExactChouetteOrder", fn := fun _ => fun
  | [d1, d2] => { results := [.lit (.bool true)], args := [d1, d2] }
  | _ => none }
def fnExactChouetteOrderRow : OpenClaim := { program := "ytocdiflkegbffaa", sum := "7cd2495374b47effdbb457ad407c0d2ac40fb5e147e05d34958637a5642ed2bc", func := "loop.example/g00885/laws.FnExactChouetteOrder", spec := "fnExactChouetteOrder", apart := false }
def FnExactChouetteOrderSaid : Prop := fnExactChouetteOrderRow.holds Try.pinned (OpenSpec.ofChange fnExactChouetteOrderSpec)

/-- ITS FALSE NEIGHBOUR: 'it returns false'. Refute it at one input. -/
def fnExactChouetteOrderWrong : ChangeSpec := { name := "fnExactChouetteOrder", fn := fun _ => fun
  | [d1, d2] => { results := [.lit (.bool false)], args := [d1, d2] }
  | _ => none }
def FnExactChouetteOrderWrongFalsely : Prop := fnExactChouetteOrderRow.holds Try.pinned (OpenSpec.ofChange fnExactChouetteOrderWrong)

/-- 'laws.FnSettled': WHATEVER THE INPUT: true; the input reads as it did. -/
def fnSettledSpec : ChangeSpec := { name := "fnSettled", fn := fun _ => fun
  | [d] => { results := [.lit (.bool true)], args := [d] }
  | _ => none }
def fnSettledRow : OpenClaim := { program := "ytocdiflkegbffaa", sum := "7cd2495374b47effdbb457ad407c0d2ac40fb5e147e05d34958637a5642ed2bc", func := "loop.example/g00885/laws.FnSettled", spec := "fnSettled", apart := false }
def FnSettledSaid : Prop := fnSettledRow.holds Try.pinned (OpenSpec.ofChange fnSettledSpec)

/-- ITS FALSE NEIGHBOUR: 'it returns false'. Refute it at one input. -/
def fnSettledWrong : ChangeSpec := { name := "fnSettled", fn := fun _ => fun
  | [d] => { results := [.lit (.bool false)], args := [d] }
  | _ => none }
def FnSettledWrongFalsely : Prop := fnSettledRow.holds Try.pinned (OpenSpec.ofChange fnSettledWrong)

/-- 'laws.FnExactSettleUp': WHATEVER THE INPUT: true; the input reads as it did. -/
def fnExactSettleUpSpec : ChangeSpec := { name := "fnExactSettleUp", fn := fun _ => fun
  | [d] => { results := [.lit (.bool true)], args := [d] }
  | _ => none }
def fnExactSettleUpRow : OpenClaim := { program := "ytocdiflkegbffaa", sum := "7cd2495374b47effdbb457ad407c0d2ac40fb5e147e05d34958637a5642ed2bc", func := "loop.example/g00885/laws.FnExactSettleUp", spec := "fnExactSettleUp", apart := false }
def FnExactSettleUpSaid : Prop := fnExactSettleUpRow.holds Try.pinned (OpenSpec.ofChange fnExactSettleUpSpec)

/-- ITS FALSE NEIGHBOUR: 'it returns false'. Refute it at one input. -/
def fnExactSettleUpWrong : ChangeSpec := { name := "fnExactSettleUp", fn := fun _ => fun
  | [d] => { results := [.lit (.bool false)], args := [d] }
  | _ => none }
def FnExactSettleUpWrongFalsely : Prop := fnExactSettleUpRow.holds Try.pinned (OpenSpec.ofChange fnExactSettleUpWrong)

/-- 'laws.FnExactChouetteScores': WHATEVER THE INPUT: true; the input reads as it did. -/
def fnExactChouetteScoresSpec : ChangeSpec := { name := "fnExactChouetteScores", fn := fun _ => fun
  | [d1, d2] => { results := [.lit (.bool true)], args := [d1, d2] }
  | _ => none }
def fnExactChouetteScoresRow : OpenClaim := { program := "ytocdiflkegbffaa", sum := "7cd2495374b47effdbb457ad407c0d2ac40fb5e147e05d34958637a5642ed2bc", func := "loop.example/g00885/laws.FnExactChouetteScores", spec := "fnExactChouetteScores", apart := false }
def FnExactChouetteScoresSaid : Prop := fnExactChouetteScoresRow.holds Try.pinned (OpenSpec.ofChange fnExactChouetteScoresSpec)

/-- ITS FALSE NEIGHBOUR: 'it returns false'. Refute it at one input. -/
def fnExactChouetteScoresWrong : ChangeSpec := { name := "fnExactChouetteScores", fn := fun _ => fun
  | [d1, d2] => { results := [.lit (.bool false)], args := [d1, d2] }
  | _ => none }
def FnExactChouetteScoresWrongFalsely : Prop := fnExactChouetteScoresRow.holds Try.pinned (OpenSpec.ofChange fnExactChouetteScoresWrong)

/-- 'laws.FnChouette': WHATEVER THE INPUT: true; the input reads as it did. -/
def fnChouetteSpec : ChangeSpec := { name := "fnChouette", fn := fun _ => fun
  | [d] => { results := [.lit (.bool true)], args := [d] }
  | _ => none }
def fnChouetteRow : OpenClaim := { program := "ytocdiflkegbffaa", sum := "7cd2495374b47effdbb457ad407c0d2ac40fb5e147e05d34958637a5642ed2bc", func := "loop.example/g00885/laws.FnChouette", spec := "fnChouette", apart := false }
def FnChouetteSaid : Prop := fnChouetteRow.holds Try.pinned (OpenSpec.ofChange fnChouetteSpec)

/-- ITS FALSE NEIGHBOUR: 'it returns false'. Refute it at one input. -/
def fnChouetteWrong : ChangeSpec := { name := "fnChouette", fn := fun _ => fun
  | [d] => { results := [.lit (.bool false)], args := [d] }
  | _ => none }
def FnChouetteWrongFalsely : Prop := fnChouetteRow.holds Try.pinned (OpenSpec.ofChange fnChouetteWrong)

/- THE SECOND FORM. 'bulk': how many values and letters a reading holds, each counted each time it is reached (what is shared counts as often as it is met; a slice's spare places count too). A statement '..UptoSaid' is the law's where the arguments, and the package variables that the reading takes, are together of bulk at most 1048576: NARROWER than '..Said'. Prove '..Said' where nothing that the law and all that it calls make is longer than what came in: it says more and counts as full. Else prove '..UptoSaid'. A law counts once. -/
mutual
def uptoBulk {H : Type} : DataW H → Nat
  | .lit (.string bytes) => bytes.length + 1
  | .lit _ => 1
  | .nil => 1
  | .ptr d => uptoBulk d + 1
  | .slice elems spare => uptoBulkAll elems + uptoBulkAll spare + 1
  | .agg parts => uptoBulkAll parts + 1
  | .iface _ d => uptoBulk d + 1
  | .map entries => uptoBulkEntries entries + 1
  | .held _ => 1
def uptoBulkAll {H : Type} : List (DataW H) → Nat
  | [] => 0
  | d :: r => uptoBulk d + uptoBulkAll r
def uptoBulkEntries {H : Type} : List (Lit × DataW H) → Nat
  | [] => 0
  | x :: r => uptoBulkEntry x + uptoBulkEntries r
def uptoBulkEntry {H : Type} : Lit × DataW H → Nat
  | (.string bytes, d) => bytes.length + uptoBulk d + 1
  | (_, d) => uptoBulk d + 1
 end
def uptoSmall : (H : Type) → List (DataW H) → Bool := fun _ ds => decide (uptoBulkAll ds ≤ 1048576)
def OpenSpec.upto (s : _root_.Go.ChangeSpec) : _root_.Go.OpenSpec := { _root_.Go.OpenSpec.ofChange s with cond := some uptoSmall }

/-- 'laws.FnExactIsSession', WHERE WHAT IT READS IS OF BULK AT MOST 1048576: true; the input reads as it did. -/
def fnExactIsSessionUptoRow : OpenClaim := { program := "ytocdiflkegbffaa", sum := "7cd2495374b47effdbb457ad407c0d2ac40fb5e147e05d34958637a5642ed2bc", func := "loop.example/g00885/laws.FnExactIsSession", spec := "fnExactIsSession", apart := false, narrowed := true }
def FnExactIsSessionUptoSaid : Prop := fnExactIsSessionUptoRow.holds Try.pinned (OpenSpec.upto fnExactIsSessionSpec)

/-- 'laws.FnExactIsChouette', WHERE WHAT IT READS IS OF BULK AT MOST 1048576: true; the input reads as it did. -/
def fnExactIsChouetteUptoRow : OpenClaim := { program := "ytocdiflkegbffaa", sum := "7cd2495374b47effdbb457ad407c0d2ac40fb5e147e05d34958637a5642ed2bc", func := "loop.example/g00885/laws.FnExactIsChouette", spec := "fnExactIsChouette", apart := false, narrowed := true }
def FnExactIsChouetteUptoSaid : Prop := fnExactIsChouetteUptoRow.holds Try.pinned (OpenSpec.upto fnExactIsChouetteSpec)

/-- 'laws.FnBalances', WHERE WHAT IT READS IS OF BULK AT MOST 1048576: true; the input reads as it did. -/
def fnBalancesUptoRow : OpenClaim := { program := "ytocdiflkegbffaa", sum := "7cd2495374b47effdbb457ad407c0d2ac40fb5e147e05d34958637a5642ed2bc", func := "loop.example/g00885/laws.FnBalances", spec := "fnBalances", apart := false, narrowed := true }
def FnBalancesUptoSaid : Prop := fnBalancesUptoRow.holds Try.pinned (OpenSpec.upto fnBalancesSpec)

/-- 'laws.FnExactPairTotal', WHERE WHAT IT READS IS OF BULK AT MOST 1048576: true; the input reads as it did. -/
def fnExactPairTotalUptoRow : OpenClaim := { program := "ytocdiflkegbffaa", sum := "7cd2495374b47effdbb457ad407c0d2ac40fb5e147e05d34958637a5642ed2bc", func := "loop.example/g00885/laws.FnExactPairTotal", spec := "fnExactPairTotal", apart := false, narrowed := true }
def FnExactPairTotalUptoSaid : Prop := fnExactPairTotalUptoRow.holds Try.pinned (OpenSpec.upto fnExactPairTotalSpec)

/-- 'laws.FnExactBalancesOf', WHERE WHAT IT READS IS OF BULK AT MOST 1048576: true; the input reads as it did. -/
def fnExactBalancesOfUptoRow : OpenClaim := { program := "ytocdiflkegbffaa", sum := "7cd2495374b47effdbb457ad407c0d2ac40fb5e147e05d34958637a5642ed2bc", func := "loop.example/g00885/laws.FnExactBalancesOf", spec := "fnExactBalancesOf", apart := false, narrowed := true }
def FnExactBalancesOfUptoSaid : Prop := fnExactBalancesOfUptoRow.holds Try.pinned (OpenSpec.upto fnExactBalancesOfSpec)

/-- 'laws.FnExactChouetteOrder', WHERE WHAT IT READS IS OF BULK AT MOST 1048576: true; the input reads as it did. -/
def fnExactChouetteOrderUptoRow : OpenClaim := { program := "ytocdiflkegbffaa", sum := "7cd2495374b47effdbb457ad407c0d2ac40fb5e147e05d34958637a5642ed2bc", func := "loop.example/g00885/laws.FnExactChouetteOrder", spec := "fnExactChouetteOrder", apart := false, narrowed := true }
def FnExactChouetteOrderUptoSaid : Prop := fnExactChouetteOrderUptoRow.holds Try.pinned (OpenSpec.upto fnExactChouetteOrderSpec)

/-- 'laws.FnSettled', WHERE WHAT IT READS IS OF BULK AT MOST 1048576: true; the input reads as it did. -/
def fnSettledUptoRow : OpenClaim := { program := "ytocdiflkegbffaa", sum := "7cd2495374b47effdbb457ad407c0d2ac40fb5e147e05d34958637a5642ed2bc", func := "loop.example/g00885/laws.FnSettled", spec := "fnSettled", apart := false, narrowed := true }
def FnSettledUptoSaid : Prop := fnSettledUptoRow.holds Try.pinned (OpenSpec.upto fnSettledSpec)

/-- 'laws.FnExactSettleUp', WHERE WHAT IT READS IS OF BULK AT MOST 1048576: true; the input reads as it did. -/
def fnExactSettleUpUptoRow : OpenClaim := { program := "ytocdiflkegbffaa", sum := "7cd2495374b47effdbb457ad407c0d2ac40fb5e147e05d34958637a5642ed2bc", func := "loop.example/g00885/laws.FnExactSettleUp", spec := "fnExactSettleUp", apart := false, narrowed := true }
def FnExactSettleUpUptoSaid : Prop := fnExactSettleUpUptoRow.holds Try.pinned (OpenSpec.upto fnExactSettleUpSpec)

/-- 'laws.FnExactChouetteScores', WHERE WHAT IT READS IS OF BULK AT MOST 1048576: true; the input reads as it did. -/
def fnExactChouetteScoresUptoRow : OpenClaim := { program := "ytocdiflkegbffaa", sum := "7cd2495374b47effdbb457ad407c0d2ac40fb5e147e05d34958637a5642ed2bc", func := "loop.example/g00885/laws.FnExactChouetteScores", spec := "fnExactChouetteScores", apart := false, narrowed := true }
def FnExactChouetteScoresUptoSaid : Prop := fnExactChouetteScoresUptoRow.holds Try.pinned (OpenSpec.upto fnExactChouetteScoresSpec)

/-- 'laws.FnChouette', WHERE WHAT IT READS IS OF BULK AT MOST 1048576: true; the input reads as it did. -/
def fnChouetteUptoRow : OpenClaim := { program := "ytocdiflkegbffaa", sum := "7cd2495374b47effdbb457ad407c0d2ac40fb5e147e05d34958637a5642ed2bc", func := "loop.example/g00885/laws.FnChouette", spec := "fnChouette", apart := false, narrowed := true }
def FnChouetteUptoSaid : Prop := fnChouetteUptoRow.holds Try.pinned (OpenSpec.upto fnChouetteSpec)

end Rows
end Go.Proofs.Ytocdiflkegbffaa
