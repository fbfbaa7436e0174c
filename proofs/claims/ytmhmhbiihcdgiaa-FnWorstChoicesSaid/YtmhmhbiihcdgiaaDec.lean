/-
  Numbers as decimal texts: strconv.FormatInt at base 10, impl.decimal, spec.l09Decimal.
-/
import Derived.Test.YtmhmhbiihcdgiaaEx
import Derived.Test.YtmhmhbiihcdgiaaApp
import Derived.Test.YtmhmhbiihcdgiaaDecP
import Derived.Lib.MinMax
namespace Go.Proofs.Ytmhmhbiihcdgiaa
open Go.ChangeShapes Go.WideShapes Go.ChangeAt Go.RowKit
set_option linter.unusedVariables false

end Go.Proofs.Ytmhmhbiihcdgiaa
