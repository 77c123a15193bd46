/- Words for this claim's walks, out of the kit's print: what the claim names. -/
import Derived.Test.YtjkhlhopfaapmaaWInv
import Derived.Test.YtjkhlhopfaapmaaWFootNe
namespace Go.Proofs.YtjkhlhopfaapmaaW.PrintWords
open Go.RowKit
end Go.Proofs.YtjkhlhopfaapmaaW.PrintWords
namespace Go.Proofs.YtjkhlhopfaapmaaW.PrintLast
section
variable {ops : Array Oper} {a : Act} {o og : Oper} {g : Nat} {t : Tmp} {u : Bool}
end
end Go.Proofs.YtjkhlhopfaapmaaW.PrintLast
