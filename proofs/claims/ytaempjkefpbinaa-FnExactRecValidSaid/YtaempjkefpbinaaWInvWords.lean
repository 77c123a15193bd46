/- Words for this claim's walks, out of the kit's print: what the claim names. -/
import Derived.Test.YtaempjkefpbinaaWInv
import Derived.Test.YtaempjkefpbinaaWFootNe
namespace Go.Proofs.YtaempjkefpbinaaW.PrintWords
open Go.RowKit
end Go.Proofs.YtaempjkefpbinaaW.PrintWords
namespace Go.Proofs.YtaempjkefpbinaaW.PrintLast
section
variable {ops : Array Oper} {a : Act} {o og : Oper} {g : Nat} {t : Tmp} {u : Bool}
end
end Go.Proofs.YtaempjkefpbinaaW.PrintLast
