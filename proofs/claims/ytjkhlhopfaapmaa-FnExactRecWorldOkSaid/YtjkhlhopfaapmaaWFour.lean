/- Words for this claim's walks, out of the kit's print: what the claim names. -/
import Derived.Test.YtjkhlhopfaapmaaWTab
/-! ### 56. Four, five, six operations that may come up next, in any order -/
namespace Go.Proofs.YtjkhlhopfaapmaaW.PrintLast
section
variable {P : Program} {ops : Array Oper} {Q : Exit → Act → World → Prop} {md : Region.Mode} {S : World → Prop} {ds : List Nat} {T : Bool × List (List Nat × List Nat)}
end
end Go.Proofs.YtjkhlhopfaapmaaW.PrintLast
