/- Machine side of the law FnExactRecWorldOk: each function named below comes to what the Lean function of its name computes; conditions: the facts named in each theorem. -/
import Derived.Test.YtjkhlhopfaapmaaPFnExactRecWorldOkx0
import Derived.Test.YtjkhlhopfaapmaaPFnExactRecWorldOkx1
import Derived.Test.YtjkhlhopfaapmaaPFnExactRecWorldOkx2
import Derived.Test.YtjkhlhopfaapmaaPFnExactRecWorldOkx3
import Derived.Test.YtjkhlhopfaapmaaPFnExactRecWorldOkx4
import Derived.Test.YtjkhlhopfaapmaaPFnExactRecWorldOkx5
namespace Go.Proofs.Ytjkhlhopfaapmaa.PFnExactRecWorldOk
open Go.RowKit Go.Proofs.YtjkhlhopfaapmaaW.PrintWords Go.Proofs.YtjkhlhopfaapmaaW.PrintLast Go.Proofs.YtjkhlhopfaapmaaW.PrintMore
attribute [local go_sem] max2_int min2_int max_two min_two max_three min_three max_four min_four   -- for this text's walks alone
set_option linter.unusedVariables false
set_option linter.unusedSimpArgs false

end Go.Proofs.Ytjkhlhopfaapmaa.PFnExactRecWorldOk
