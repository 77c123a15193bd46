/- Machine side of the law FnExactRecNew: each function named below comes to what the Lean function of its name computes; conditions: the facts named in each theorem. -/
import Derived.Test.YthnmdbjjfjkfmaaPFnExactRecNewx0
import Derived.Test.YthnmdbjjfjkfmaaPFnExactRecNewx1
import Derived.Test.YthnmdbjjfjkfmaaPFnExactRecNewx2
import Derived.Test.YthnmdbjjfjkfmaaPFnExactRecNewx3
import Derived.Test.YthnmdbjjfjkfmaaPFnExactRecNewx4
import Derived.Test.YthnmdbjjfjkfmaaPFnExactRecNewx5
namespace Go.Proofs.Ythnmdbjjfjkfmaa.PFnExactRecNew
open Go.RowKit Go.Proofs.YthnmdbjjfjkfmaaW.PrintWords Go.Proofs.YthnmdbjjfjkfmaaW.PrintLast Go.Proofs.YthnmdbjjfjkfmaaW.PrintMore
attribute [local go_sem] max2_int min2_int max_two min_two max_three min_three max_four min_four   -- for this text's walks alone
set_option linter.unusedVariables false
set_option linter.unusedSimpArgs false

end Go.Proofs.Ythnmdbjjfjkfmaa.PFnExactRecNew
