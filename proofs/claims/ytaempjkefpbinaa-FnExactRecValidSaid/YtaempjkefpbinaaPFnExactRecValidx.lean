/- Machine side of the law FnExactRecValid: each function named below comes to what the Lean function of its name computes; conditions: the facts named in each theorem. -/
import Derived.Test.YtaempjkefpbinaaPFnExactRecValidx0
import Derived.Test.YtaempjkefpbinaaPFnExactRecValidx1
import Derived.Test.YtaempjkefpbinaaPFnExactRecValidx2
import Derived.Test.YtaempjkefpbinaaPFnExactRecValidx3
import Derived.Test.YtaempjkefpbinaaPFnExactRecValidx4
import Derived.Test.YtaempjkefpbinaaPFnExactRecValidx5
import Derived.Test.YtaempjkefpbinaaPFnExactRecValidx6
import Derived.Test.YtaempjkefpbinaaPFnExactRecValidx7
import Derived.Test.YtaempjkefpbinaaPFnExactRecValidx8
import Derived.Test.YtaempjkefpbinaaPFnExactRecValidx9
import Derived.Test.YtaempjkefpbinaaPFnExactRecValidx10
namespace Go.Proofs.Ytaempjkefpbinaa.PFnExactRecValid
open Go.RowKit Go.Proofs.YtaempjkefpbinaaW.PrintWords Go.Proofs.YtaempjkefpbinaaW.PrintLast Go.Proofs.YtaempjkefpbinaaW.PrintMore
attribute [local go_sem] max2_int min2_int max_two min_two max_three min_three max_four min_four   -- for this text's walks alone
set_option linter.unusedVariables false
set_option linter.unusedSimpArgs false

end Go.Proofs.Ytaempjkefpbinaa.PFnExactRecValid
