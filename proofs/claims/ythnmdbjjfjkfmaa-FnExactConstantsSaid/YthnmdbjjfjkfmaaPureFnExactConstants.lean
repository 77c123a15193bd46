/- Every exported constant of the program is the document's; no condition. -/
import Derived.Test.YthnmdbjjfjkfmaaPFnExactConstantsx1
namespace Go.Proofs.Ythnmdbjjfjkfmaa.Pure
open Go.RowKit Go.Proofs.Ythnmdbjjfjkfmaa.PFnExactConstants Go.Proofs.YthnmdbjjfjkfmaaW.PrintWords Go.Proofs.YthnmdbjjfjkfmaaW.PrintLast

theorem FnExactConstants : laws_FnExactConstants.Pure := rfl

end Go.Proofs.Ythnmdbjjfjkfmaa.Pure
