/- The pure statement of the law FnExactConstants: what the two printed functions compute is the same, for every input that the row reads; no condition beyond the row's own. -/
import Derived.Test.YtiahfopdamngiaaPFnExactConstantsx1
namespace Go.Proofs.Ytiahfopdamngiaa.Pure
open Go.RowKit Go.Proofs.Ytiahfopdamngiaa.PFnExactConstants Go.Proofs.YtiahfopdamngiaaW.PrintWords Go.Proofs.YtiahfopdamngiaaW.PrintLast Go.Proofs.YtiahfopdamngiaaW.PrintMore

theorem FnExactConstants : laws_FnExactConstants.Pure := rfl

end Go.Proofs.Ytiahfopdamngiaa.Pure
