/- What is proved: the law FnExactConstants answers true. Conditions: none. -/
import Derived.Test.YtajlomhnednghaaPFnExactConstantsx1
namespace Go.Proofs.Ytajlomhnednghaa.Pure
open Go.RowKit Go.Proofs.Ytajlomhnednghaa.PFnExactConstants Go.Proofs.YtajlomhnednghaaW.PrintWords Go.Proofs.YtajlomhnednghaaW.PrintLast

theorem FnExactConstants : laws_FnExactConstants.Pure := rfl

end Go.Proofs.Ytajlomhnednghaa.Pure
