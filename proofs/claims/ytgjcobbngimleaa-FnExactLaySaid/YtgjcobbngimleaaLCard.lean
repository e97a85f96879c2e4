/- The row's statement: FnExactLay. Conditions: none. -/
import Derived.Test.YtgjcobbngimleaaLRow
namespace Go.Proofs.Ytgjcobbngimleaa
open Go Go.KM.L1
theorem fnExactLay_holds : Rows.FnExactLaySaid := over
#print axioms fnExactLay_holds
end Go.Proofs.Ytgjcobbngimleaa
