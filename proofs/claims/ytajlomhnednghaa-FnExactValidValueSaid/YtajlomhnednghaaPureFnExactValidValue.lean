/- The law FnExactValidValue answers true: program and reference agree on whether a value is valid. Conditions: none. -/
import Derived.Test.YtajlomhnednghaaValue
import Derived.Test.YtajlomhnednghaaQx5
namespace Go.Proofs.Ytajlomhnednghaa.Pure
open Go.RowKit Go.Proofs.Ytajlomhnednghaa.Q Go.Proofs.YtajlomhnednghaaW.PrintWords Go.Proofs.YtajlomhnednghaaW.PrintLast Go.Proofs.YtajlomhnednghaaW.PrintMore
set_option linter.unusedVariables false
theorem FnExactValidValue (x0_0 : Int) (x0_1 : Int) (x0_2 : ByteArray) (hg0 : (Lit.int .i64 x0_0).wf = true ∧ (Lit.int .i64 x0_1).wf = true ∧ x0_2.size ≤ maxLen) : ∃ k, laws_FnExactValidValue.f k x0_0 x0_1 x0_2 = some true := by
  refine ⟨2, ?_⟩
  unfold laws_FnExactValidValue.f laws_szValue.f
  split
  · rfl
  · simp only [Option.bind_some, laws_toValue.f, specValid 0, implValid 0]
    split
    · rfl
    · simp
end Go.Proofs.Ytajlomhnednghaa.Pure
