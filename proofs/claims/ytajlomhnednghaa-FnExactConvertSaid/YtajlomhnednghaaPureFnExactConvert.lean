/- The law FnExactConvert answers true: program and reference convert a value alike. Conditions: none. -/
import Derived.Test.YtajlomhnednghaaValue
import Derived.Test.YtajlomhnednghaaQx14
import Derived.Test.YtajlomhnednghaaQx13
namespace Go.Proofs.Ytajlomhnednghaa.Pure
open Go.RowKit Go.Proofs.Ytajlomhnednghaa.Q Go.Proofs.YtajlomhnednghaaW.PrintWords Go.Proofs.YtajlomhnednghaaW.PrintLast Go.Proofs.YtajlomhnednghaaW.PrintMore
set_option linter.unusedVariables false
theorem convert_same (t n : Int) (s : ByteArray) (u : Int) : ∃ r, spec_Convert.f 2 t n s u = some r ∧ impl_Convert.f 2 t n s u = some r := by
  have h := u64_range n
  unfold spec_Convert.f impl_Convert.f
  rw [specValid 0, implValid 0]
  simp only [Option.bind_some, spec_l1Integer.f, impl_integer.f, spec_l4Num.f, specInto 0 u _ h.1 h.2, implInto 0 u _ h.1 h.2]
  by_cases h1 : valid t n s = true <;> by_cases a : 3 ≤ t <;> by_cases b : t ≤ 10 <;> by_cases c : 3 ≤ u <;> by_cases d : u ≤ 10 <;> simp [h1, a, b, c, d]
theorem FnExactConvert (x0_0 : Int) (x0_1 : Int) (x0_2 : ByteArray) (x1 : Int) (hg0 : (Lit.int .i64 x0_0).wf = true ∧ (Lit.int .i64 x0_1).wf = true ∧ x0_2.size ≤ maxLen) (hg1 : (Lit.int .i64 x1).wf = true) : ∃ k, laws_FnExactConvert.f k x0_0 x0_1 x0_2 x1 = some true := by
  refine ⟨2, ?_⟩
  obtain ⟨⟨r0, r1, r2, r3⟩, h1, h2⟩ := convert_same x0_0 x0_1 x0_2 x1
  unfold laws_FnExactConvert.f laws_szValue.f
  split
  · rfl
  · simp only [Option.bind_some, laws_toValue.f, h1, h2]
    split
    · rfl
    · simp [laws_eqValue.f]
end Go.Proofs.Ytajlomhnednghaa.Pure
