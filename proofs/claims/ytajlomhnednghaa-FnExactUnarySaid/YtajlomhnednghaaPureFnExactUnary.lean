/- The law FnExactUnary answers true: program and reference do a mark with one kid alike. Conditions: none. -/
import Derived.Test.YtajlomhnednghaaValue
import Derived.Test.YtajlomhnednghaaRx50
import Derived.Test.YtajlomhnednghaaRx46
import Derived.Test.YtajlomhnednghaaRx49
namespace Go.Proofs.Ytajlomhnednghaa.Pure
open Go.RowKit Go.Proofs.Ytajlomhnednghaa.R Go.Proofs.Ytajlomhnednghaa.Arith Go.Proofs.YtajlomhnednghaaW.PrintWords Go.Proofs.YtajlomhnednghaaW.PrintLast Go.Proofs.YtajlomhnednghaaW.PrintMore
set_option linter.unusedVariables false
set_option linter.unusedSimpArgs false
theorem xor_range (x : Int) : 0 ≤ Go.bits .xor .u64 18446744073709551615 x ∧ Go.bits .xor .u64 18446744073709551615 x < 18446744073709551616 := u64_range _
theorem valid_one {n : Int} {s : ByteArray} (h : valid 1 n s = true) : n = 0 ∨ n = 1 := by
  unfold valid at h
  simp at h
  exact h.1
theorem unary_same (op t n : Int) (s : ByteArray) : ∃ r, spec_Unary.f 3 op t n s = some r ∧ impl_Unary.f 3 op t n s = some r := by
  have h := u64_range (-(IntKind.u64.wrap n))
  have hx := xor_range (IntKind.u64.wrap n)
  unfold spec_Unary.f impl_Unary.f
  rw [specValid 1, implValid 1]
  simp only [Option.bind_some, spec_l3Un.f, impl_unType.f, spec_l1Integer.f, impl_integer.f, spec_Unary.j0, impl_Unary.j0, spec_l4Num.f, specInto 0 t _ h.1 h.2, implInto 0 t _ h.1 h.2, specInto 0 t _ hx.1 hx.2, implInto 0 t _ hx.1 hx.2, spec_l4Bool.f, impl_truth.f]
  by_cases h1 : valid t n s = true
  · by_cases o1 : op = 1
    · subst o1
      by_cases a : 3 ≤ t <;> by_cases b : t ≤ 10 <;> by_cases t0 : t = 0 <;> first | omega | simp [h1, a, b, t0]
    · by_cases o2 : op = 2
      · subst o2
        by_cases a : t = 1
        · subst a
          by_cases n0 : n = 0
          · subst n0; simp [h1]
          · simp [h1, n0]
        · simp [h1, a]
      · by_cases o3 : op = 3
        · subst o3
          by_cases a : 3 ≤ t <;> by_cases b : t ≤ 10 <;> by_cases t0 : t = 0 <;> first | omega | simp [h1, a, b, t0]
        · by_cases c : op < 1
          · simp [h1, o1, o2, o3, c]
          · have d : 3 < op := by omega
            simp [h1, o1, o2, o3, c, d]
  · simp [h1]
theorem FnExactUnary (x0 : Int) (x1_0 : Int) (x1_1 : Int) (x1_2 : ByteArray) (hg0 : (Lit.int .i64 x0).wf = true) (hg1 : (Lit.int .i64 x1_0).wf = true ∧ (Lit.int .i64 x1_1).wf = true ∧ x1_2.size ≤ maxLen) : ∃ k, laws_FnExactUnary.f k x0 x1_0 x1_1 x1_2 = some true := by
  refine ⟨3, ?_⟩
  obtain ⟨⟨r0, r1, r2, r3⟩, h1, h2⟩ := unary_same x0 x1_0 x1_1 x1_2
  unfold laws_FnExactUnary.f laws_szValue.f
  split
  · rfl
  · simp only [Option.bind_some, laws_toValue.f, h1, h2]
    split
    · rfl
    · simp [laws_eqValue.f]
end Go.Proofs.Ytajlomhnednghaa.Pure
