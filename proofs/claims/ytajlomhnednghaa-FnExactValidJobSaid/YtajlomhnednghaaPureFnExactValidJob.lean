/- The law FnExactValidJob answers true: program and reference agree on whether a job is valid. Conditions: none. -/
import Derived.Test.YtajlomhnednghaaPureA
namespace Go.Proofs.Ytajlomhnednghaa.Pure
open Go.RowKit Go.Proofs.Ytajlomhnednghaa.R Go.Proofs.YtajlomhnednghaaW.PrintWords Go.Proofs.YtajlomhnednghaaW.PrintLast Go.Proofs.YtajlomhnednghaaW.PrintMore
set_option linter.unusedVariables false
theorem FnExactValidJob (x0_0 : ByteArray) (x0_1 : List (ByteArray)) (hg0 : x0_0.size ≤ maxLen ∧ (x0_1.length ≤ maxLen ∧ ∀ y4 ∈ x0_1, y4.size ≤ maxLen)) : ∃ k, laws_FnExactValidJob.f k x0_0 x0_1 = some true := by
  obtain ⟨hs, hl, hm⟩ := hg0
  refine ⟨x0_1.length + 64, ?_⟩
  generalize hk : x0_1.length + 64 = k
  unfold laws_FnExactValidJob.f laws_szJob.f
  rw [wrap_sub (by omega) (by omega) hs]
  split
  · rfl
  · obtain ⟨n, hn, hle⟩ := szStringS_ends x0_1 hl hm (1048576 - x0_0.size) (by omega) (by omega) k (by omega)
    rw [hn]; simp only [Option.bind_some]
    by_cases hneg : n < 0
    · rw [if_pos hneg]; rfl
    · rw [if_neg hneg]; simp only [Option.bind_some]; rw [if_neg hneg]
      have h1 := toStringS_ends x0_1 (by have := hle (by omega); omega) k (by omega)
      obtain ⟨b, hb⟩ := validJob_ends x0_0 x0_1 hl k (by omega)
      simp only [laws_toJob.f, h1, Option.bind_some, validJob_same, hb]
      rw [if_neg (by simp)]
      unfold laws_eqJob.f
      rw [if_pos rfl, eqStringS_ends x0_1 hl k (by omega)]
      rfl
end Go.Proofs.Ytajlomhnednghaa.Pure
