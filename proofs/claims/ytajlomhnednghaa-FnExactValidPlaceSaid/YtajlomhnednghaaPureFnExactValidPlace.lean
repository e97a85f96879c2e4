/- The law FnExactValidPlace answers true: program and reference agree on whether a place is valid. Conditions: none. -/
import Derived.Test.YtajlomhnednghaaPureB
namespace Go.Proofs.Ytajlomhnednghaa.Pure
open Go.RowKit Go.Proofs.Ytajlomhnednghaa.R Go.Proofs.YtajlomhnednghaaW.PrintWords Go.Proofs.YtajlomhnednghaaW.PrintLast Go.Proofs.YtajlomhnednghaaW.PrintMore
set_option linter.unusedVariables false
theorem FnExactValidPlace (x0_0 : List (S113)) (hg0 : (x0_0.length ≤ maxLen ∧ ∀ y4 ∈ x0_0, good113 y4)) : ∃ k, laws_FnExactValidPlace.f k x0_0 = some true := by
  obtain ⟨hl, hm⟩ := hg0
  refine ⟨x0_0.length + 64, ?_⟩
  generalize hk : x0_0.length + 64 = k
  unfold laws_FnExactValidPlace.f
  obtain ⟨n, hn, _, hle⟩ := szPlace_ends x0_0 hl hm 1048576 (by omega) (by omega) k (by omega)
  rw [hn]; simp only [Option.bind_some]
  split
  · rfl
  · have h1 := toFileS_ends x0_0 (by have := hle (by omega); omega) k (by omega)
    have hlen : (x0_0.map toF).length = x0_0.length := by simp
    obtain ⟨b, hb⟩ := validPlace_ends (x0_0.map toF) (by omega) k (by omega)
    simp only [laws_toPlace.f, h1, Option.bind_some, validPlace_same, hb]
    rw [if_neg (by simp)]
    unfold laws_eqPlace.f
    rw [eqFileS_ends _ (by omega) k (by omega)]
    rfl
end Go.Proofs.Ytajlomhnednghaa.Pure
