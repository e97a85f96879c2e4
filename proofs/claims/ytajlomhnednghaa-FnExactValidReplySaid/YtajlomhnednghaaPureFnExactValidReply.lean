/- The law FnExactValidReply answers true: program and reference agree on whether a reply is valid. Conditions: none. -/
import Derived.Test.YtajlomhnednghaaPFnExactValidReplyx1
namespace Go.Proofs.Ytajlomhnednghaa.Pure
open Go.RowKit Go.Proofs.Ytajlomhnednghaa.PFnExactValidReply Go.Proofs.YtajlomhnednghaaW.PrintWords Go.Proofs.YtajlomhnednghaaW.PrintLast

set_option linter.unusedVariables false
theorem validReply_same (a : Int) (s : ByteArray) : impl_ValidReply.f a s = spec_ValidReply.f a s := rfl
theorem validReply_some (a : Int) (s : ByteArray) : ∃ b, spec_ValidReply.f a s = some b := by
  unfold spec_ValidReply.f
  repeat' split
  all_goals exact ⟨_, rfl⟩
theorem szReply_some (a : Int) (s : ByteArray) (l : Int) : ∃ b, laws_szReply.f a s l = some b := by
  unfold laws_szReply.f
  split <;> exact ⟨_, rfl⟩

theorem FnExactValidReply (x0_0 : Int) (x0_1 : ByteArray) (hg0 : (Lit.int .i64 x0_0).wf = true ∧ x0_1.size ≤ maxLen) : laws_FnExactValidReply.f x0_0 x0_1 = some true := by
  obtain ⟨n, hn⟩ := szReply_some x0_0 x0_1 1048576
  obtain ⟨b, hb⟩ := validReply_some x0_0 x0_1
  unfold laws_FnExactValidReply.f
  rw [hn]; simp only [Option.bind_some]
  split
  · rfl
  · simp only [laws_toReply.f, Option.bind_some, validReply_same, hb]
    simp
end Go.Proofs.Ytajlomhnednghaa.Pure
