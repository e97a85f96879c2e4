/-
  No cell of these rows narrows 'for every input' (looked for: loops, veiled, ifaces, maps, wideKeys, modest, calm, conditions, laid).
  DERIVED. THE GIVEN ROWS OF THIS SEAT. 12 by the template 'for every input the law returns true; each argument reads behind the call as it read before'; 0 by the template 'total and deterministic' (their statements: YtajlomhnednghaaTotals.lean).
  GIVEN WITH THE SEED: the statements are not yours to turn. If you find one false, say at which input.
  Laid BY PROGRAM, IN A SANDBOX (cutbox-rows.mjs): the forced cells as the released guide's own fill.sh prints them over the translation 06c36e7f85cc23f7… (all of the seat's roots in one cut). By AI agents, Wed Nov 11 2026. No macro, syntax, notation, axiom, sorry.
-/
import Derived.Test.YtajlomhnednghaaChecked
import GoSem.Claim
import GoSem.ClaimJoined
import GoSem.ClaimMapViews
import Derived.JoinedTies
import Derived.KernelRfl
namespace Go.Proofs.Ytajlomhnednghaa
/- THE CELL 'sum', in the pinned program and in every row, IS THE sha256 OF THE DUMP (.gsa) THAT YtajlomhnednghaaProg.lean LOADS. Nothing in Lean hashes anything: it is a label: what it is worth is what the hold of that sum in a sandbox is worth. -/
noncomputable def Try.pinned : Pinned := { name := "ytajlomhnednghaa", sum := "06c36e7f85cc23f7b8e305408ca945ca42a1e0a73fde4661c1c7d87f509698e3", checked := Try.checked }
namespace Rows
def none {H : Type} : Left H := { results := [], args := [] }

/-- 'laws.FnExactConstants': WHATEVER THE INPUT: true; the input reads as it did. -/
def fnExactConstantsSpec : ChangeSpec := { name := "fnExactConstants", fn := fun _ => fun
  | [] => { results := [.lit (.bool true)], args := [] }
  | _ => none }
def fnExactConstantsRow : OpenClaim := { program := "ytajlomhnednghaa", sum := "06c36e7f85cc23f7b8e305408ca945ca42a1e0a73fde4661c1c7d87f509698e3", func := "loop.example/kilnmill/laws.FnExactConstants", spec := "fnExactConstants", apart := false }
def FnExactConstantsSaid : Prop := fnExactConstantsRow.holds Try.pinned (OpenSpec.ofChange fnExactConstantsSpec)

/-- ITS FALSE NEIGHBOUR: 'it returns false'. Refute it at one input. -/
def fnExactConstantsWrong : ChangeSpec := { name := "fnExactConstants", fn := fun _ => fun
  | [] => { results := [.lit (.bool false)], args := [] }
  | _ => none }
def FnExactConstantsWrongFalsely : Prop := fnExactConstantsRow.holds Try.pinned (OpenSpec.ofChange fnExactConstantsWrong)

/-- 'laws.FnExactValidReply': WHATEVER THE INPUT: true; the input reads as it did. -/
def fnExactValidReplySpec : ChangeSpec := { name := "fnExactValidReply", fn := fun _ => fun
  | [d] => { results := [.lit (.bool true)], args := [d] }
  | _ => none }
def fnExactValidReplyRow : OpenClaim := { program := "ytajlomhnednghaa", sum := "06c36e7f85cc23f7b8e305408ca945ca42a1e0a73fde4661c1c7d87f509698e3", func := "loop.example/kilnmill/laws.FnExactValidReply", spec := "fnExactValidReply", apart := false }
def FnExactValidReplySaid : Prop := fnExactValidReplyRow.holds Try.pinned (OpenSpec.ofChange fnExactValidReplySpec)

/-- ITS FALSE NEIGHBOUR: 'it returns false'. Refute it at one input. -/
def fnExactValidReplyWrong : ChangeSpec := { name := "fnExactValidReply", fn := fun _ => fun
  | [d] => { results := [.lit (.bool false)], args := [d] }
  | _ => none }
def FnExactValidReplyWrongFalsely : Prop := fnExactValidReplyRow.holds Try.pinned (OpenSpec.ofChange fnExactValidReplyWrong)

/-- 'laws.FnExactValidValue': WHATEVER THE INPUT: true; the input reads as it did. -/
def fnExactValidValueSpec : ChangeSpec := { name := "fnExactValidValue", fn := fun _ => fun
  | [d] => { results := [.lit (.bool true)], args := [d] }
  | _ => none }
def fnExactValidValueRow : OpenClaim := { program := "ytajlomhnednghaa", sum := "06c36e7f85cc23f7b8e305408ca945ca42a1e0a73fde4661c1c7d87f509698e3", func := "loop.example/kilnmill/laws.FnExactValidValue", spec := "fnExactValidValue", apart := false }
def FnExactValidValueSaid : Prop := fnExactValidValueRow.holds Try.pinned (OpenSpec.ofChange fnExactValidValueSpec)

/-- ITS FALSE NEIGHBOUR: 'it returns false'. Refute it at one input. -/
def fnExactValidValueWrong : ChangeSpec := { name := "fnExactValidValue", fn := fun _ => fun
  | [d] => { results := [.lit (.bool false)], args := [d] }
  | _ => none }
def FnExactValidValueWrongFalsely : Prop := fnExactValidValueRow.holds Try.pinned (OpenSpec.ofChange fnExactValidValueWrong)

/-- 'laws.FnExactValidJob': WHATEVER THE INPUT: true; the input reads as it did. -/
def fnExactValidJobSpec : ChangeSpec := { name := "fnExactValidJob", fn := fun _ => fun
  | [d] => { results := [.lit (.bool true)], args := [d] }
  | _ => none }
def fnExactValidJobRow : OpenClaim := { program := "ytajlomhnednghaa", sum := "06c36e7f85cc23f7b8e305408ca945ca42a1e0a73fde4661c1c7d87f509698e3", func := "loop.example/kilnmill/laws.FnExactValidJob", spec := "fnExactValidJob", apart := false }
def FnExactValidJobSaid : Prop := fnExactValidJobRow.holds Try.pinned (OpenSpec.ofChange fnExactValidJobSpec)

/-- ITS FALSE NEIGHBOUR: 'it returns false'. Refute it at one input. -/
def fnExactValidJobWrong : ChangeSpec := { name := "fnExactValidJob", fn := fun _ => fun
  | [d] => { results := [.lit (.bool false)], args := [d] }
  | _ => none }
def FnExactValidJobWrongFalsely : Prop := fnExactValidJobRow.holds Try.pinned (OpenSpec.ofChange fnExactValidJobWrong)

/-- 'laws.FnExactConvert': WHATEVER THE INPUT: true; the input reads as it did. -/
def fnExactConvertSpec : ChangeSpec := { name := "fnExactConvert", fn := fun _ => fun
  | [d1, d2] => { results := [.lit (.bool true)], args := [d1, d2] }
  | _ => none }
def fnExactConvertRow : OpenClaim := { program := "ytajlomhnednghaa", sum := "06c36e7f85cc23f7b8e305408ca945ca42a1e0a73fde4661c1c7d87f509698e3", func := "loop.example/kilnmill/laws.FnExactConvert", spec := "fnExactConvert", apart := false }
def FnExactConvertSaid : Prop := fnExactConvertRow.holds Try.pinned (OpenSpec.ofChange fnExactConvertSpec)

/-- ITS FALSE NEIGHBOUR: 'it returns false'. Refute it at one input. -/
def fnExactConvertWrong : ChangeSpec := { name := "fnExactConvert", fn := fun _ => fun
  | [d1, d2] => { results := [.lit (.bool false)], args := [d1, d2] }
  | _ => none }
def FnExactConvertWrongFalsely : Prop := fnExactConvertRow.holds Try.pinned (OpenSpec.ofChange fnExactConvertWrong)

/-- 'laws.FnExactValidPlace': WHATEVER THE INPUT: true; the input reads as it did. -/
def fnExactValidPlaceSpec : ChangeSpec := { name := "fnExactValidPlace", fn := fun _ => fun
  | [d] => { results := [.lit (.bool true)], args := [d] }
  | _ => none }
def fnExactValidPlaceRow : OpenClaim := { program := "ytajlomhnednghaa", sum := "06c36e7f85cc23f7b8e305408ca945ca42a1e0a73fde4661c1c7d87f509698e3", func := "loop.example/kilnmill/laws.FnExactValidPlace", spec := "fnExactValidPlace", apart := false }
def FnExactValidPlaceSaid : Prop := fnExactValidPlaceRow.holds Try.pinned (OpenSpec.ofChange fnExactValidPlaceSpec)

/-- ITS FALSE NEIGHBOUR: 'it returns false'. Refute it at one input. -/
def fnExactValidPlaceWrong : ChangeSpec := { name := "fnExactValidPlace", fn := fun _ => fun
  | [d] => { results := [.lit (.bool false)], args := [d] }
  | _ => none }
def FnExactValidPlaceWrongFalsely : Prop := fnExactValidPlaceRow.holds Try.pinned (OpenSpec.ofChange fnExactValidPlaceWrong)

/-- 'laws.FnExactUnary': WHATEVER THE INPUT: true; the input reads as it did. -/
def fnExactUnarySpec : ChangeSpec := { name := "fnExactUnary", fn := fun _ => fun
  | [d1, d2] => { results := [.lit (.bool true)], args := [d1, d2] }
  | _ => none }
def fnExactUnaryRow : OpenClaim := { program := "ytajlomhnednghaa", sum := "06c36e7f85cc23f7b8e305408ca945ca42a1e0a73fde4661c1c7d87f509698e3", func := "loop.example/kilnmill/laws.FnExactUnary", spec := "fnExactUnary", apart := false }
def FnExactUnarySaid : Prop := fnExactUnaryRow.holds Try.pinned (OpenSpec.ofChange fnExactUnarySpec)

/-- ITS FALSE NEIGHBOUR: 'it returns false'. Refute it at one input. -/
def fnExactUnaryWrong : ChangeSpec := { name := "fnExactUnary", fn := fun _ => fun
  | [d1, d2] => { results := [.lit (.bool false)], args := [d1, d2] }
  | _ => none }
def FnExactUnaryWrongFalsely : Prop := fnExactUnaryRow.holds Try.pinned (OpenSpec.ofChange fnExactUnaryWrong)

/-- 'laws.FnExactSee': WHATEVER THE INPUT: true; the input reads as it did. -/
def fnExactSeeSpec : ChangeSpec := { name := "fnExactSee", fn := fun _ => fun
  | [d1, d2, d3] => { results := [.lit (.bool true)], args := [d1, d2, d3] }
  | _ => none }
def fnExactSeeRow : OpenClaim := { program := "ytajlomhnednghaa", sum := "06c36e7f85cc23f7b8e305408ca945ca42a1e0a73fde4661c1c7d87f509698e3", func := "loop.example/kilnmill/laws.FnExactSee", spec := "fnExactSee", inPlace := ["internal/abi.NoEscape"], apart := false }
def FnExactSeeSaid : Prop := fnExactSeeRow.holds Try.pinned (OpenSpec.ofChange fnExactSeeSpec)

/-- ITS FALSE NEIGHBOUR: 'it returns false'. Refute it at one input. -/
def fnExactSeeWrong : ChangeSpec := { name := "fnExactSee", fn := fun _ => fun
  | [d1, d2, d3] => { results := [.lit (.bool false)], args := [d1, d2, d3] }
  | _ => none }
def FnExactSeeWrongFalsely : Prop := fnExactSeeRow.holds Try.pinned (OpenSpec.ofChange fnExactSeeWrong)

/-- 'laws.FnExactLay': WHATEVER THE INPUT: true; the input reads as it did. -/
def fnExactLaySpec : ChangeSpec := { name := "fnExactLay", fn := fun _ => fun
  | [d1, d2] => { results := [.lit (.bool true)], args := [d1, d2] }
  | _ => none }
def fnExactLayRow : OpenClaim := { program := "ytajlomhnednghaa", sum := "06c36e7f85cc23f7b8e305408ca945ca42a1e0a73fde4661c1c7d87f509698e3", func := "loop.example/kilnmill/laws.FnExactLay", spec := "fnExactLay", unfollowed := true, recurses := true, apart := false }
def FnExactLaySaid : Prop := fnExactLayRow.holds Try.pinned (OpenSpec.ofChange fnExactLaySpec)

/-- ITS FALSE NEIGHBOUR: 'it returns false'. Refute it at one input. -/
def fnExactLayWrong : ChangeSpec := { name := "fnExactLay", fn := fun _ => fun
  | [d1, d2] => { results := [.lit (.bool false)], args := [d1, d2] }
  | _ => none }
def FnExactLayWrongFalsely : Prop := fnExactLayRow.holds Try.pinned (OpenSpec.ofChange fnExactLayWrong)

/-- 'laws.FnExactHolds': WHATEVER THE INPUT: true; the input reads as it did. -/
def fnExactHoldsSpec : ChangeSpec := { name := "fnExactHolds", fn := fun _ => fun
  | [d1, d2] => { results := [.lit (.bool true)], args := [d1, d2] }
  | _ => none }
def fnExactHoldsRow : OpenClaim := { program := "ytajlomhnednghaa", sum := "06c36e7f85cc23f7b8e305408ca945ca42a1e0a73fde4661c1c7d87f509698e3", func := "loop.example/kilnmill/laws.FnExactHolds", spec := "fnExactHolds", inPlace := ["internal/abi.NoEscape"], apart := false }
def FnExactHoldsSaid : Prop := fnExactHoldsRow.holds Try.pinned (OpenSpec.ofChange fnExactHoldsSpec)

/-- ITS FALSE NEIGHBOUR: 'it returns false'. Refute it at one input. -/
def fnExactHoldsWrong : ChangeSpec := { name := "fnExactHolds", fn := fun _ => fun
  | [d1, d2] => { results := [.lit (.bool false)], args := [d1, d2] }
  | _ => none }
def FnExactHoldsWrongFalsely : Prop := fnExactHoldsRow.holds Try.pinned (OpenSpec.ofChange fnExactHoldsWrong)

/-- 'laws.FnBits': WHATEVER THE INPUT: true; the input reads as it did. -/
def fnBitsSpec : ChangeSpec := { name := "fnBits", fn := fun _ => fun
  | [d] => { results := [.lit (.bool true)], args := [d] }
  | _ => none }
def fnBitsRow : OpenClaim := { program := "ytajlomhnednghaa", sum := "06c36e7f85cc23f7b8e305408ca945ca42a1e0a73fde4661c1c7d87f509698e3", func := "loop.example/kilnmill/laws.FnBits", spec := "fnBits", inPlace := ["internal/bytealg.abigen_runtime_cmpstring"], apart := false }
def FnBitsSaid : Prop := fnBitsRow.holds Try.pinned (OpenSpec.ofChange fnBitsSpec)

/-- ITS FALSE NEIGHBOUR: 'it returns false'. Refute it at one input. -/
def fnBitsWrong : ChangeSpec := { name := "fnBits", fn := fun _ => fun
  | [d] => { results := [.lit (.bool false)], args := [d] }
  | _ => none }
def FnBitsWrongFalsely : Prop := fnBitsRow.holds Try.pinned (OpenSpec.ofChange fnBitsWrong)

/-- 'laws.FnExactBinary': WHATEVER THE INPUT: true; the input reads as it did. -/
def fnExactBinarySpec : ChangeSpec := { name := "fnExactBinary", fn := fun _ => fun
  | [d1, d2, d3] => { results := [.lit (.bool true)], args := [d1, d2, d3] }
  | _ => none }
def fnExactBinaryRow : OpenClaim := { program := "ytajlomhnednghaa", sum := "06c36e7f85cc23f7b8e305408ca945ca42a1e0a73fde4661c1c7d87f509698e3", func := "loop.example/kilnmill/laws.FnExactBinary", spec := "fnExactBinary", inPlace := ["internal/bytealg.abigen_runtime_cmpstring"], apart := false }
def FnExactBinarySaid : Prop := fnExactBinaryRow.holds Try.pinned (OpenSpec.ofChange fnExactBinarySpec)

/-- ITS FALSE NEIGHBOUR: 'it returns false'. Refute it at one input. -/
def fnExactBinaryWrong : ChangeSpec := { name := "fnExactBinary", fn := fun _ => fun
  | [d1, d2, d3] => { results := [.lit (.bool false)], args := [d1, d2, d3] }
  | _ => none }
def FnExactBinaryWrongFalsely : Prop := fnExactBinaryRow.holds Try.pinned (OpenSpec.ofChange fnExactBinaryWrong)

/- THE SECOND FORM. 'bulk': how many values and letters a reading holds, each counted each time it is reached (what is shared counts as often as it is met; a slice's spare places count too). A statement '..UptoSaid' is the law's where the arguments, and the package variables that the reading takes, are together of bulk at most 1048576: NARROWER than '..Said'. Prove '..Said' where nothing that the law and all that it calls make is longer than what came in: it says more and counts as full. Else prove '..UptoSaid'. A law counts once. -/
mutual
def uptoBulk {H : Type} : DataW H → Nat
  | .lit (.string bytes) => bytes.length + 1
  | .lit _ => 1
  | .nil => 1
  | .ptr d => uptoBulk d + 1
  | .slice elems spare => uptoBulkAll elems + uptoBulkAll spare + 1
  | .agg parts => uptoBulkAll parts + 1
  | .iface _ d => uptoBulk d + 1
  | .map entries => uptoBulkEntries entries + 1
  | .held _ => 1
def uptoBulkAll {H : Type} : List (DataW H) → Nat
  | [] => 0
  | d :: r => uptoBulk d + uptoBulkAll r
def uptoBulkEntries {H : Type} : List (Lit × DataW H) → Nat
  | [] => 0
  | x :: r => uptoBulkEntry x + uptoBulkEntries r
def uptoBulkEntry {H : Type} : Lit × DataW H → Nat
  | (.string bytes, d) => bytes.length + uptoBulk d + 1
  | (_, d) => uptoBulk d + 1
 end
def uptoSmall : (H : Type) → List (DataW H) → Bool := fun _ ds => decide (uptoBulkAll ds ≤ 1048576)
def OpenSpec.upto (s : _root_.Go.ChangeSpec) : _root_.Go.OpenSpec := { _root_.Go.OpenSpec.ofChange s with cond := some uptoSmall }

/-- 'laws.FnExactConstants', WHERE WHAT IT READS IS OF BULK AT MOST 1048576: true; the input reads as it did. -/
def fnExactConstantsUptoRow : OpenClaim := { program := "ytajlomhnednghaa", sum := "06c36e7f85cc23f7b8e305408ca945ca42a1e0a73fde4661c1c7d87f509698e3", func := "loop.example/kilnmill/laws.FnExactConstants", spec := "fnExactConstants", apart := false, narrowed := true }
def FnExactConstantsUptoSaid : Prop := fnExactConstantsUptoRow.holds Try.pinned (OpenSpec.upto fnExactConstantsSpec)

/-- 'laws.FnExactValidReply', WHERE WHAT IT READS IS OF BULK AT MOST 1048576: true; the input reads as it did. -/
def fnExactValidReplyUptoRow : OpenClaim := { program := "ytajlomhnednghaa", sum := "06c36e7f85cc23f7b8e305408ca945ca42a1e0a73fde4661c1c7d87f509698e3", func := "loop.example/kilnmill/laws.FnExactValidReply", spec := "fnExactValidReply", apart := false, narrowed := true }
def FnExactValidReplyUptoSaid : Prop := fnExactValidReplyUptoRow.holds Try.pinned (OpenSpec.upto fnExactValidReplySpec)

/-- 'laws.FnExactValidValue', WHERE WHAT IT READS IS OF BULK AT MOST 1048576: true; the input reads as it did. -/
def fnExactValidValueUptoRow : OpenClaim := { program := "ytajlomhnednghaa", sum := "06c36e7f85cc23f7b8e305408ca945ca42a1e0a73fde4661c1c7d87f509698e3", func := "loop.example/kilnmill/laws.FnExactValidValue", spec := "fnExactValidValue", apart := false, narrowed := true }
def FnExactValidValueUptoSaid : Prop := fnExactValidValueUptoRow.holds Try.pinned (OpenSpec.upto fnExactValidValueSpec)

/-- 'laws.FnExactValidJob', WHERE WHAT IT READS IS OF BULK AT MOST 1048576: true; the input reads as it did. -/
def fnExactValidJobUptoRow : OpenClaim := { program := "ytajlomhnednghaa", sum := "06c36e7f85cc23f7b8e305408ca945ca42a1e0a73fde4661c1c7d87f509698e3", func := "loop.example/kilnmill/laws.FnExactValidJob", spec := "fnExactValidJob", apart := false, narrowed := true }
def FnExactValidJobUptoSaid : Prop := fnExactValidJobUptoRow.holds Try.pinned (OpenSpec.upto fnExactValidJobSpec)

/-- 'laws.FnExactConvert', WHERE WHAT IT READS IS OF BULK AT MOST 1048576: true; the input reads as it did. -/
def fnExactConvertUptoRow : OpenClaim := { program := "ytajlomhnednghaa", sum := "06c36e7f85cc23f7b8e305408ca945ca42a1e0a73fde4661c1c7d87f509698e3", func := "loop.example/kilnmill/laws.FnExactConvert", spec := "fnExactConvert", apart := false, narrowed := true }
def FnExactConvertUptoSaid : Prop := fnExactConvertUptoRow.holds Try.pinned (OpenSpec.upto fnExactConvertSpec)

/-- 'laws.FnExactValidPlace', WHERE WHAT IT READS IS OF BULK AT MOST 1048576: true; the input reads as it did. -/
def fnExactValidPlaceUptoRow : OpenClaim := { program := "ytajlomhnednghaa", sum := "06c36e7f85cc23f7b8e305408ca945ca42a1e0a73fde4661c1c7d87f509698e3", func := "loop.example/kilnmill/laws.FnExactValidPlace", spec := "fnExactValidPlace", apart := false, narrowed := true }
def FnExactValidPlaceUptoSaid : Prop := fnExactValidPlaceUptoRow.holds Try.pinned (OpenSpec.upto fnExactValidPlaceSpec)

/-- 'laws.FnExactUnary', WHERE WHAT IT READS IS OF BULK AT MOST 1048576: true; the input reads as it did. -/
def fnExactUnaryUptoRow : OpenClaim := { program := "ytajlomhnednghaa", sum := "06c36e7f85cc23f7b8e305408ca945ca42a1e0a73fde4661c1c7d87f509698e3", func := "loop.example/kilnmill/laws.FnExactUnary", spec := "fnExactUnary", apart := false, narrowed := true }
def FnExactUnaryUptoSaid : Prop := fnExactUnaryUptoRow.holds Try.pinned (OpenSpec.upto fnExactUnarySpec)

/-- 'laws.FnExactSee', WHERE WHAT IT READS IS OF BULK AT MOST 1048576: true; the input reads as it did. -/
def fnExactSeeUptoRow : OpenClaim := { program := "ytajlomhnednghaa", sum := "06c36e7f85cc23f7b8e305408ca945ca42a1e0a73fde4661c1c7d87f509698e3", func := "loop.example/kilnmill/laws.FnExactSee", spec := "fnExactSee", inPlace := ["internal/abi.NoEscape"], apart := false, narrowed := true }
def FnExactSeeUptoSaid : Prop := fnExactSeeUptoRow.holds Try.pinned (OpenSpec.upto fnExactSeeSpec)

/-- 'laws.FnExactLay', WHERE WHAT IT READS IS OF BULK AT MOST 1048576: true; the input reads as it did. -/
def fnExactLayUptoRow : OpenClaim := { program := "ytajlomhnednghaa", sum := "06c36e7f85cc23f7b8e305408ca945ca42a1e0a73fde4661c1c7d87f509698e3", func := "loop.example/kilnmill/laws.FnExactLay", spec := "fnExactLay", unfollowed := true, recurses := true, apart := false, narrowed := true }
def FnExactLayUptoSaid : Prop := fnExactLayUptoRow.holds Try.pinned (OpenSpec.upto fnExactLaySpec)

/-- 'laws.FnExactHolds', WHERE WHAT IT READS IS OF BULK AT MOST 1048576: true; the input reads as it did. -/
def fnExactHoldsUptoRow : OpenClaim := { program := "ytajlomhnednghaa", sum := "06c36e7f85cc23f7b8e305408ca945ca42a1e0a73fde4661c1c7d87f509698e3", func := "loop.example/kilnmill/laws.FnExactHolds", spec := "fnExactHolds", inPlace := ["internal/abi.NoEscape"], apart := false, narrowed := true }
def FnExactHoldsUptoSaid : Prop := fnExactHoldsUptoRow.holds Try.pinned (OpenSpec.upto fnExactHoldsSpec)

/-- 'laws.FnBits', WHERE WHAT IT READS IS OF BULK AT MOST 1048576: true; the input reads as it did. -/
def fnBitsUptoRow : OpenClaim := { program := "ytajlomhnednghaa", sum := "06c36e7f85cc23f7b8e305408ca945ca42a1e0a73fde4661c1c7d87f509698e3", func := "loop.example/kilnmill/laws.FnBits", spec := "fnBits", inPlace := ["internal/bytealg.abigen_runtime_cmpstring"], apart := false, narrowed := true }
def FnBitsUptoSaid : Prop := fnBitsUptoRow.holds Try.pinned (OpenSpec.upto fnBitsSpec)

/-- 'laws.FnExactBinary', WHERE WHAT IT READS IS OF BULK AT MOST 1048576: true; the input reads as it did. -/
def fnExactBinaryUptoRow : OpenClaim := { program := "ytajlomhnednghaa", sum := "06c36e7f85cc23f7b8e305408ca945ca42a1e0a73fde4661c1c7d87f509698e3", func := "loop.example/kilnmill/laws.FnExactBinary", spec := "fnExactBinary", inPlace := ["internal/bytealg.abigen_runtime_cmpstring"], apart := false, narrowed := true }
def FnExactBinaryUptoSaid : Prop := fnExactBinaryUptoRow.holds Try.pinned (OpenSpec.upto fnExactBinarySpec)

end Rows
end Go.Proofs.Ytajlomhnednghaa
