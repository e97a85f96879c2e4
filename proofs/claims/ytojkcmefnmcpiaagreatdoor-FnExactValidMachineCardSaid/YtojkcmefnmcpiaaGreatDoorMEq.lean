/- The equations of the law's functions. Conditions: none. -/
import Derived.Test.YtojkcmefnmcpiaaGreatDoorMSg
namespace Go.KM.M1
open Go Go.KM
open Go.KM.Fam (Dn dflt)
open Go.KM.Enc (cells sz mkE glob gany u8)
set_option autoImplicit false
set_option linter.unusedVariables false
set_option maxRecDepth 100000
def WL0 : List ByteArray := [⟨#[]⟩, ⟨#[98, 111, 111, 108]⟩, ⟨#[116, 101, 120, 116]⟩, ⟨#[117, 56]⟩, ⟨#[117, 49, 54]⟩, ⟨#[117, 51, 50]⟩, ⟨#[117, 54, 52]⟩, ⟨#[105, 56]⟩, ⟨#[105, 49, 54]⟩, ⟨#[105, 51, 50]⟩, ⟨#[105, 54, 52]⟩]
theorem L.szIntS_eq (a : List Int) (left : Int) : L.szIntS a left =
 bif decide (IntKind.i64.wrap (left - (a.length : Int)) < 0) then
 some (-1)
 else
 some (IntKind.i64.wrap (left - (a.length : Int))) :=
 (fnA_eq 94 _ rfl).trans (by kernel_rfl)
theorem L.szIns_eq (a : TIns) (left : Int) : L.szIns a left =
 bif decide (IntKind.i64.wrap (left - (a.gText.size : Int)) < 0) then
 some (-1)
 else
 some (IntKind.i64.wrap (left - (a.gText.size : Int))) :=
 (fnA_eq 113 _ rfl).trans (by kernel_rfl)
noncomputable def L.szInsS.l244 (a : List TIns) (left : Int) (i : Int) : Option Int := Y.runA 95 (fun ct c => at_ ct [true, true, true, false, true, false, false] c) ⟨[(0, .fl 162 a), (1, .i IntKind.i64 left), (5, .i IntKind.i64 i)], [], [], [], []⟩
theorem L.szInsS_eq (a : List TIns) (left : Int) : L.szInsS a left =
 bif decide (IntKind.i64.wrap (left - (a.length : Int)) < 0) then
 some (-1)
 else
 L.szInsS.l244 a (IntKind.i64.wrap (left - (a.length : Int))) 0 :=
 (fnA_eq 95 _ rfl).trans (by kernel_rfl)
theorem L.szInsS.l244_eq (a : List TIns) (left : Int) (i : Int) : L.szInsS.l244 a left i =
 bif decide (i < (a.length : Int)) then
 bif inB i a.length then
 (L.szIns (a.getD i.toNat TIns.z) left).bind fun r0 =>
 bif decide (r0 < 0) then
 some (-1)
 else
 L.szInsS.l244 a r0 (IntKind.i64.wrap (i + 1))
 else
 none
 else
 some left :=
 (runA_eq 95 _ _).trans (by kernel_rfl)
theorem L.szFn_eq (a : TFn) (left : Int) : L.szFn a left =
 bif decide (IntKind.i64.wrap (left - (a.gName.size : Int)) < 0) then
 some (-1)
 else
 (L.szIntS a.gParams (IntKind.i64.wrap (left - (a.gName.size : Int)))).bind fun r0 =>
 bif decide (r0 < 0) then
 some (-1)
 else
 (L.szInsS a.gIns r0).bind fun r1 =>
 bif decide (r1 < 0) then
 some (-1)
 else
 some r1 :=
 (fnA_eq 69 _ rfl).trans (by kernel_rfl)
noncomputable def L.szFnS.l244 (a : List TFn) (left : Int) (i : Int) : Option Int := Y.runA 53 (fun ct c => at_ ct [true, true, true, false, true, false, false] c) ⟨[(0, .fl 124 a), (1, .i IntKind.i64 left), (5, .i IntKind.i64 i)], [], [], [], []⟩
theorem L.szFnS_eq (a : List TFn) (left : Int) : L.szFnS a left =
 bif decide (IntKind.i64.wrap (left - (a.length : Int)) < 0) then
 some (-1)
 else
 L.szFnS.l244 a (IntKind.i64.wrap (left - (a.length : Int))) 0 :=
 (fnA_eq 53 _ rfl).trans (by kernel_rfl)
theorem L.szFnS.l244_eq (a : List TFn) (left : Int) (i : Int) : L.szFnS.l244 a left i =
 bif decide (i < (a.length : Int)) then
 bif inB i a.length then
 (L.szFn (a.getD i.toNat TFn.z) left).bind fun r0 =>
 bif decide (r0 < 0) then
 some (-1)
 else
 L.szFnS.l244 a r0 (IntKind.i64.wrap (i + 1))
 else
 none
 else
 some left :=
 (runA_eq 53 _ _).trans (by kernel_rfl)
theorem L.szCode_eq (a : TCode) (left : Int) : L.szCode a left =
 (L.szFnS a.gFns left).bind fun r0 =>
 bif decide (r0 < 0) then
 some (-1)
 else
 some r0 :=
 (fnA_eq 34 _ rfl).trans (by kernel_rfl)
noncomputable def L.szCodeS.l244 (a : List TCode) (left : Int) (i : Int) : Option Int := Y.runA 9 (fun ct c => at_ ct [true, true, true, false, true, false, false] c) ⟨[(0, .fl 66 a), (1, .i IntKind.i64 left), (5, .i IntKind.i64 i)], [], [], [], []⟩
theorem L.szCodeS_eq (a : List TCode) (left : Int) : L.szCodeS a left =
 bif decide (IntKind.i64.wrap (left - (a.length : Int)) < 0) then
 some (-1)
 else
 L.szCodeS.l244 a (IntKind.i64.wrap (left - (a.length : Int))) 0 :=
 (fnA_eq 9 _ rfl).trans (by kernel_rfl)
theorem L.szCodeS.l244_eq (a : List TCode) (left : Int) (i : Int) : L.szCodeS.l244 a left i =
 bif decide (i < (a.length : Int)) then
 bif inB i a.length then
 (L.szCode (a.getD i.toNat TCode.z) left).bind fun r0 =>
 bif decide (r0 < 0) then
 some (-1)
 else
 L.szCodeS.l244 a r0 (IntKind.i64.wrap (i + 1))
 else
 none
 else
 some left :=
 (runA_eq 9 _ _).trans (by kernel_rfl)
noncomputable def L.szStringS.l244 (a : List ByteArray) (left : Int) (i : Int) : Option Int := Y.runA 10 (fun ct c => at_ ct [true, true, true, false, true, false, false] c) ⟨[(0, .fl 9 a), (1, .i IntKind.i64 left), (5, .i IntKind.i64 i)], [], [], [], []⟩
theorem L.szStringS_eq (a : List ByteArray) (left : Int) : L.szStringS a left =
 bif decide (IntKind.i64.wrap (left - (a.length : Int)) < 0) then
 some (-1)
 else
 L.szStringS.l244 a (IntKind.i64.wrap (left - (a.length : Int))) 0 :=
 (fnA_eq 10 _ rfl).trans (by kernel_rfl)
theorem L.szStringS.l244_eq (a : List ByteArray) (left : Int) (i : Int) : L.szStringS.l244 a left i =
 bif decide (i < (a.length : Int)) then
 bif inB i a.length then
 bif decide (IntKind.i64.wrap (left - ((ByteArray.size (a.getD i.toNat (⟨#[]⟩ : ByteArray))) : Int)) < 0) then
 some (-1)
 else
 L.szStringS.l244 a (IntKind.i64.wrap (left - ((ByteArray.size (a.getD i.toNat (⟨#[]⟩ : ByteArray))) : Int))) (IntKind.i64.wrap (i + 1))
 else
 none
 else
 some left :=
 (runA_eq 10 _ _).trans (by kernel_rfl)
theorem L.szValue_eq (a : TValue) (left : Int) : L.szValue a left =
 bif decide (IntKind.i64.wrap (left - (a.gText.size : Int)) < 0) then
 some (-1)
 else
 some (IntKind.i64.wrap (left - (a.gText.size : Int))) :=
 (fnA_eq 70 _ rfl).trans (by kernel_rfl)
noncomputable def L.szValueS.l244 (a : List TValue) (left : Int) (i : Int) : Option Int := Y.runA 54 (fun ct c => at_ ct [true, true, true, false, true, false, false] c) ⟨[(0, .fl 126 a), (1, .i IntKind.i64 left), (5, .i IntKind.i64 i)], [], [], [], []⟩
theorem L.szValueS_eq (a : List TValue) (left : Int) : L.szValueS a left =
 bif decide (IntKind.i64.wrap (left - (a.length : Int)) < 0) then
 some (-1)
 else
 L.szValueS.l244 a (IntKind.i64.wrap (left - (a.length : Int))) 0 :=
 (fnA_eq 54 _ rfl).trans (by kernel_rfl)
theorem L.szValueS.l244_eq (a : List TValue) (left : Int) (i : Int) : L.szValueS.l244 a left i =
 bif decide (i < (a.length : Int)) then
 bif inB i a.length then
 (L.szValue (a.getD i.toNat TValue.z) left).bind fun r0 =>
 bif decide (r0 < 0) then
 some (-1)
 else
 L.szValueS.l244 a r0 (IntKind.i64.wrap (i + 1))
 else
 none
 else
 some left :=
 (runA_eq 54 _ _).trans (by kernel_rfl)
theorem L.szFrame_eq (a : TFrame) (left : Int) : L.szFrame a left =
 (L.szValueS a.gSlots left).bind fun r0 =>
 bif decide (r0 < 0) then
 some (-1)
 else
 (L.szValueS a.gStack r0).bind fun r1 =>
 bif decide (r1 < 0) then
 some (-1)
 else
 some r1 :=
 (fnA_eq 35 _ rfl).trans (by kernel_rfl)
noncomputable def L.szFrameS.l244 (a : List TFrame) (left : Int) (i : Int) : Option Int := Y.runA 11 (fun ct c => at_ ct [true, true, true, false, true, false, false] c) ⟨[(0, .fl 70 a), (1, .i IntKind.i64 left), (5, .i IntKind.i64 i)], [], [], [], []⟩
theorem L.szFrameS_eq (a : List TFrame) (left : Int) : L.szFrameS a left =
 bif decide (IntKind.i64.wrap (left - (a.length : Int)) < 0) then
 some (-1)
 else
 L.szFrameS.l244 a (IntKind.i64.wrap (left - (a.length : Int))) 0 :=
 (fnA_eq 11 _ rfl).trans (by kernel_rfl)
theorem L.szFrameS.l244_eq (a : List TFrame) (left : Int) (i : Int) : L.szFrameS.l244 a left i =
 bif decide (i < (a.length : Int)) then
 bif inB i a.length then
 (L.szFrame (a.getD i.toNat TFrame.z) left).bind fun r0 =>
 bif decide (r0 < 0) then
 some (-1)
 else
 L.szFrameS.l244 a r0 (IntKind.i64.wrap (i + 1))
 else
 none
 else
 some left :=
 (runA_eq 11 _ _).trans (by kernel_rfl)
theorem L.szFile_eq (a : TFile) (left : Int) : L.szFile a left =
 bif decide (IntKind.i64.wrap (left - (a.gName.size : Int)) < 0) then
 some (-1)
 else
 bif decide (IntKind.i64.wrap (IntKind.i64.wrap (left - (a.gName.size : Int)) - (a.gText.size : Int)) < 0) then
 some (-1)
 else
 some (IntKind.i64.wrap (IntKind.i64.wrap (left - (a.gName.size : Int)) - (a.gText.size : Int))) :=
 (fnA_eq 36 _ rfl).trans (by kernel_rfl)
noncomputable def L.szFileS.l244 (a : List TFile) (left : Int) (i : Int) : Option Int := Y.runA 12 (fun ct c => at_ ct [true, true, true, false, true, false, false] c) ⟨[(0, .fl 72 a), (1, .i IntKind.i64 left), (5, .i IntKind.i64 i)], [], [], [], []⟩
theorem L.szFileS_eq (a : List TFile) (left : Int) : L.szFileS a left =
 bif decide (IntKind.i64.wrap (left - (a.length : Int)) < 0) then
 some (-1)
 else
 L.szFileS.l244 a (IntKind.i64.wrap (left - (a.length : Int))) 0 :=
 (fnA_eq 12 _ rfl).trans (by kernel_rfl)
theorem L.szFileS.l244_eq (a : List TFile) (left : Int) (i : Int) : L.szFileS.l244 a left i =
 bif decide (i < (a.length : Int)) then
 bif inB i a.length then
 (L.szFile (a.getD i.toNat TFile.z) left).bind fun r0 =>
 bif decide (r0 < 0) then
 some (-1)
 else
 L.szFileS.l244 a r0 (IntKind.i64.wrap (i + 1))
 else
 none
 else
 some left :=
 (runA_eq 12 _ _).trans (by kernel_rfl)
theorem L.szMachine_eq (a : TMachine) (left : Int) : L.szMachine a left =
 (L.szCodeS a.gCodes left).bind fun r0 =>
 bif decide (r0 < 0) then
 some (-1)
 else
 (L.szStringS a.gArgs r0).bind fun r1 =>
 bif decide (r1 < 0) then
 some (-1)
 else
 (L.szStringS a.gOuts r1).bind fun r2 =>
 bif decide (r2 < 0) then
 some (-1)
 else
 (L.szFrameS a.gFrames r2).bind fun r3 =>
 bif decide (r3 < 0) then
 some (-1)
 else
 bif decide (IntKind.i64.wrap (r3 - (a.gName.size : Int)) < 0) then
 some (-1)
 else
 bif decide (IntKind.i64.wrap (IntKind.i64.wrap (r3 - (a.gName.size : Int)) - (a.gHold.size : Int)) < 0) then
 some (-1)
 else
 bif decide (IntKind.i64.wrap (IntKind.i64.wrap (IntKind.i64.wrap (r3 - (a.gName.size : Int)) - (a.gHold.size : Int)) - (a.gText.size : Int)) < 0) then
 some (-1)
 else
 (L.szFileS a.gFiles (IntKind.i64.wrap (IntKind.i64.wrap (IntKind.i64.wrap (r3 - (a.gName.size : Int)) - (a.gHold.size : Int)) - (a.gText.size : Int)))).bind fun r4 =>
 bif decide (r4 < 0) then
 some (-1)
 else
 (L.szStringS a.gSaid r4).bind fun r5 =>
 bif decide (r5 < 0) then
 some (-1)
 else
 some r5 :=
 (fnA_eq 4 _ rfl).trans (by kernel_rfl)
noncomputable def L.toIntS.l116 (a : List Int) (out : List Int) (i : Int) : Option (List Int) := Y.runA 105 (fun ct c => at_ ct [true, true, false, true, false, false] c) ⟨[(0, .fl 3 a), (3, .ol 3 out), (4, .i IntKind.i64 i)], [], [], [], []⟩
theorem L.toIntS_eq (a : List Int) : L.toIntS a =
 bif decide (0 ≤ (a.length : Int)) && (a.length : Int) == (a.length : Int) && room a.length 8 then
 L.toIntS.l116 a (List.replicate a.length (0 : Int)) 0
 else
 none :=
 (fnA_eq 105 _ rfl).trans (by kernel_rfl)
theorem L.toIntS.l116_eq (a : List Int) (out : List Int) (i : Int) : L.toIntS.l116 a out i =
 bif decide (i < (a.length : Int)) then
 bif inB i a.length then
 bif inB i out.length then
 L.toIntS.l116 a (out.set i.toNat (a.getD i.toNat 0)) (IntKind.i64.wrap (i + 1))
 else
 none
 else
 none
 else
 some out :=
 (runA_eq 105 _ _).trans (by kernel_rfl)
theorem L.toIns_eq (a : TIns) : L.toIns a =
 some a :=
 (fnA_eq 117 _ rfl).trans (by kernel_rfl)
noncomputable def L.toInsS.l116 (a : List TIns) (out : List TIns) (i : Int) : Option (List TIns) := Y.runA 106 (fun ct c => at_ ct [true, true, false, true, false, false] c) ⟨[(0, .fl 162 a), (3, .ol 98 out), (4, .i IntKind.i64 i)], [], [], [], []⟩
theorem L.toInsS_eq (a : List TIns) : L.toInsS a =
 bif decide (0 ≤ (a.length : Int)) && (a.length : Int) == (a.length : Int) && room a.length 40 then
 L.toInsS.l116 a (List.replicate a.length (TIns.mk 0 0 0 ((⟨#[]⟩ : ByteArray)))) 0
 else
 none :=
 (fnA_eq 106 _ rfl).trans (by kernel_rfl)
theorem L.toInsS.l116_eq (a : List TIns) (out : List TIns) (i : Int) : L.toInsS.l116 a out i =
 bif decide (i < (a.length : Int)) then
 bif inB i a.length then
 (L.toIns (a.getD i.toNat TIns.z)).bind fun r0 =>
 bif inB i out.length then
 L.toInsS.l116 a (out.set i.toNat (TIns.mk r0.gOp r0.gA r0.gN r0.gText)) (IntKind.i64.wrap (i + 1))
 else
 none
 else
 none
 else
 some out :=
 (runA_eq 106 _ _).trans (by kernel_rfl)
theorem L.toFn_eq (a : TFn) : L.toFn a =
 (L.toIntS a.gParams).bind fun r0 =>
 (L.toInsS a.gIns).bind fun r1 =>
 some (⟨a.gName, r0, a.gResult, a.gSlots, r1⟩ : TFn) :=
 (fnA_eq 80 _ rfl).trans (by kernel_rfl)
noncomputable def L.toFnS.l116 (a : List TFn) (out : List TFn) (i : Int) : Option (List TFn) := Y.runA 60 (fun ct c => at_ ct [true, true, false, true, false, false] c) ⟨[(0, .fl 124 a), (3, .ol 89 out), (4, .i IntKind.i64 i)], [], [], [], []⟩
theorem L.toFnS_eq (a : List TFn) : L.toFnS a =
 bif decide (0 ≤ (a.length : Int)) && (a.length : Int) == (a.length : Int) && room a.length 80 then
 L.toFnS.l116 a (List.replicate a.length (TFn.mk ((⟨#[]⟩ : ByteArray)) [] 0 0 [])) 0
 else
 none :=
 (fnA_eq 60 _ rfl).trans (by kernel_rfl)
theorem L.toFnS.l116_eq (a : List TFn) (out : List TFn) (i : Int) : L.toFnS.l116 a out i =
 bif decide (i < (a.length : Int)) then
 bif inB i a.length then
 (L.toFn (a.getD i.toNat TFn.z)).bind fun r0 =>
 bif inB i out.length then
 L.toFnS.l116 a (out.set i.toNat (TFn.mk r0.gName r0.gParams r0.gResult r0.gSlots r0.gIns)) (IntKind.i64.wrap (i + 1))
 else
 none
 else
 none
 else
 some out :=
 (runA_eq 60 _ _).trans (by kernel_rfl)
theorem L.toCode_eq (a : TCode) : L.toCode a =
 (L.toFnS a.gFns).bind fun r0 =>
 some (⟨r0⟩ : TCode) :=
 (fnA_eq 42 _ rfl).trans (by kernel_rfl)
noncomputable def L.toCodeS.l116 (a : List TCode) (out : List TCode) (i : Int) : Option (List TCode) := Y.runA 21 (fun ct c => at_ ct [true, true, false, true, false, false] c) ⟨[(0, .fl 66 a), (3, .ol 53 out), (4, .i IntKind.i64 i)], [], [], [], []⟩
theorem L.toCodeS_eq (a : List TCode) : L.toCodeS a =
 bif decide (0 ≤ (a.length : Int)) && (a.length : Int) == (a.length : Int) && room a.length 24 then
 L.toCodeS.l116 a (List.replicate a.length (TCode.mk [])) 0
 else
 none :=
 (fnA_eq 21 _ rfl).trans (by kernel_rfl)
theorem L.toCodeS.l116_eq (a : List TCode) (out : List TCode) (i : Int) : L.toCodeS.l116 a out i =
 bif decide (i < (a.length : Int)) then
 bif inB i a.length then
 (L.toCode (a.getD i.toNat TCode.z)).bind fun r0 =>
 bif inB i out.length then
 L.toCodeS.l116 a (out.set i.toNat (TCode.mk r0.gFns)) (IntKind.i64.wrap (i + 1))
 else
 none
 else
 none
 else
 some out :=
 (runA_eq 21 _ _).trans (by kernel_rfl)
noncomputable def L.toStringS.l116 (a : List ByteArray) (out : List ByteArray) (i : Int) : Option (List ByteArray) := Y.runA 22 (fun ct c => at_ ct [true, true, false, true, false, false] c) ⟨[(0, .fl 9 a), (3, .ol 9 out), (4, .i IntKind.i64 i)], [], [], [], []⟩
theorem L.toStringS_eq (a : List ByteArray) : L.toStringS a =
 bif decide (0 ≤ (a.length : Int)) && (a.length : Int) == (a.length : Int) && room a.length 16 then
 L.toStringS.l116 a (List.replicate a.length ((⟨#[]⟩ : ByteArray))) 0
 else
 none :=
 (fnA_eq 22 _ rfl).trans (by kernel_rfl)
theorem L.toStringS.l116_eq (a : List ByteArray) (out : List ByteArray) (i : Int) : L.toStringS.l116 a out i =
 bif decide (i < (a.length : Int)) then
 bif inB i a.length then
 bif inB i out.length then
 L.toStringS.l116 a (out.set i.toNat (a.getD i.toNat (⟨#[]⟩ : ByteArray))) (IntKind.i64.wrap (i + 1))
 else
 none
 else
 none
 else
 some out :=
 (runA_eq 22 _ _).trans (by kernel_rfl)
theorem L.toValue_eq (a : TValue) : L.toValue a =
 some a :=
 (fnA_eq 81 _ rfl).trans (by kernel_rfl)
noncomputable def L.toValueS.l116 (a : List TValue) (out : List TValue) (i : Int) : Option (List TValue) := Y.runA 61 (fun ct c => at_ ct [true, true, false, true, false, false] c) ⟨[(0, .fl 126 a), (3, .ol 108 out), (4, .i IntKind.i64 i)], [], [], [], []⟩
theorem L.toValueS_eq (a : List TValue) : L.toValueS a =
 bif decide (0 ≤ (a.length : Int)) && (a.length : Int) == (a.length : Int) && room a.length 32 then
 L.toValueS.l116 a (List.replicate a.length (TValue.mk 0 0 ((⟨#[]⟩ : ByteArray)))) 0
 else
 none :=
 (fnA_eq 61 _ rfl).trans (by kernel_rfl)
theorem L.toValueS.l116_eq (a : List TValue) (out : List TValue) (i : Int) : L.toValueS.l116 a out i =
 bif decide (i < (a.length : Int)) then
 bif inB i a.length then
 (L.toValue (a.getD i.toNat TValue.z)).bind fun r0 =>
 bif inB i out.length then
 L.toValueS.l116 a (out.set i.toNat (TValue.mk r0.gType r0.gN r0.gText)) (IntKind.i64.wrap (i + 1))
 else
 none
 else
 none
 else
 some out :=
 (runA_eq 61 _ _).trans (by kernel_rfl)
theorem L.toFrame_eq (a : TFrame) : L.toFrame a =
 (L.toValueS a.gSlots).bind fun r0 =>
 (L.toValueS a.gStack).bind fun r1 =>
 some (⟨a.gCode, a.gFn, a.gAt, r0, r1⟩ : TFrame) :=
 (fnA_eq 43 _ rfl).trans (by kernel_rfl)
noncomputable def L.toFrameS.l116 (a : List TFrame) (out : List TFrame) (i : Int) : Option (List TFrame) := Y.runA 23 (fun ct c => at_ ct [true, true, false, true, false, false] c) ⟨[(0, .fl 70 a), (3, .ol 78 out), (4, .i IntKind.i64 i)], [], [], [], []⟩
theorem L.toFrameS_eq (a : List TFrame) : L.toFrameS a =
 bif decide (0 ≤ (a.length : Int)) && (a.length : Int) == (a.length : Int) && room a.length 72 then
 L.toFrameS.l116 a (List.replicate a.length (TFrame.mk 0 0 0 [] [])) 0
 else
 none :=
 (fnA_eq 23 _ rfl).trans (by kernel_rfl)
theorem L.toFrameS.l116_eq (a : List TFrame) (out : List TFrame) (i : Int) : L.toFrameS.l116 a out i =
 bif decide (i < (a.length : Int)) then
 bif inB i a.length then
 (L.toFrame (a.getD i.toNat TFrame.z)).bind fun r0 =>
 bif inB i out.length then
 L.toFrameS.l116 a (out.set i.toNat (TFrame.mk r0.gCode r0.gFn r0.gAt r0.gSlots r0.gStack)) (IntKind.i64.wrap (i + 1))
 else
 none
 else
 none
 else
 some out :=
 (runA_eq 23 _ _).trans (by kernel_rfl)
theorem L.toFile_eq (a : TFile) : L.toFile a =
 some a :=
 (fnA_eq 44 _ rfl).trans (by kernel_rfl)
noncomputable def L.toFileS.l116 (a : List TFile) (out : List TFile) (i : Int) : Option (List TFile) := Y.runA 24 (fun ct c => at_ ct [true, true, false, true, false, false] c) ⟨[(0, .fl 72 a), (3, .ol 49 out), (4, .i IntKind.i64 i)], [], [], [], []⟩
theorem L.toFileS_eq (a : List TFile) : L.toFileS a =
 bif decide (0 ≤ (a.length : Int)) && (a.length : Int) == (a.length : Int) && room a.length 32 then
 L.toFileS.l116 a (List.replicate a.length (TFile.mk ((⟨#[]⟩ : ByteArray)) ((⟨#[]⟩ : ByteArray)))) 0
 else
 none :=
 (fnA_eq 24 _ rfl).trans (by kernel_rfl)
theorem L.toFileS.l116_eq (a : List TFile) (out : List TFile) (i : Int) : L.toFileS.l116 a out i =
 bif decide (i < (a.length : Int)) then
 bif inB i a.length then
 (L.toFile (a.getD i.toNat TFile.z)).bind fun r0 =>
 bif inB i out.length then
 L.toFileS.l116 a (out.set i.toNat (TFile.mk r0.gName r0.gText)) (IntKind.i64.wrap (i + 1))
 else
 none
 else
 none
 else
 some out :=
 (runA_eq 24 _ _).trans (by kernel_rfl)
theorem L.toMachine_eq (a : TMachine) : L.toMachine a =
 (L.toCodeS a.gCodes).bind fun r0 =>
 (L.toStringS a.gArgs).bind fun r1 =>
 (L.toStringS a.gOuts).bind fun r2 =>
 (L.toFrameS a.gFrames).bind fun r3 =>
 (L.toFileS a.gFiles).bind fun r4 =>
 (L.toStringS a.gSaid).bind fun r5 =>
 some (⟨r0, r1, r2, r3, a.gSteps, a.gLooks, a.gKind, a.gName, a.gHold, a.gOver, a.gEnd, a.gText, r4, r5⟩ : TMachine) :=
 (fnA_eq 6 _ rfl).trans (by kernel_rfl)
noncomputable def R.l6PrefixOk.l116 (s : ByteArray) (i : Int) : Option Bool := Y.runA 38 (fun ct c => at_ ct [true, true, false, true, false, false] c) ⟨[(0, .s s), (3, .i IntKind.i64 i)], [], [], [], []⟩
theorem R.l6PrefixOk_eq (s : ByteArray) : R.l6PrefixOk s =
 bif decide ((s.size : Int) > 60) then
 some false
 else
 R.l6PrefixOk.l116 s 0 :=
 (fnA_eq 38 _ rfl).trans (by kernel_rfl)
theorem R.l6PrefixOk.l116_eq (s : ByteArray) (i : Int) : R.l6PrefixOk.l116 s i =
 bif decide (i < (s.size : Int)) then
 bif inB i s.size then
 bif decide (bt s i < 33) then
 some false
 else
 bif inB i s.size then
 bif decide (bt s i > 126) then
 some false
 else
 R.l6PrefixOk.l116 s (IntKind.i64.wrap (i + 1))
 else
 none
 else
 none
 else
 some true :=
 (runA_eq 38 _ _).trans (by kernel_rfl)
theorem R.l6PathOk_eq (s : ByteArray) : R.l6PathOk s =
 bif decide ((s.size : Int) ≥ 1) then
 (R.l6PrefixOk s).bind fun r0 =>
 some r0
 else
 some false :=
 (fnA_eq 37 _ rfl).trans (by kernel_rfl)
noncomputable def R.l9FilesOk.l116 (files : List TFile) (i : Int) : Option Bool := Y.runA 13 (fun ct c => at_ ct [true, true, false, true, false, false] c) ⟨[(0, .fl 49 files), (5, .i IntKind.i64 i)], [], [], [], []⟩
theorem R.l9FilesOk_eq (files : List TFile) (most : Int) : R.l9FilesOk files most =
 bif decide ((files.length : Int) > most) then
 some false
 else
 R.l9FilesOk.l116 files 0 :=
 (fnA_eq 13 _ rfl).trans (by kernel_rfl)
theorem R.l9FilesOk.l116_eq (files : List TFile) (i : Int) : R.l9FilesOk.l116 files i =
 bif decide (i < (files.length : Int)) then
 bif inB i files.length then
 (R.l6PathOk ((files.getD i.toNat TFile.z).gName)).bind fun r0 =>
 bif !r0 then
 some false
 else
 bif inB i files.length then
 bif decide (((files.getD i.toNat TFile.z).gText.size : Int) > 3000) then
 some false
 else
 bif decide (i > 0) then
 bif inB (IntKind.i64.wrap (i - 1)) files.length then
 bif inB i files.length then
 bif !bLt (files.getD (IntKind.i64.wrap (i - 1)).toNat TFile.z).gName (files.getD i.toNat TFile.z).gName then
 some false
 else
 R.l9FilesOk.l116 files (IntKind.i64.wrap (i + 1))
 else
 none
 else
 none
 else
 R.l9FilesOk.l116 files (IntKind.i64.wrap (i + 1))
 else
 none
 else
 none
 else
 some true :=
 (runA_eq 13 _ _).trans (by kernel_rfl)
noncomputable def R.l9TextsOk.l116 (list : List ByteArray) (i : Int) : Option Bool := Y.runA 14 (fun ct c => at_ ct [true, true, false, true, false, false] c) ⟨[(0, .fl 9 list), (5, .i IntKind.i64 i)], [], [], [], []⟩
theorem R.l9TextsOk_eq (list : List ByteArray) (most : Int) : R.l9TextsOk list most =
 bif decide ((list.length : Int) > most) then
 some false
 else
 R.l9TextsOk.l116 list 0 :=
 (fnA_eq 14 _ rfl).trans (by kernel_rfl)
theorem R.l9TextsOk.l116_eq (list : List ByteArray) (i : Int) : R.l9TextsOk.l116 list i =
 bif decide (i < (list.length : Int)) then
 bif inB i list.length then
 bif decide (((ByteArray.size (list.getD i.toNat (⟨#[]⟩ : ByteArray))) : Int) > 3000) then
 some false
 else
 R.l9TextsOk.l116 list (IntKind.i64.wrap (i + 1))
 else
 none
 else
 some true :=
 (runA_eq 14 _ _).trans (by kernel_rfl)
theorem R.l7In_eq (n : Int) (low : Int) (high : Int) : R.l7In n low high =
 bif decide (n ≥ low) then
 some (decide (n ≤ high))
 else
 some false :=
 (fnA_eq 15 _ rfl).trans (by kernel_rfl)
theorem R.l9OverOk_eq (m : TMachine) : R.l9OverOk m =
 bif decide (IntKind.i64.wrap (IntKind.i64.wrap (IntKind.i64.wrap ((m.gCodes.length : Int) + (m.gArgs.length : Int)) + (m.gOuts.length : Int)) + (m.gFrames.length : Int)) > 0) then
 some false
 else
 bif m.gLooks != 0 then
 some false
 else
 bif m.gKind != 0 then
 some false
 else
 bif !bEq m.gName ((⟨#[]⟩ : ByteArray)) then
 some false
 else
 bif !bEq m.gHold ((⟨#[]⟩ : ByteArray)) then
 some false
 else
 (R.l7In m.gEnd 0 5).bind fun r0 =>
 bif r0 then
 bif decide ((m.gText.size : Int) ≤ 3000) then
 bif m.gEnd == 0 then
 some true
 else
 some ((m.gFiles.length : Int) == 0)
 else
 some false
 else
 some false :=
 (fnA_eq 16 _ rfl).trans (by kernel_rfl)
noncomputable def R.ValidJob.l116 (i : Int) (j : TJob) : Option Bool := Y.runA 17 (fun ct c => at_ ct [true, true, false, true, false, false] c) ⟨[(1, .ad (.loc 1) 0), (3, .i IntKind.i64 i)], [(1, cells 47 j)], [], [], []⟩
theorem R.ValidJob_eq (j : TJob) : R.ValidJob j =
 bif decide ((j.gArg.size : Int) > 3000) then
 some false
 else
 bif decide ((j.gOuts.length : Int) > 20) then
 some false
 else
 R.ValidJob.l116 0 j :=
 (fnA_eq 17 _ rfl).trans (by kernel_rfl)
theorem R.ValidJob.l116_eq (i : Int) (j : TJob) : R.ValidJob.l116 i j =
 bif decide (i < (j.gOuts.length : Int)) then
 bif inB i j.gOuts.length then
 (R.l6PathOk (j.gOuts.getD i.toNat (⟨#[]⟩ : ByteArray))).bind fun r0 =>
 bif !r0 then
 some false
 else
 bif decide (i > 0) then
 bif inB (IntKind.i64.wrap (i - 1)) j.gOuts.length then
 bif inB i j.gOuts.length then
 bif !bLt (j.gOuts.getD (IntKind.i64.wrap (i - 1)).toNat (⟨#[]⟩ : ByteArray)) (j.gOuts.getD i.toNat (⟨#[]⟩ : ByteArray)) then
 some false
 else
 R.ValidJob.l116 (IntKind.i64.wrap (i + 1)) j
 else
 none
 else
 none
 else
 R.ValidJob.l116 (IntKind.i64.wrap (i + 1)) j
 else
 none
 else
 some true :=
 (runA_eq 17 _ _).trans (by kernel_rfl)
theorem R.l9WaitOk_eq (m : TMachine) : R.l9WaitOk m =
 bif m.gKind == 0 then
 bif bEq m.gName ((⟨#[]⟩ : ByteArray)) then
 some (bEq m.gHold ((⟨#[]⟩ : ByteArray)))
 else
 some false
 else
 bif m.gKind == 3 then
 (R.l6PrefixOk m.gName).bind fun r0 =>
 bif !r0 then
 some false
 else
 bif m.gKind != 3 then
 (R.l6PathOk m.gName).bind fun r1 =>
 bif !r1 then
 some false
 else
 (R.l7In m.gKind 1 4).bind fun r2 =>
 bif r2 then
 bif decide ((m.gHold.size : Int) ≤ 3000) then
 bif bEq m.gHold ((⟨#[]⟩ : ByteArray)) then
 some (decide (m.gLooks ≥ 1))
 else
 bif m.gKind == 4 then
 some (decide (m.gLooks ≥ 1))
 else
 some false
 else
 some false
 else
 some false
 else
 (R.l7In m.gKind 1 4).bind fun r1 =>
 bif r1 then
 bif decide ((m.gHold.size : Int) ≤ 3000) then
 bif bEq m.gHold ((⟨#[]⟩ : ByteArray)) then
 some (decide (m.gLooks ≥ 1))
 else
 bif m.gKind == 4 then
 some (decide (m.gLooks ≥ 1))
 else
 some false
 else
 some false
 else
 some false
 else
 bif m.gKind != 3 then
 (R.l6PathOk m.gName).bind fun r0 =>
 bif !r0 then
 some false
 else
 (R.l7In m.gKind 1 4).bind fun r1 =>
 bif r1 then
 bif decide ((m.gHold.size : Int) ≤ 3000) then
 bif bEq m.gHold ((⟨#[]⟩ : ByteArray)) then
 some (decide (m.gLooks ≥ 1))
 else
 bif m.gKind == 4 then
 some (decide (m.gLooks ≥ 1))
 else
 some false
 else
 some false
 else
 some false
 else
 (R.l7In m.gKind 1 4).bind fun r0 =>
 bif r0 then
 bif decide ((m.gHold.size : Int) ≤ 3000) then
 bif bEq m.gHold ((⟨#[]⟩ : ByteArray)) then
 some (decide (m.gLooks ≥ 1))
 else
 bif m.gKind == 4 then
 some (decide (m.gLooks ≥ 1))
 else
 some false
 else
 some false
 else
 some false :=
 (fnA_eq 18 _ rfl).trans (by kernel_rfl)
theorem R.l1Letter_eq (b : Int) : R.l1Letter b =
 bif decide (b ≥ 97) then
 some (decide (b ≤ 122))
 else
 some false :=
 (fnA_eq 114 _ rfl).trans (by kernel_rfl)
theorem R.l1TypeWord_eq (t : Int) : R.l1TypeWord t =
 bif t == 1 then
 some ((⟨#[98, 111, 111, 108]⟩ : ByteArray))
 else
 bif t == 2 then
 some ((⟨#[116, 101, 120, 116]⟩ : ByteArray))
 else
 bif t == 3 then
 some ((⟨#[117, 56]⟩ : ByteArray))
 else
 bif t == 4 then
 some ((⟨#[117, 49, 54]⟩ : ByteArray))
 else
 bif t == 5 then
 some ((⟨#[117, 51, 50]⟩ : ByteArray))
 else
 bif t == 6 then
 some ((⟨#[117, 54, 52]⟩ : ByteArray))
 else
 bif t == 7 then
 some ((⟨#[105, 56]⟩ : ByteArray))
 else
 bif t == 8 then
 some ((⟨#[105, 49, 54]⟩ : ByteArray))
 else
 bif t == 9 then
 some ((⟨#[105, 51, 50]⟩ : ByteArray))
 else
 bif t == 10 then
 some ((⟨#[105, 54, 52]⟩ : ByteArray))
 else
 some ((⟨#[]⟩ : ByteArray)) :=
 (fnA_eq 128 _ rfl).trans (by kernel_rfl)
noncomputable def R.l1Type.l52 (w : ByteArray) (t : Int) : Option Int := Y.runA 122 (fun ct c => at_ ct [true, false, true, false, false] c) ⟨[(0, .s w), (3, .i IntKind.i64 t)], [], [], [], []⟩
theorem R.l1Type_eq (w : ByteArray) : R.l1Type w =
 R.l1Type.l52 w 1 :=
 (fnA_eq 122 _ rfl).trans (by kernel_rfl)
theorem R.l1Type.l52_eq (w : ByteArray) (t : Int) : R.l1Type.l52 w t =
 bif decide (t ≤ 10) then
 (R.l1TypeWord t).bind fun r0 =>
 bif bEq r0 w then
 some t
 else
 R.l1Type.l52 w (IntKind.i64.wrap (t + 1))
 else
 some 0 :=
 (runA_eq 122 _ _).trans (by kernel_rfl)
theorem R.l1BuiltWord_eq (op : Int) : R.l1BuiltWord op =
 bif op == 1 then
 some ((⟨#[114, 101, 97, 100]⟩ : ByteArray), 1)
 else
 bif op == 2 then
 some ((⟨#[104, 97, 115]⟩ : ByteArray), 1)
 else
 bif op == 3 then
 some ((⟨#[108, 105, 115, 116]⟩ : ByteArray), 1)
 else
 bif op == 4 then
 some ((⟨#[116, 111, 111, 108]⟩ : ByteArray), 2)
 else
 bif op == 5 then
 some ((⟨#[97, 114, 103]⟩ : ByteArray), 0)
 else
 bif op == 6 then
 some ((⟨#[108, 101, 110]⟩ : ByteArray), 1)
 else
 bif op == 7 then
 some ((⟨#[97, 116]⟩ : ByteArray), 2)
 else
 bif op == 8 then
 some ((⟨#[99, 117, 116]⟩ : ByteArray), 3)
 else
 bif op == 9 then
 some ((⟨#[102, 105, 110, 100]⟩ : ByteArray), 2)
 else
 bif op == 10 then
 some ((⟨#[99, 104, 114]⟩ : ByteArray), 1)
 else
 bif op == 11 then
 some ((⟨#[100, 101, 99]⟩ : ByteArray), 1)
 else
 bif op == 12 then
 some ((⟨#[110, 117, 109]⟩ : ByteArray), 1)
 else
 some ((⟨#[]⟩ : ByteArray), 0) :=
 (fnA_eq 101 _ rfl).trans (by kernel_rfl)
theorem R.l1Plain_eq : R.l1Plain =
 some ([(⟨#[102, 110]⟩ : ByteArray), (⟨#[108, 101, 116]⟩ : ByteArray), (⟨#[105, 102]⟩ : ByteArray), (⟨#[101, 108, 115, 101]⟩ : ByteArray), (⟨#[119, 104, 105, 108, 101]⟩ : ByteArray), (⟨#[98, 114, 101, 97, 107]⟩ : ByteArray), (⟨#[99, 111, 110, 116, 105, 110, 117, 101]⟩ : ByteArray), (⟨#[114, 101, 116, 117, 114, 110]⟩ : ByteArray), (⟨#[102, 97, 105, 108]⟩ : ByteArray), (⟨#[119, 114, 105, 116, 101]⟩ : ByteArray), (⟨#[115, 97, 121]⟩ : ByteArray), (⟨#[116, 114, 117, 101]⟩ : ByteArray), (⟨#[102, 97, 108, 115, 101]⟩ : ByteArray)]) :=
 (fnA_eq 123 _ rfl).trans (by kernel_rfl)
noncomputable def R.l1Taken.l116 (w : ByteArray) (op : Int) : Option Bool := Y.runA 115 (fun ct c => at_ ct [true, true, false, true, false, false] c) ⟨[(0, .s w), (3, .i IntKind.i64 op)], [], [], [], []⟩
noncomputable def R.l1Taken.l500 (w : ByteArray) (plain : List ByteArray) (i : Int) : Option Bool := Y.runA 115 (fun ct c => at_ ct [true, true, true, true, false, true, false, false] c) ⟨[(0, .s w), (6, .fl 9 plain), (7, .i IntKind.i64 i)], [], [], [], []⟩
theorem R.l1Taken_eq (w : ByteArray) : R.l1Taken w =
 (R.l1Type w).bind fun r0 =>
 bif r0 != 0 then
 some true
 else
 R.l1Taken.l116 w 1 :=
 (fnA_eq 115 _ rfl).trans (by kernel_rfl)
theorem R.l1Taken.l116_eq (w : ByteArray) (op : Int) : R.l1Taken.l116 w op =
 bif decide (op ≤ 12) then
 (R.l1BuiltWord op).bind fun r0 =>
 bif bEq r0.fst w then
 some true
 else
 R.l1Taken.l116 w (IntKind.i64.wrap (op + 1))
 else
 (R.l1Plain).bind fun r0 =>
 R.l1Taken.l500 w r0 0 :=
 (runA_eq 115 _ _).trans (by kernel_rfl)
theorem R.l1Taken.l500_eq (w : ByteArray) (plain : List ByteArray) (i : Int) : R.l1Taken.l500 w plain i =
 bif decide (i < ((List.length plain) : Int)) then
 bif inB i (List.length plain) then
 bif bEq (List.getD plain i.toNat (⟨#[]⟩ : ByteArray)) w then
 some true
 else
 R.l1Taken.l500 w plain (IntKind.i64.wrap (i + 1))
 else
 none
 else
 some false :=
 (runA_eq 115 _ _).trans (by kernel_rfl)
theorem R.l1Digit_eq (b : Int) : R.l1Digit b =
 bif decide (b ≥ 48) then
 some (decide (b ≤ 57))
 else
 some false :=
 (fnA_eq 124 _ rfl).trans (by kernel_rfl)
theorem R.l1Tail_eq (b : Int) : R.l1Tail b =
 (R.l1Letter b).bind fun r0 =>
 bif r0 then
 some true
 else
 (R.l1Digit b).bind fun r1 =>
 bif r1 then
 some true
 else
 some (b == 95) :=
 (fnA_eq 116 _ rfl).trans (by kernel_rfl)
noncomputable def R.l1NameOk.l116 (s : ByteArray) (i : Int) : Option Bool := Y.runA 96 (fun ct c => at_ ct [true, true, false, true, false, false] c) ⟨[(0, .s s), (3, .i IntKind.i64 i)], [], [], [], []⟩
theorem R.l1NameOk_eq (s : ByteArray) : R.l1NameOk s =
 bif decide ((s.size : Int) < 1) then
 some false
 else
 bif decide ((s.size : Int) > 30) then
 some false
 else
 bif inB 0 s.size then
 (R.l1Letter (bt s 0)).bind fun r0 =>
 bif !r0 then
 some false
 else
 (R.l1Taken s).bind fun r1 =>
 bif r1 then
 some false
 else
 R.l1NameOk.l116 s 0
 else
 none :=
 (fnA_eq 96 _ rfl).trans (by kernel_rfl)
theorem R.l1NameOk.l116_eq (s : ByteArray) (i : Int) : R.l1NameOk.l116 s i =
 bif decide (i < (s.size : Int)) then
 bif inB i s.size then
 (R.l1Tail (bt s i)).bind fun r0 =>
 bif !r0 then
 some false
 else
 R.l1NameOk.l116 s (IntKind.i64.wrap (i + 1))
 else
 none
 else
 some true :=
 (runA_eq 96 _ _).trans (by kernel_rfl)
noncomputable def R.l7FnOk.l244 (k : Int) (i : Int) (c : TCode) (f : TFn) : Option Bool := Y.runA 71 (fun ct c => at_ ct [true, true, true, false, true, false, false] c) ⟨[(1, .i IntKind.i64 k), (2, .ad (.loc 2) 0), (5, .ad (.loc 5) 0), (6, .i IntKind.i64 i)], [(2, cells 53 c), (5, cells 89 f)], [], [], []⟩
noncomputable def R.l7FnOk.l500 (k : Int) (i : Int) (c : TCode) (f : TFn) : Option Bool := Y.runA 71 (fun ct c => at_ ct [true, true, true, true, false, true, false, false] c) ⟨[(1, .i IntKind.i64 k), (2, .ad (.loc 2) 0), (5, .ad (.loc 5) 0), (7, .i IntKind.i64 i)], [(2, cells 53 c), (5, cells 89 f)], [], [], []⟩
theorem R.l7FnOk_eq (c : TCode) (k : Int) : R.l7FnOk c k =
 bif inB k c.gFns.length then
 (R.l1NameOk ((c.gFns.getD k.toNat TFn.z).gName)).bind fun r0 =>
 bif !r0 then
 some false
 else
 bif decide (((c.gFns.getD k.toNat TFn.z).gParams.length : Int) > 8) then
 some false
 else
 (R.l7In ((c.gFns.getD k.toNat TFn.z).gResult) 0 10).bind fun r1 =>
 bif !r1 then
 some false
 else
 (R.l7In ((c.gFns.getD k.toNat TFn.z).gSlots) ((c.gFns.getD k.toNat TFn.z).gParams.length : Int) 200).bind fun r2 =>
 bif !r2 then
 some false
 else
 (R.l7In ((c.gFns.getD k.toNat TFn.z).gIns.length : Int) 1 50000).bind fun r3 =>
 bif !r3 then
 some false
 else
 R.l7FnOk.l244 k 0 c (c.gFns.getD k.toNat TFn.z)
 else
 none :=
 (fnA_eq 71 _ rfl).trans (by kernel_rfl)
theorem R.l7FnOk.l244_eq (k : Int) (i : Int) (c : TCode) (f : TFn) : R.l7FnOk.l244 k i c f =
 bif decide (i < (f.gParams.length : Int)) then
 bif inB i f.gParams.length then
 (R.l7In (f.gParams.getD i.toNat 0) 1 10).bind fun r0 =>
 bif !r0 then
 some false
 else
 R.l7FnOk.l244 k (IntKind.i64.wrap (i + 1)) c f
 else
 none
 else
 R.l7FnOk.l500 k 0 c f :=
 (runA_eq 71 _ _).trans (by kernel_rfl)
theorem R.l7FnOk.l500_eq (k : Int) (i : Int) (c : TCode) (f : TFn) : R.l7FnOk.l500 k i c f =
 bif decide (i < k) then
 bif inB i c.gFns.length then
 bif bEq (c.gFns.getD i.toNat TFn.z).gName f.gName then
 some false
 else
 R.l7FnOk.l500 k (IntKind.i64.wrap (i + 1)) c f
 else
 none
 else
 some true :=
 (runA_eq 71 _ _).trans (by kernel_rfl)
theorem R.l7HasA_eq (op : Int) : R.l7HasA op =
 bif op == 1 then
 some true
 else
 bif op == 2 then
 some true
 else
 bif op == 3 then
 some true
 else
 (R.l7In op 5 12).bind fun r0 =>
 some r0 :=
 (fnA_eq 97 _ rfl).trans (by kernel_rfl)
theorem R.l1Integer_eq (t : Int) : R.l1Integer t =
 bif decide (t ≥ 3) then
 some (decide (t ≤ 10))
 else
 some false :=
 (fnA_eq 76 _ rfl).trans (by kernel_rfl)
noncomputable def R.l1Bits.l53 (t3 : Int) (t4 : Bool) : Option Int := Y.runA 103 (fun ct c => at_ ct [true, false, true, false, true] c) ⟨[(3, .i IntKind.i64 t3), (4, .b t4)], [], [], [], []⟩
noncomputable def R.l1Bits.l215 (t3 : Int) (t7 : Bool) : Option Int := Y.runA 103 (fun ct c => at_ ct [true, false, true, false, true, true, true] c) ⟨[(3, .i IntKind.i64 t3), (7, .b t7)], [], [], [], []⟩
theorem R.l1Bits_eq (t : Int) : R.l1Bits t =
 bif t == 3 then
 R.l1Bits.l53 t (t == 3)
 else
 R.l1Bits.l53 t (t == 7) :=
 (fnA_eq 103 _ rfl).trans (by kernel_rfl)
theorem R.l1Bits.l53_eq (t3 : Int) (t4 : Bool) : R.l1Bits.l53 t3 t4 =
 bif t4 then
 some 8
 else
 bif t3 == 4 then
 R.l1Bits.l215 t3 (t3 == 4)
 else
 R.l1Bits.l215 t3 (t3 == 8) :=
 (runA_eq 103 _ _).trans (by kernel_rfl)
theorem R.l1Bits.l215_eq (t3 : Int) (t7 : Bool) : R.l1Bits.l215 t3 t7 =
 bif t7 then
 some 16
 else
 bif t3 == 5 then
 bif t3 == 5 then
 some 32
 else
 some 64
 else
 bif t3 == 9 then
 some 32
 else
 some 64 :=
 (runA_eq 103 _ _).trans (by kernel_rfl)
theorem R.l1Signed_eq (t : Int) : R.l1Signed t =
 bif decide (t ≥ 7) then
 some (decide (t ≤ 10))
 else
 some false :=
 (fnA_eq 104 _ rfl).trans (by kernel_rfl)
theorem R.l4Into_eq (t : Int) (bits : Int) : R.l4Into t bits =
 (R.l1Bits t).bind fun r0 =>
 bif decide (r0 < 64) then
 bif decide (0 ≤ IntKind.u64.wrap r0) then
 bif shlI IntKind.u64 1 (IntKind.u64.wrap r0) != 0 then
 (R.l1Signed t).bind fun r1 =>
 bif r1 then
 bif decide (bits.tmod (shlI IntKind.u64 1 (IntKind.u64.wrap r0)) ≥ IntKind.u64.wrap ((shlI IntKind.u64 1 (IntKind.u64.wrap r0)).tdiv 2)) then
 some (IntKind.i64.wrap (IntKind.u64.wrap (bits.tmod (shlI IntKind.u64 1 (IntKind.u64.wrap r0)) - shlI IntKind.u64 1 (IntKind.u64.wrap r0))))
 else
 some (IntKind.i64.wrap (bits.tmod (shlI IntKind.u64 1 (IntKind.u64.wrap r0))))
 else
 some (IntKind.i64.wrap (bits.tmod (shlI IntKind.u64 1 (IntKind.u64.wrap r0))))
 else
 none
 else
 none
 else
 some (IntKind.i64.wrap bits) :=
 (fnA_eq 77 _ rfl).trans (by kernel_rfl)
theorem R.ValidValue_eq (v : TValue) : R.ValidValue v =
 bif v.gType == 1 then
 bif v.gN == 0 then
 some (bEq v.gText ((⟨#[]⟩ : ByteArray)))
 else
 bif v.gN == 1 then
 some (bEq v.gText ((⟨#[]⟩ : ByteArray)))
 else
 some false
 else
 bif v.gType == 2 then
 bif v.gN == 0 then
 some (decide ((v.gText.size : Int) ≤ 3000))
 else
 some false
 else
 (R.l1Integer v.gType).bind fun r0 =>
 bif r0 then
 bif bEq v.gText ((⟨#[]⟩ : ByteArray)) then
 (R.l4Into v.gType (IntKind.u64.wrap v.gN)).bind fun r1 =>
 some (v.gN == r1)
 else
 some false
 else
 some false :=
 (fnA_eq 58 _ rfl).trans (by kernel_rfl)
noncomputable def R.l7InsOk.l501 (t42 : Int) (t43 : Bool) (c : TCode) (f : TFn) (i : TIns) : Option Bool := Y.runA 72 (fun ct c => at_ ct [true, true, true, true, false, true, false, true] c) ⟨[(3, .ad (.loc 3) 0), (4, .ad (.loc 4) 0), (5, .ad (.loc 5) 0), (42, .i IntKind.i64 t42), (43, .b t43)], [(3, cells 53 c), (4, cells 89 f), (5, cells 98 i)], [], [], []⟩
noncomputable def R.l7InsOk.l2056191 (t42 : Int) (t81 : Bool) (f : TFn) (i : TIns) : Option Bool := Y.runA 72 (fun ct c => at_ ct [true, true, true, true, false, true, false, true, true, true, true, true, true, true, true, true, true, true, true, true] c) ⟨[(4, .ad (.loc 4) 0), (5, .ad (.loc 5) 0), (42, .i IntKind.i64 t42), (81, .b t81)], [(4, cells 89 f), (5, cells 98 i)], [], [], []⟩
theorem R.l7InsOk_eq (c : TCode) (f : TFn) (i : TIns) : R.l7InsOk c f i =
 (R.l7In i.gOp 1 16).bind fun r0 =>
 bif !r0 then
 some false
 else
 (R.l7HasA i.gOp).bind fun r1 =>
 bif !r1 then
 bif i.gA != 0 then
 some false
 else
 bif i.gOp == 1 then
 (R.ValidValue (TValue.mk i.gA i.gN i.gText)).bind fun r2 =>
 some r2
 else
 bif i.gN != 0 then
 some false
 else
 bif !bEq i.gText ((⟨#[]⟩ : ByteArray)) then
 some false
 else
 bif i.gOp == 2 then
 R.l7InsOk.l501 i.gOp (i.gOp == 2) c f i
 else
 R.l7InsOk.l501 i.gOp (i.gOp == 3) c f i
 else
 bif i.gOp == 1 then
 (R.ValidValue (TValue.mk i.gA i.gN i.gText)).bind fun r2 =>
 some r2
 else
 bif i.gN != 0 then
 some false
 else
 bif !bEq i.gText ((⟨#[]⟩ : ByteArray)) then
 some false
 else
 bif i.gOp == 2 then
 R.l7InsOk.l501 i.gOp (i.gOp == 2) c f i
 else
 R.l7InsOk.l501 i.gOp (i.gOp == 3) c f i :=
 (fnA_eq 72 _ rfl).trans (by kernel_rfl)
theorem R.l7InsOk.l501_eq (t42 : Int) (t43 : Bool) (c : TCode) (f : TFn) (i : TIns) : R.l7InsOk.l501 t42 t43 c f i =
 bif t43 then
 (R.l7In i.gA 0 (IntKind.i64.wrap (f.gSlots - 1))).bind fun r0 =>
 some r0
 else
 bif t42 == 5 then
 (R.l7In i.gA 1 3).bind fun r0 =>
 some r0
 else
 bif t42 == 6 then
 (R.l7In i.gA 3 18).bind fun r0 =>
 some r0
 else
 bif t42 == 7 then
 (R.l1Integer i.gA).bind fun r0 =>
 some r0
 else
 bif t42 == 8 then
 (R.l7In i.gA 1 12).bind fun r0 =>
 some r0
 else
 bif t42 == 9 then
 (R.l7In i.gA 0 (IntKind.i64.wrap ((c.gFns.length : Int) - 1))).bind fun r0 =>
 some r0
 else
 bif t42 == 10 then
 R.l7InsOk.l2056191 t42 (t42 == 10) f i
 else
 R.l7InsOk.l2056191 t42 (t42 == 11) f i :=
 (runA_eq 72 _ _).trans (by kernel_rfl)
theorem R.l7InsOk.l2056191_eq (t42 : Int) (t81 : Bool) (f : TFn) (i : TIns) : R.l7InsOk.l2056191 t42 t81 f i =
 bif t81 then
 (R.l7In i.gA 0 (f.gIns.length : Int)).bind fun r0 =>
 some r0
 else
 bif t42 == 12 then
 bif i.gA == 1 then
 bif f.gResult != 0 then
 some true
 else
 bif i.gA == 0 then
 some (f.gResult == 0)
 else
 some false
 else
 bif i.gA == 0 then
 some (f.gResult == 0)
 else
 some false
 else
 some true :=
 (runA_eq 72 _ _).trans (by kernel_rfl)
noncomputable def R.l7Main.l52 (i : Int) (c : TCode) : Option Int := Y.runA 40 (fun ct c => at_ ct [true, false, true, false, false] c) ⟨[(1, .ad (.loc 1) 0), (3, .i IntKind.i64 i)], [(1, cells 53 c)], [], [], []⟩
theorem R.l7Main_eq (c : TCode) : R.l7Main c =
 R.l7Main.l52 0 c :=
 (fnA_eq 40 _ rfl).trans (by kernel_rfl)
theorem R.l7Main.l52_eq (i : Int) (c : TCode) : R.l7Main.l52 i c =
 bif decide (i < (c.gFns.length : Int)) then
 bif inB i c.gFns.length then
 bif bEq (c.gFns.getD i.toNat TFn.z).gName ((⟨#[109, 97, 105, 110]⟩ : ByteArray)) then
 bif inB i c.gFns.length then
 bif ((c.gFns.getD i.toNat TFn.z).gParams.length : Int) == 0 then
 bif inB i c.gFns.length then
 bif (c.gFns.getD i.toNat TFn.z).gResult == 2 then
 some i
 else
 R.l7Main.l52 (IntKind.i64.wrap (i + 1)) c
 else
 none
 else
 R.l7Main.l52 (IntKind.i64.wrap (i + 1)) c
 else
 none
 else
 R.l7Main.l52 (IntKind.i64.wrap (i + 1)) c
 else
 none
 else
 some (-1) :=
 (runA_eq 40 _ _).trans (by kernel_rfl)
noncomputable def R.l7Plain.l116 (k : Int) (c : TCode) : Option ((Int × (Int × Int))) := Y.runA 55 (fun ct c => at_ ct [true, true, false, true, false, false] c) ⟨[(1, .ad (.loc 1) 0), (5, .i IntKind.i64 k)], [(1, cells 53 c)], [], [], []⟩
noncomputable def R.l7Plain.l244 (k : Int) (c : TCode) : Option ((Int × (Int × Int))) := Y.runA 55 (fun ct c => at_ ct [true, true, true, false, true, false, false] c) ⟨[(1, .ad (.loc 1) 0), (6, .i IntKind.i64 k)], [(1, cells 53 c)], [], [], []⟩
noncomputable def R.l7Plain.l15652 (k : Int) (i : Int) (c : TCode) : Option ((Int × (Int × Int))) := Y.runA 55 (fun ct c => at_ ct [true, true, true, false, true, false, false, true, false, false, true, false, false] c) ⟨[(1, .ad (.loc 1) 0), (6, .i IntKind.i64 k), (7, .i IntKind.i64 i)], [(1, cells 53 c)], [], [], []⟩
theorem R.l7Plain_eq (c : TCode) : R.l7Plain c =
 (R.l7In (c.gFns.length : Int) 1 60).bind fun r0 =>
 bif !r0 then
 some (1, (0, 0))
 else
 R.l7Plain.l116 0 c :=
 (fnA_eq 55 _ rfl).trans (by kernel_rfl)
theorem R.l7Plain.l116_eq (k : Int) (c : TCode) : R.l7Plain.l116 k c =
 bif decide (k < (c.gFns.length : Int)) then
 (R.l7FnOk c k).bind fun r0 =>
 bif !r0 then
 some (2, (k, 0))
 else
 R.l7Plain.l116 (IntKind.i64.wrap (k + 1)) c
 else
 R.l7Plain.l244 0 c :=
 (runA_eq 55 _ _).trans (by kernel_rfl)
theorem R.l7Plain.l244_eq (k : Int) (c : TCode) : R.l7Plain.l244 k c =
 bif decide (k < (c.gFns.length : Int)) then
 R.l7Plain.l15652 k 0 c
 else
 (R.l7Main c).bind fun r0 =>
 bif decide (r0 < 0) then
 some (4, (0, 0))
 else
 some (0, (0, 0)) :=
 (runA_eq 55 _ _).trans (by kernel_rfl)
theorem R.l7Plain.l15652_eq (k : Int) (i : Int) (c : TCode) : R.l7Plain.l15652 k i c =
 bif inB k c.gFns.length then
 bif decide (i < ((c.gFns.getD k.toNat TFn.z).gIns.length : Int)) then
 bif inB k c.gFns.length then
 bif inB k c.gFns.length then
 bif inB i (c.gFns.getD k.toNat TFn.z).gIns.length then
 (R.l7InsOk c (c.gFns.getD k.toNat TFn.z) ((c.gFns.getD k.toNat TFn.z).gIns.getD i.toNat TIns.z)).bind fun r0 =>
 bif !r0 then
 some (3, (k, i))
 else
 R.l7Plain.l15652 k (IntKind.i64.wrap (i + 1)) c
 else
 none
 else
 none
 else
 none
 else
 R.l7Plain.l244 (IntKind.i64.wrap (k + 1)) c
 else
 none :=
 (runA_eq 55 _ _).trans (by kernel_rfl)
theorem R.l3Un_eq (op : Int) (a : Int) : R.l3Un op a =
 bif op == 2 then
 bif a == 1 then
 some a
 else
 some 0
 else
 (R.l1Integer a).bind fun r0 =>
 bif r0 then
 some a
 else
 some 0 :=
 (fnA_eq 99 _ rfl).trans (by kernel_rfl)
noncomputable def R.l3Bin.l117 (a : Int) (t14 : Int) (t15 : Bool) : Option Int := Y.runA 100 (fun ct c => at_ ct [true, true, false, true, false, true] c) ⟨[(1, .i IntKind.i64 a), (14, .i IntKind.i64 t14), (15, .b t15)], [], [], [], []⟩
noncomputable def R.l3Bin.l471 (a : Int) (t14 : Int) (t21 : Bool) : Option Int := Y.runA 100 (fun ct c => at_ ct [true, true, false, true, false, true, true, true] c) ⟨[(1, .i IntKind.i64 a), (14, .i IntKind.i64 t14), (21, .b t21)], [], [], [], []⟩
noncomputable def R.l3Bin.l1887 (a : Int) (t14 : Int) (t24 : Bool) : Option Int := Y.runA 100 (fun ct c => at_ ct [true, true, false, true, false, true, true, true, true, true] c) ⟨[(1, .i IntKind.i64 a), (14, .i IntKind.i64 t14), (24, .b t24)], [], [], [], []⟩
theorem R.l3Bin_eq (op : Int) (a : Int) (b : Int) : R.l3Bin op a b =
 bif a != b then
 some 0
 else
 bif a == 0 then
 some 0
 else
 bif op == 1 then
 R.l3Bin.l117 a op (op == 1)
 else
 R.l3Bin.l117 a op (op == 2) :=
 (fnA_eq 100 _ rfl).trans (by kernel_rfl)
theorem R.l3Bin.l117_eq (a : Int) (t14 : Int) (t15 : Bool) : R.l3Bin.l117 a t14 t15 =
 bif t15 then
 bif a == 1 then
 some a
 else
 some 0
 else
 bif t14 == 3 then
 R.l3Bin.l471 a t14 (t14 == 3)
 else
 R.l3Bin.l471 a t14 (t14 == 4) :=
 (runA_eq 100 _ _).trans (by kernel_rfl)
theorem R.l3Bin.l471_eq (a : Int) (t14 : Int) (t21 : Bool) : R.l3Bin.l471 a t14 t21 =
 bif t21 then
 some 1
 else
 bif t14 == 5 then
 R.l3Bin.l1887 a t14 (t14 == 5)
 else
 bif t14 == 6 then
 R.l3Bin.l1887 a t14 (t14 == 6)
 else
 bif t14 == 7 then
 R.l3Bin.l1887 a t14 (t14 == 7)
 else
 R.l3Bin.l1887 a t14 (t14 == 8) :=
 (runA_eq 100 _ _).trans (by kernel_rfl)
theorem R.l3Bin.l1887_eq (a : Int) (t14 : Int) (t24 : Bool) : R.l3Bin.l1887 a t14 t24 =
 bif t24 then
 bif a != 1 then
 some 1
 else
 some 0
 else
 bif t14 == 9 then
 bif a != 1 then
 some a
 else
 some 0
 else
 (R.l1Integer a).bind fun r0 =>
 bif r0 then
 some a
 else
 some 0 :=
 (runA_eq 100 _ _).trans (by kernel_rfl)
noncomputable def R.l3Wants.l53 (t4 : Int) (t5 : Bool) : Option ((List Int × Int)) := Y.runA 78 (fun ct c => at_ ct [true, false, true, false, true] c) ⟨[(4, .i IntKind.i64 t4), (5, .b t5)], [], [], [], []⟩
noncomputable def R.l3Wants.l13823 (t4 : Int) (t18 : Bool) : Option ((List Int × Int)) := Y.runA 78 (fun ct c => at_ ct [true, false, true, false, true, true, true, true, true, true, true, true, true] c) ⟨[(4, .i IntKind.i64 t4), (18, .b t18)], [], [], [], []⟩
theorem R.l3Wants_eq (op : Int) : R.l3Wants op =
 bif op == 1 then
 R.l3Wants.l53 op (op == 1)
 else
 R.l3Wants.l53 op (op == 3) :=
 (fnA_eq 78 _ rfl).trans (by kernel_rfl)
theorem R.l3Wants.l53_eq (t4 : Int) (t5 : Bool) : R.l3Wants.l53 t4 t5 =
 bif t5 then
 some ([2], 2)
 else
 bif t4 == 2 then
 some ([2], 1)
 else
 bif t4 == 4 then
 some ([2, 2], 2)
 else
 bif t4 == 5 then
 some ([], 2)
 else
 bif t4 == 6 then
 R.l3Wants.l13823 t4 (t4 == 6)
 else
 R.l3Wants.l13823 t4 (t4 == 12) :=
 (runA_eq 78 _ _).trans (by kernel_rfl)
theorem R.l3Wants.l13823_eq (t4 : Int) (t18 : Bool) : R.l3Wants.l13823 t4 t18 =
 bif t18 then
 some ([2], 10)
 else
 bif t4 == 7 then
 some ([2, 10], 3)
 else
 bif t4 == 8 then
 some ([2, 10, 10], 2)
 else
 bif t4 == 9 then
 some ([2, 2], 10)
 else
 bif t4 == 10 then
 some ([3], 2)
 else
 some ([0], 2) :=
 (runA_eq 78 _ _).trans (by kernel_rfl)
noncomputable def R.l3Built.l244 (have_ : List Int) (want : List Int) (gives : Int) (i : Int) : Option Int := Y.runA 102 (fun ct c => at_ ct [true, true, true, false, true, false, false] c) ⟨[(1, .fl 3 have_), (5, .fl 3 want), (6, .i IntKind.i64 gives), (7, .i IntKind.i64 i)], [], [], [], []⟩
theorem R.l3Built_eq (op : Int) (have_ : List Int) : R.l3Built op have_ =
 (R.l3Wants op).bind fun r0 =>
 bif ((List.length r0.fst) : Int) != (have_.length : Int) then
 some 0
 else
 R.l3Built.l244 have_ r0.fst r0.snd 0 :=
 (fnA_eq 102 _ rfl).trans (by kernel_rfl)
theorem R.l3Built.l244_eq (have_ : List Int) (want : List Int) (gives : Int) (i : Int) : R.l3Built.l244 have_ want gives i =
 bif decide (i < ((List.length want) : Int)) then
 bif inB i have_.length then
 bif inB i (List.length want) then
 bif have_.getD i.toNat 0 != List.getD want i.toNat 0 then
 bif inB i (List.length want) then
 bif List.getD want i.toNat 0 != 0 then
 some 0
 else
 bif inB i have_.length then
 (R.l1Integer (have_.getD i.toNat 0)).bind fun r0 =>
 bif !r0 then
 some 0
 else
 R.l3Built.l244 have_ want gives (IntKind.i64.wrap (i + 1))
 else
 none
 else
 none
 else
 R.l3Built.l244 have_ want gives (IntKind.i64.wrap (i + 1))
 else
 none
 else
 none
 else
 some gives :=
 (runA_eq 102 _ _).trans (by kernel_rfl)
noncomputable def R.l7Gives.l63 (n : Int) (top : Int) (below : Int) (c : TCode) (f : TFn) (i : TIns) (s : TShape) : Option ((Int × (List Int × Bool))) := Y.runA 75 (fun ct c => at_ ct [true, true, true, true, true] c) ⟨[(4, .ad (.loc 4) 0), (5, .ad (.loc 5) 0), (6, .ad (.loc 6) 0), (7, .ad (.loc 7) 0), (11, .i IntKind.i64 n), (12, .i IntKind.i64 top), (13, .i IntKind.i64 below)], [(4, cells 53 c), (5, cells 89 f), (6, cells 98 i), (7, cells 96 s)], [], [], []⟩
noncomputable def R.l7Gives.l127 (n : Int) (top : Int) (below : Int) (c : TCode) (f : TFn) (i : TIns) (s : TShape) : Option ((Int × (List Int × Bool))) := Y.runA 75 (fun ct c => at_ ct [true, true, true, true, true, true] c) ⟨[(4, .ad (.loc 4) 0), (5, .ad (.loc 5) 0), (6, .ad (.loc 6) 0), (7, .ad (.loc 7) 0), (11, .i IntKind.i64 n), (12, .i IntKind.i64 top), (13, .i IntKind.i64 below)], [(4, cells 53 c), (5, cells 89 f), (6, cells 98 i), (7, cells 96 s)], [], [], []⟩
noncomputable def R.l7Gives.l32607 (n : Int) (top : Int) (below : Int) (t42 : Int) (t64 : Bool) (c : TCode) (f : TFn) (i : TIns) (s : TShape) : Option ((Int × (List Int × Bool))) := Y.runA 75 (fun ct c => at_ ct [true, true, true, true, true, true, false, true, false, true, true, true, true, true] c) ⟨[(4, .ad (.loc 4) 0), (5, .ad (.loc 5) 0), (6, .ad (.loc 6) 0), (7, .ad (.loc 7) 0), (11, .i IntKind.i64 n), (12, .i IntKind.i64 top), (13, .i IntKind.i64 below), (42, .i IntKind.i64 t42), (64, .b t64)], [(4, cells 53 c), (5, cells 89 f), (6, cells 98 i), (7, cells 96 s)], [], [], []⟩
noncomputable def R.l7Gives.l8547991412 (n : Int) (k : Int) (j : Int) (s : TShape) (g : TFn) : Option ((Int × (List Int × Bool))) := Y.runA 75 (fun ct c => at_ ct [true, true, true, true, true, true, false, true, false, true, true, true, true, true, true, true, true, true, true, true, true, true, true, true, false, true, true, true, false, true, false, false] c) ⟨[(7, .ad (.loc 7) 0), (11, .i IntKind.i64 n), (19, .ad (.loc 19) 0), (20, .i IntKind.i64 k), (21, .i IntKind.i64 j)], [(7, cells 96 s), (19, cells 89 g)], [], [], []⟩
noncomputable def R.l7Gives.l2136997887 (top : Int) (below : Int) (t42 : Int) (t192 : Bool) : Option ((Int × (List Int × Bool))) := Y.runA 75 (fun ct c => at_ ct [true, true, true, true, true, true, false, true, false, true, true, true, true, true, true, true, true, true, true, true, true, true, true, true, true, true, true, true, true, true] c) ⟨[(12, .i IntKind.i64 top), (13, .i IntKind.i64 below), (42, .i IntKind.i64 t42), (192, .b t192)], [], [], [], []⟩
theorem R.l7Gives_eq (c : TCode) (f : TFn) (i : TIns) (s : TShape) : R.l7Gives c f i s =
 bif decide ((s.gStack.length : Int) > 0) then
 bif inB (IntKind.i64.wrap ((s.gStack.length : Int) - 1)) s.gStack.length then
 R.l7Gives.l63 (s.gStack.length : Int) (s.gStack.getD (IntKind.i64.wrap ((s.gStack.length : Int) - 1)).toNat 0) 0 c f i s
 else
 none
 else
 R.l7Gives.l63 (s.gStack.length : Int) 0 0 c f i s :=
 (fnA_eq 75 _ rfl).trans (by kernel_rfl)
theorem R.l7Gives.l63_eq (n : Int) (top : Int) (below : Int) (c : TCode) (f : TFn) (i : TIns) (s : TShape) : R.l7Gives.l63 n top below c f i s =
 bif decide (n > 1) then
 bif inB (IntKind.i64.wrap (n - 2)) s.gStack.length then
 R.l7Gives.l127 n top (s.gStack.getD (IntKind.i64.wrap (n - 2)).toNat 0) c f i s
 else
 none
 else
 R.l7Gives.l127 n top below c f i s :=
 (runA_eq 75 _ _).trans (by kernel_rfl)
theorem R.l7Gives.l127_eq (n : Int) (top : Int) (below : Int) (c : TCode) (f : TFn) (i : TIns) (s : TShape) : R.l7Gives.l127 n top below c f i s =
 bif i.gOp == 1 then
 some (0, ([i.gA], true))
 else
 bif i.gOp == 2 then
 bif inB i.gA s.gSlots.length then
 bif inB i.gA s.gSlots.length then
 some (0, ([s.gSlots.getD i.gA.toNat 0], s.gSlots.getD i.gA.toNat 0 != 0))
 else
 none
 else
 none
 else
 bif i.gOp == 3 then
 R.l7Gives.l32607 n top below i.gOp (i.gOp == 3) c f i s
 else
 R.l7Gives.l32607 n top below i.gOp (i.gOp == 4) c f i s :=
 (runA_eq 75 _ _).trans (by kernel_rfl)
theorem R.l7Gives.l32607_eq (n : Int) (top : Int) (below : Int) (t42 : Int) (t64 : Bool) (c : TCode) (f : TFn) (i : TIns) (s : TShape) : R.l7Gives.l32607 n top below t42 t64 c f i s =
 bif t64 then
 some (1, ([], decide (n > 0)))
 else
 bif t42 == 5 then
 (R.l3Un i.gA top).bind fun r0 =>
 some (1, ([r0], r0 != 0))
 else
 bif t42 == 6 then
 (R.l3Bin i.gA below top).bind fun r0 =>
 some (2, ([r0], r0 != 0))
 else
 bif t42 == 7 then
 (R.l1Integer top).bind fun r0 =>
 some (1, ([i.gA], r0))
 else
 bif t42 == 8 then
 (R.l1BuiltWord i.gA).bind fun r0 =>
 bif decide (r0.snd > n) then
 some (0, ([], false))
 else
 bif inS (IntKind.i64.wrap (n - r0.snd)) (s.gStack.length : Int) s.gStack.length then
 (R.l3Built i.gA (sub s.gStack (IntKind.i64.wrap (n - r0.snd)) (s.gStack.length : Int))).bind fun r1 =>
 some (r0.snd, ([r1], r1 != 0))
 else
 none
 else
 bif t42 == 9 then
 bif inB i.gA c.gFns.length then
 bif decide (((c.gFns.getD i.gA.toNat TFn.z).gParams.length : Int) > n) then
 some (0, ([], false))
 else
 R.l7Gives.l8547991412 n ((c.gFns.getD i.gA.toNat TFn.z).gParams.length : Int) 0 s (c.gFns.getD i.gA.toNat TFn.z)
 else
 none
 else
 bif t42 == 11 then
 some (1, ([], top == 1))
 else
 bif t42 == 12 then
 bif i.gA == 0 then
 some (i.gA, ([], true))
 else
 bif decide (n > 0) then
 some (i.gA, ([], top == f.gResult))
 else
 some (i.gA, ([], false))
 else
 bif t42 == 13 then
 R.l7Gives.l2136997887 top below t42 (t42 == 13)
 else
 R.l7Gives.l2136997887 top below t42 (t42 == 15) :=
 (runA_eq 75 _ _).trans (by kernel_rfl)
theorem R.l7Gives.l8547991412_eq (n : Int) (k : Int) (j : Int) (s : TShape) (g : TFn) : R.l7Gives.l8547991412 n k j s g =
 bif decide (j < k) then
 bif inB (IntKind.i64.wrap (IntKind.i64.wrap (n - k) + j)) s.gStack.length then
 bif inB j g.gParams.length then
 bif s.gStack.getD (IntKind.i64.wrap (IntKind.i64.wrap (n - k) + j)).toNat 0 != g.gParams.getD j.toNat 0 then
 some (0, ([], false))
 else
 R.l7Gives.l8547991412 n k (IntKind.i64.wrap (j + 1)) s g
 else
 none
 else
 none
 else
 bif g.gResult == 0 then
 some (k, ([], true))
 else
 some (k, ([g.gResult], true)) :=
 (runA_eq 75 _ _).trans (by kernel_rfl)
theorem R.l7Gives.l2136997887_eq (top : Int) (below : Int) (t42 : Int) (t192 : Bool) : R.l7Gives.l2136997887 top below t42 t192 =
 bif t192 then
 some (1, ([], top == 2))
 else
 bif t42 == 14 then
 bif top == 2 then
 some (2, ([], below == 2))
 else
 some (2, ([], false))
 else
 some (0, ([], true)) :=
 (runA_eq 75 _ _).trans (by kernel_rfl)
noncomputable def R.l7Goes.l53 (at_0 : Int) (t6 : Int) (t7 : Bool) (i : TIns) : Option (List Int) := Y.runA 73 (fun ct c => at_ ct [true, false, true, false, true] c) ⟨[(1, .i IntKind.i64 at_0), (2, .ad (.loc 2) 0), (6, .i IntKind.i64 t6), (7, .b t7)], [(2, cells 98 i)], [], [], []⟩
theorem R.l7Goes_eq (i : TIns) (at_0 : Int) : R.l7Goes i at_0 =
 bif i.gOp == 12 then
 R.l7Goes.l53 at_0 i.gOp (i.gOp == 12) i
 else
 R.l7Goes.l53 at_0 i.gOp (i.gOp == 13) i :=
 (fnA_eq 73 _ rfl).trans (by kernel_rfl)
theorem R.l7Goes.l53_eq (at_0 : Int) (t6 : Int) (t7 : Bool) (i : TIns) : R.l7Goes.l53 at_0 t6 t7 i =
 bif t7 then
 some ([])
 else
 bif t6 == 10 then
 some ([i.gA])
 else
 bif t6 == 11 then
 some ([i.gA, IntKind.i64.wrap (at_0 + 1)])
 else
 some ([IntKind.i64.wrap (at_0 + 1)]) :=
 (runA_eq 73 _ _).trans (by kernel_rfl)
noncomputable def R.l7Behind.l4084 (takes : Int) (puts : List Int) (goes : List Int) (k : Int) (f : TFn) (s : TShape) (t8 : TShape) (i : TIns) (bad : TShape) : Option TShape := Y.runA 57 (fun ct c => at_ ct [true, true, true, true, true, true, true, false, true, false, false] c) ⟨[(5, .ad (.loc 5) 0), (7, .ad (.loc 7) 0), (8, .ad (.loc 8) 0), (9, .ad (.loc 9) 0), (10, .ad (.loc 10) 0), (11, .i IntKind.i64 takes), (12, .fl 3 puts), (14, .fl 3 goes), (15, .i IntKind.i64 k)], [(5, cells 89 f), (7, cells 96 s), (8, cells 96 t8), (9, cells 98 i), (10, cells 96 bad)], [], [], []⟩
theorem R.l7Behind_eq (c : TCode) (f : TFn) (at_0 : Int) (s : TShape) : R.l7Behind c f at_0 s =
 bif inB at_0 f.gIns.length then
 bif s.gState != 1 then
 some (⟨2, [], []⟩ : TShape)
 else
 (R.l7Gives c f (f.gIns.getD at_0.toNat TIns.z) s).bind fun r0 =>
 bif !r0.snd.snd then
 some (⟨2, [], []⟩ : TShape)
 else
 bif decide (r0.fst > (s.gStack.length : Int)) then
 some (⟨2, [], []⟩ : TShape)
 else
 (R.l7Goes (f.gIns.getD at_0.toNat TIns.z) at_0).bind fun r1 =>
 R.l7Behind.l4084 r0.fst r0.snd.fst r1 0 f s (⟨0, [], []⟩ : TShape) (f.gIns.getD at_0.toNat TIns.z) (⟨2, [], []⟩ : TShape)
 else
 none :=
 (fnA_eq 57 _ rfl).trans (by kernel_rfl)
theorem R.l7Behind.l4084_eq (takes : Int) (puts : List Int) (goes : List Int) (k : Int) (f : TFn) (s : TShape) (t8 : TShape) (i : TIns) (bad : TShape) : R.l7Behind.l4084 takes puts goes k f s t8 i bad =
 bif decide (k < ((List.length goes) : Int)) then
 bif inB k (List.length goes) then
 bif decide (List.getD goes k.toNat 0 ≥ (f.gIns.length : Int)) then
 some (⟨bad.gState, bad.gSlots, bad.gStack⟩ : TShape)
 else
 R.l7Behind.l4084 takes puts goes (IntKind.i64.wrap (k + 1)) f s t8 i bad
 else
 none
 else
 bif room (0 + s.gSlots.length) 8 then
 bif inS 0 (IntKind.i64.wrap ((s.gStack.length : Int) - takes)) s.gStack.length then
 bif room (0 + (sub s.gStack 0 (IntKind.i64.wrap ((s.gStack.length : Int) - takes))).length) 8 then
 bif room ((sub s.gStack 0 (IntKind.i64.wrap ((s.gStack.length : Int) - takes))).length + List.length puts) 8 then
 bif decide (((sub s.gStack 0 (IntKind.i64.wrap ((s.gStack.length : Int) - takes)) ++ puts).length : Int) > 600) then
 some (⟨bad.gState, bad.gSlots, bad.gStack⟩ : TShape)
 else
 bif i.gOp == 3 then
 bif inB (IntKind.i64.wrap ((s.gStack.length : Int) - 1)) s.gStack.length then
 bif inB i.gA s.gSlots.length then
 some (⟨1, s.gSlots.set i.gA.toNat (s.gStack.getD (IntKind.i64.wrap ((s.gStack.length : Int) - 1)).toNat 0), sub s.gStack 0 (IntKind.i64.wrap ((s.gStack.length : Int) - takes)) ++ puts⟩ : TShape)
 else
 none
 else
 none
 else
 some (⟨1, s.gSlots, sub s.gStack 0 (IntKind.i64.wrap ((s.gStack.length : Int) - takes)) ++ puts⟩ : TShape)
 else
 none
 else
 none
 else
 none
 else
 none :=
 (runA_eq 57 _ _).trans (by kernel_rfl)
noncomputable def R.l7SameInts.l116 (a : List Int) (b : List Int) (i : Int) : Option Bool := Y.runA 98 (fun ct c => at_ ct [true, true, false, true, false, false] c) ⟨[(0, .fl 3 a), (1, .fl 3 b), (5, .i IntKind.i64 i)], [], [], [], []⟩
theorem R.l7SameInts_eq (a : List Int) (b : List Int) : R.l7SameInts a b =
 bif (a.length : Int) != (b.length : Int) then
 some false
 else
 R.l7SameInts.l116 a b 0 :=
 (fnA_eq 98 _ rfl).trans (by kernel_rfl)
theorem R.l7SameInts.l116_eq (a : List Int) (b : List Int) (i : Int) : R.l7SameInts.l116 a b i =
 bif decide (i < (a.length : Int)) then
 bif inB i a.length then
 bif inB i b.length then
 bif a.getD i.toNat 0 != b.getD i.toNat 0 then
 some false
 else
 R.l7SameInts.l116 a b (IntKind.i64.wrap (i + 1))
 else
 none
 else
 none
 else
 some true :=
 (runA_eq 98 _ _).trans (by kernel_rfl)
noncomputable def R.l7Join.l2036 (changed : Bool) (i : Int) (a : TShape) (b : TShape) (t4 : TShape) (out : Int) (out_1 : List Int) (out_2 : List Int) : Option ((TShape × Bool)) := Y.runA 74 (fun ct c => at_ ct [true, true, true, true, true, true, false, true, false, false] c) ⟨[(2, .ad (.loc 2) 0), (3, .ad (.loc 3) 0), (4, .ad (.loc 4) 0), (6, .ad (.loc 6) 0), (7, .b changed), (8, .i IntKind.i64 i)], [(2, cells 96 a), (3, cells 96 b), (4, cells 96 t4), (6, [.i IntKind.i64 out, .ol 3 out_1, .fl 3 out_2])], [], [], []⟩
theorem R.l7Join_eq (a : TShape) (b : TShape) : R.l7Join a b =
 bif b.gState == 0 then
 some ((⟨a.gState, a.gSlots, a.gStack⟩ : TShape), false)
 else
 bif a.gState == 2 then
 some ((⟨a.gState, a.gSlots, a.gStack⟩ : TShape), false)
 else
 bif a.gState == 0 then
 some ((⟨b.gState, b.gSlots, b.gStack⟩ : TShape), true)
 else
 bif b.gState == 2 then
 some ((⟨b.gState, b.gSlots, b.gStack⟩ : TShape), true)
 else
 (R.l7SameInts a.gStack b.gStack).bind fun r0 =>
 bif !r0 then
 some ((⟨2, [], []⟩ : TShape), true)
 else
 R.l7Join.l2036 false 0 a b (⟨0, [], []⟩ : TShape) 1 ([]) a.gStack :=
 (fnA_eq 74 _ rfl).trans (by kernel_rfl)
theorem R.l7Join.l2036_eq (changed : Bool) (i : Int) (a : TShape) (b : TShape) (t4 : TShape) (out : Int) (out_1 : List Int) (out_2 : List Int) : R.l7Join.l2036 changed i a b t4 out out_1 out_2 =
 bif decide (i < (a.gSlots.length : Int)) then
 bif inB i a.gSlots.length then
 bif inB i b.gSlots.length then
 bif a.gSlots.getD i.toNat 0 != b.gSlots.getD i.toNat 0 then
 bif a.gSlots.getD i.toNat 0 != 0 then
 bif room (out_1.length + [0].length) 8 then
 R.l7Join.l2036 true (IntKind.i64.wrap (i + 1)) a b t4 out (out_1 ++ [0]) out_2
 else
 none
 else
 bif room (out_1.length + [a.gSlots.getD i.toNat 0].length) 8 then
 R.l7Join.l2036 changed (IntKind.i64.wrap (i + 1)) a b t4 out (out_1 ++ [a.gSlots.getD i.toNat 0]) out_2
 else
 none
 else
 bif room (out_1.length + [a.gSlots.getD i.toNat 0].length) 8 then
 R.l7Join.l2036 changed (IntKind.i64.wrap (i + 1)) a b t4 out (out_1 ++ [a.gSlots.getD i.toNat 0]) out_2
 else
 none
 else
 none
 else
 none
 else
 some ((⟨out, out_1, out_2⟩ : TShape), changed) :=
 (runA_eq 74 _ _).trans (by kernel_rfl)
noncomputable def R.l7Shapes.l248 (out : List TShape) (c : TCode) (f : TFn) (first : Int) (first_1 : List Int) (first_2 : List Int) : Option (List TShape) := Y.runA 56 (fun ct c => at_ ct [true, true, true, true, false, false, false] c) ⟨[(2, .ad (.loc 2) 0), (5, .ad (.loc 5) 0), (6, .ol 96 out), (7, .ad (.loc 7) 0)], [(2, cells 53 c), (5, cells 89 f), (7, [.i IntKind.i64 first, .ol 3 first_1, .fl 3 first_2])], [], [], []⟩
noncomputable def R.l7Shapes.l2036 (out : List TShape) (again : Bool) (c : TCode) (f : TFn) : Option (List TShape) := Y.runA 56 (fun ct c => at_ ct [true, true, true, true, true, true, false, true, false, false] c) ⟨[(2, .ad (.loc 2) 0), (5, .ad (.loc 5) 0), (6, .ol 96 out), (8, .b again)], [(2, cells 53 c), (5, cells 89 f)], [], [], []⟩
noncomputable def R.l7Shapes.l130348 (out : List TShape) (again : Bool) (i : Int) (c : TCode) (f : TFn) : Option (List TShape) := Y.runA 56 (fun ct c => at_ ct [true, true, true, true, true, true, false, true, false, false, true, false, true, true, false, false] c) ⟨[(2, .ad (.loc 2) 0), (5, .ad (.loc 5) 0), (6, .ol 96 out), (8, .b again), (9, .i IntKind.i64 i)], [(2, cells 53 c), (5, cells 89 f)], [], [], []⟩
noncomputable def R.l7Shapes.l66738492 (out : List TShape) (again : Bool) (i : Int) (goes : List Int) (k : Int) (c : TCode) (f : TFn) (s : TShape) : Option (List TShape) := Y.runA 56 (fun ct c => at_ ct [true, true, true, true, true, true, false, true, false, false, true, false, true, true, false, false, true, false, false, true, true, true, true, false, false] c) ⟨[(2, .ad (.loc 2) 0), (5, .ad (.loc 5) 0), (6, .ol 96 out), (8, .b again), (9, .i IntKind.i64 i), (10, .ad (.loc 10) 0), (11, .fl 3 goes), (12, .i IntKind.i64 k)], [(2, cells 53 c), (5, cells 89 f), (10, cells 96 s)], [], [], []⟩
theorem R.l7Shapes_eq (c : TCode) (fn : Int) : R.l7Shapes c fn =
 bif inB fn c.gFns.length then
 bif decide (0 ≤ ((c.gFns.getD fn.toNat TFn.z).gIns.length : Int)) && ((c.gFns.getD fn.toNat TFn.z).gIns.length : Int) == ((c.gFns.getD fn.toNat TFn.z).gIns.length : Int) && room (c.gFns.getD fn.toNat TFn.z).gIns.length 56 then
 bif room (0 + (c.gFns.getD fn.toNat TFn.z).gParams.length) 8 then
 R.l7Shapes.l248 (List.replicate (c.gFns.getD fn.toNat TFn.z).gIns.length (TShape.mk 0 [] [])) c (c.gFns.getD fn.toNat TFn.z) 1 ((c.gFns.getD fn.toNat TFn.z).gParams) ([])
 else
 none
 else
 none
 else
 none :=
 (fnA_eq 56 _ rfl).trans (by kernel_rfl)
theorem R.l7Shapes.l248_eq (out : List TShape) (c : TCode) (f : TFn) (first : Int) (first_1 : List Int) (first_2 : List Int) : R.l7Shapes.l248 out c f first first_1 first_2 =
 bif decide ((first_1.length : Int) < f.gSlots) then
 bif room (first_1.length + [0].length) 8 then
 R.l7Shapes.l248 out c f first (first_1 ++ [0]) first_2
 else
 none
 else
 bif inB 0 out.length then
 R.l7Shapes.l2036 (out.set 0 (TShape.mk first first_1 first_2)) true c f
 else
 none :=
 (runA_eq 56 _ _).trans (by kernel_rfl)
theorem R.l7Shapes.l2036_eq (out : List TShape) (again : Bool) (c : TCode) (f : TFn) : R.l7Shapes.l2036 out again c f =
 bif again then
 R.l7Shapes.l130348 out false 0 c f
 else
 some out :=
 (runA_eq 56 _ _).trans (by kernel_rfl)
theorem R.l7Shapes.l130348_eq (out : List TShape) (again : Bool) (i : Int) (c : TCode) (f : TFn) : R.l7Shapes.l130348 out again i c f =
 bif decide (i < (out.length : Int)) then
 bif inB i out.length then
 bif (out.getD i.toNat TShape.z).gState == 0 then
 R.l7Shapes.l130348 out again (IntKind.i64.wrap (i + 1)) c f
 else
 bif inB i out.length then
 (R.l7Behind c f i (out.getD i.toNat TShape.z)).bind fun r0 =>
 bif inB i f.gIns.length then
 (R.l7Goes (f.gIns.getD i.toNat TIns.z) i).bind fun r1 =>
 R.l7Shapes.l66738492 out again i r1 0 c f r0
 else
 none
 else
 none
 else
 none
 else
 R.l7Shapes.l2036 out again c f :=
 (runA_eq 56 _ _).trans (by kernel_rfl)
theorem R.l7Shapes.l66738492_eq (out : List TShape) (again : Bool) (i : Int) (goes : List Int) (k : Int) (c : TCode) (f : TFn) (s : TShape) : R.l7Shapes.l66738492 out again i goes k c f s =
 bif decide (k < ((List.length goes) : Int)) then
 bif inB k (List.length goes) then
 bif decide (List.getD goes k.toNat 0 < (out.length : Int)) then
 bif inB k (List.length goes) then
 bif inB (List.getD goes k.toNat 0) out.length then
 (R.l7Join (out.getD (Int.toNat (List.getD goes k.toNat 0)) TShape.z) s).bind fun r0 =>
 bif inB k (List.length goes) then
 bif inB (List.getD goes k.toNat 0) out.length then
 bif again then
 R.l7Shapes.l66738492 (out.set (Int.toNat (List.getD goes k.toNat 0)) (TShape.mk r0.fst.gState r0.fst.gSlots r0.fst.gStack)) true i goes (IntKind.i64.wrap (k + 1)) c f s
 else
 R.l7Shapes.l66738492 (out.set (Int.toNat (List.getD goes k.toNat 0)) (TShape.mk r0.fst.gState r0.fst.gSlots r0.fst.gStack)) r0.snd i goes (IntKind.i64.wrap (k + 1)) c f s
 else
 none
 else
 none
 else
 none
 else
 none
 else
 R.l7Shapes.l66738492 out again i goes (IntKind.i64.wrap (k + 1)) c f s
 else
 none
 else
 R.l7Shapes.l130348 out again (IntKind.i64.wrap (i + 1)) c f :=
 (runA_eq 56 _ _).trans (by kernel_rfl)
noncomputable def R.CheckCode.l244 (fn : Int) (c : TCode) : Option ((Int × (Int × Int))) := Y.runA 39 (fun ct c => at_ ct [true, true, true, false, true, false, false] c) ⟨[(1, .ad (.loc 1) 0), (8, .i IntKind.i64 fn)], [(1, cells 53 c)], [], [], []⟩
noncomputable def R.CheckCode.l31308 (fn : Int) (shapes : List TShape) (at_0 : Int) (c : TCode) : Option ((Int × (Int × Int))) := Y.runA 39 (fun ct c => at_ ct [true, true, true, false, true, false, false, true, false, false, true, true, false, false] c) ⟨[(1, .ad (.loc 1) 0), (8, .i IntKind.i64 fn), (9, .fl 96 shapes), (10, .i IntKind.i64 at_0)], [(1, cells 53 c)], [], [], []⟩
theorem R.CheckCode_eq (c : TCode) : R.CheckCode c =
 (R.l7Plain c).bind fun r0 =>
 bif r0.fst != 0 then
 some (r0.fst, (r0.snd.fst, r0.snd.snd))
 else
 R.CheckCode.l244 0 c :=
 (fnA_eq 39 _ rfl).trans (by kernel_rfl)
theorem R.CheckCode.l244_eq (fn : Int) (c : TCode) : R.CheckCode.l244 fn c =
 bif decide (fn < (c.gFns.length : Int)) then
 (R.l7Shapes c fn).bind fun r0 =>
 R.CheckCode.l31308 fn r0 0 c
 else
 some (0, (0, 0)) :=
 (runA_eq 39 _ _).trans (by kernel_rfl)
theorem R.CheckCode.l31308_eq (fn : Int) (shapes : List TShape) (at_0 : Int) (c : TCode) : R.CheckCode.l31308 fn shapes at_0 c =
 bif decide (at_0 < ((List.length shapes) : Int)) then
 bif inB at_0 (List.length shapes) then
 bif (List.getD shapes at_0.toNat TShape.z).gState != 0 then
 bif inB fn c.gFns.length then
 bif inB at_0 (List.length shapes) then
 (R.l7Behind c (c.gFns.getD fn.toNat TFn.z) at_0 (List.getD shapes at_0.toNat TShape.z)).bind fun r0 =>
 bif r0.gState == 2 then
 some (5, (fn, at_0))
 else
 R.CheckCode.l31308 fn shapes (IntKind.i64.wrap (at_0 + 1)) c
 else
 none
 else
 none
 else
 R.CheckCode.l31308 fn shapes (IntKind.i64.wrap (at_0 + 1)) c
 else
 none
 else
 R.CheckCode.l244 (IntKind.i64.wrap (fn + 1)) c :=
 (runA_eq 39 _ _).trans (by kernel_rfl)
theorem R.l7Ok_eq (c : TCode) : R.l7Ok c =
 (R.CheckCode c).bind fun r0 =>
 some (r0.fst == 0) :=
 (fnA_eq 19 _ rfl).trans (by kernel_rfl)
theorem R.l9Kind_eq (op : Int) : R.l9Kind op =
 bif op == 1 then
 some 1
 else
 bif op == 2 then
 some 2
 else
 bif op == 3 then
 some 3
 else
 bif op == 4 then
 some 4
 else
 some 0 :=
 (fnA_eq 79 _ rfl).trans (by kernel_rfl)
theorem R.l9Wants_eq (m : TMachine) (k : Int) (i : TIns) : R.l9Wants m k i =
 bif inB k m.gFrames.length then
 bif k == IntKind.i64.wrap ((m.gFrames.length : Int) - 1) then
 (R.l3Wants i.gA).bind fun r0 =>
 bif i.gOp == 8 then
 bif decide (i.gA < 5) then
 (R.l9Kind i.gA).bind fun r1 =>
 some (r0.snd, r1 == m.gKind)
 else
 some (r0.snd, false)
 else
 some (r0.snd, false)
 else
 bif inB (IntKind.i64.wrap (k + 1)) m.gFrames.length then
 bif (m.gFrames.getD (IntKind.i64.wrap (k + 1)).toNat TFrame.z).gCode != (m.gFrames.getD k.toNat TFrame.z).gCode then
 bif i.gOp == 8 then
 some (2, i.gA == 4)
 else
 some (2, false)
 else
 bif i.gOp != 9 then
 some (0, false)
 else
 bif i.gA != (m.gFrames.getD (IntKind.i64.wrap (k + 1)).toNat TFrame.z).gFn then
 some (0, false)
 else
 bif inB (m.gFrames.getD k.toNat TFrame.z).gCode m.gCodes.length then
 bif inB i.gA (m.gCodes.getD (m.gFrames.getD k.toNat TFrame.z).gCode.toNat TCode.z).gFns.length then
 some (((m.gCodes.getD (m.gFrames.getD k.toNat TFrame.z).gCode.toNat TCode.z).gFns.getD i.gA.toNat TFn.z).gResult, true)
 else
 none
 else
 none
 else
 none
 else
 none :=
 (fnA_eq 59 _ rfl).trans (by kernel_rfl)
noncomputable def R.l9FrameOk.l4084 (k : Int) (shapes : List TShape) (i : Int) (m : TMachine) (f : TFrame) (fn : TFn) (s : TShape) : Option Bool := Y.runA 41 (fun ct c => at_ ct [true, true, true, true, true, true, true, false, true, false, false] c) ⟨[(1, .i IntKind.i64 k), (2, .ad (.loc 2) 0), (5, .ad (.loc 5) 0), (6, .ad (.loc 6) 0), (7, .fl 96 shapes), (8, .ad (.loc 8) 0), (9, .i IntKind.i64 i)], [(2, cells 34 m), (5, cells 78 f), (6, cells 89 fn), (8, cells 96 s)], [], [], []⟩
noncomputable def R.l9FrameOk.l2047 (want : List Int) (f : TFrame) : Option Bool := Y.runA 41 (fun ct c => at_ ct [true, true, true, true, true, true, true, true, true, true] c) ⟨[(5, .ad (.loc 5) 0), (10, .fl 3 want)], [(5, cells 78 f)], [], [], []⟩
noncomputable def R.l9FrameOk.l65524 (want : List Int) (i : Int) (f : TFrame) : Option Bool := Y.runA 41 (fun ct c => at_ ct [true, true, true, true, true, true, true, true, true, true, true, false, true, false, false] c) ⟨[(5, .ad (.loc 5) 0), (10, .fl 3 want), (13, .i IntKind.i64 i)], [(5, cells 78 f)], [], [], []⟩
theorem R.l9FrameOk_eq (m : TMachine) (k : Int) : R.l9FrameOk m k =
 bif inB k m.gFrames.length then
 bif inB (m.gFrames.getD k.toNat TFrame.z).gCode m.gCodes.length then
 bif inB (m.gFrames.getD k.toNat TFrame.z).gFn (m.gCodes.getD (m.gFrames.getD k.toNat TFrame.z).gCode.toNat TCode.z).gFns.length then
 (R.l7In ((m.gFrames.getD k.toNat TFrame.z).gAt) 0 (IntKind.i64.wrap ((((m.gCodes.getD (m.gFrames.getD k.toNat TFrame.z).gCode.toNat TCode.z).gFns.getD (m.gFrames.getD k.toNat TFrame.z).gFn.toNat TFn.z).gIns.length : Int) - 1))).bind fun r0 =>
 bif !r0 then
 some false
 else
 bif ((m.gFrames.getD k.toNat TFrame.z).gSlots.length : Int) != ((m.gCodes.getD (m.gFrames.getD k.toNat TFrame.z).gCode.toNat TCode.z).gFns.getD (m.gFrames.getD k.toNat TFrame.z).gFn.toNat TFn.z).gSlots then
 some false
 else
 bif inB (m.gFrames.getD k.toNat TFrame.z).gCode m.gCodes.length then
 (R.l7Shapes (m.gCodes.getD (m.gFrames.getD k.toNat TFrame.z).gCode.toNat TCode.z) ((m.gFrames.getD k.toNat TFrame.z).gFn)).bind fun r1 =>
 bif inB (m.gFrames.getD k.toNat TFrame.z).gAt (List.length r1) then
 bif (List.getD r1 (m.gFrames.getD k.toNat TFrame.z).gAt.toNat TShape.z).gState != 1 then
 some false
 else
 R.l9FrameOk.l4084 k r1 0 m (m.gFrames.getD k.toNat TFrame.z) ((m.gCodes.getD (m.gFrames.getD k.toNat TFrame.z).gCode.toNat TCode.z).gFns.getD (m.gFrames.getD k.toNat TFrame.z).gFn.toNat TFn.z) (List.getD r1 (m.gFrames.getD k.toNat TFrame.z).gAt.toNat TShape.z)
 else
 none
 else
 none
 else
 none
 else
 none
 else
 none :=
 (fnA_eq 41 _ rfl).trans (by kernel_rfl)
theorem R.l9FrameOk.l4084_eq (k : Int) (shapes : List TShape) (i : Int) (m : TMachine) (f : TFrame) (fn : TFn) (s : TShape) : R.l9FrameOk.l4084 k shapes i m f fn s =
 bif decide (i < (f.gSlots.length : Int)) then
 bif inB i s.gSlots.length then
 bif s.gSlots.getD i.toNat 0 != 0 then
 bif inB i f.gSlots.length then
 bif inB i s.gSlots.length then
 bif (f.gSlots.getD i.toNat TValue.z).gType != s.gSlots.getD i.toNat 0 then
 some false
 else
 bif inB i f.gSlots.length then
 bif !((f.gSlots.getD i.toNat TValue.z).gType == 0 && ((f.gSlots.getD i.toNat TValue.z).gN == 0 && ((f.gSlots.getD i.toNat TValue.z).gText.toList == ((⟨#[]⟩ : ByteArray)).toList && true))) then
 bif inB i f.gSlots.length then
 (R.ValidValue (f.gSlots.getD i.toNat TValue.z)).bind fun r0 =>
 bif !r0 then
 some false
 else
 R.l9FrameOk.l4084 k shapes (IntKind.i64.wrap (i + 1)) m f fn s
 else
 none
 else
 R.l9FrameOk.l4084 k shapes (IntKind.i64.wrap (i + 1)) m f fn s
 else
 none
 else
 none
 else
 none
 else
 bif inB i f.gSlots.length then
 bif !((f.gSlots.getD i.toNat TValue.z).gType == 0 && ((f.gSlots.getD i.toNat TValue.z).gN == 0 && ((f.gSlots.getD i.toNat TValue.z).gText.toList == ((⟨#[]⟩ : ByteArray)).toList && true))) then
 bif inB i f.gSlots.length then
 (R.ValidValue (f.gSlots.getD i.toNat TValue.z)).bind fun r0 =>
 bif !r0 then
 some false
 else
 R.l9FrameOk.l4084 k shapes (IntKind.i64.wrap (i + 1)) m f fn s
 else
 none
 else
 R.l9FrameOk.l4084 k shapes (IntKind.i64.wrap (i + 1)) m f fn s
 else
 none
 else
 none
 else
 bif decide (k < IntKind.i64.wrap ((m.gFrames.length : Int) - 1)) then
 bif decide (f.gAt < 1) then
 some false
 else
 bif inB (IntKind.i64.wrap (f.gAt - 1)) (List.length shapes) then
 bif (List.getD shapes (IntKind.i64.wrap (f.gAt - 1)).toNat TShape.z).gState != 1 then
 some false
 else
 bif inB (IntKind.i64.wrap (f.gAt - 1)) fn.gIns.length then
 (R.l9Wants m k (fn.gIns.getD (IntKind.i64.wrap (f.gAt - 1)).toNat TIns.z)).bind fun r0 =>
 bif !r0.snd then
 some false
 else
 bif r0.fst != 0 then
 bif (s.gStack.length : Int) == 0 then
 some false
 else
 bif inB (IntKind.i64.wrap ((s.gStack.length : Int) - 1)) s.gStack.length then
 bif s.gStack.getD (IntKind.i64.wrap ((s.gStack.length : Int) - 1)).toNat 0 != r0.fst then
 some false
 else
 bif inS 0 (IntKind.i64.wrap ((s.gStack.length : Int) - 1)) s.gStack.length then
 R.l9FrameOk.l2047 (sub s.gStack 0 (IntKind.i64.wrap ((s.gStack.length : Int) - 1))) f
 else
 none
 else
 none
 else
 R.l9FrameOk.l2047 s.gStack f
 else
 none
 else
 none
 else
 bif m.gKind != 0 then
 bif decide (f.gAt < 1) then
 some false
 else
 bif inB (IntKind.i64.wrap (f.gAt - 1)) (List.length shapes) then
 bif (List.getD shapes (IntKind.i64.wrap (f.gAt - 1)).toNat TShape.z).gState != 1 then
 some false
 else
 bif inB (IntKind.i64.wrap (f.gAt - 1)) fn.gIns.length then
 (R.l9Wants m k (fn.gIns.getD (IntKind.i64.wrap (f.gAt - 1)).toNat TIns.z)).bind fun r0 =>
 bif !r0.snd then
 some false
 else
 bif r0.fst != 0 then
 bif (s.gStack.length : Int) == 0 then
 some false
 else
 bif inB (IntKind.i64.wrap ((s.gStack.length : Int) - 1)) s.gStack.length then
 bif s.gStack.getD (IntKind.i64.wrap ((s.gStack.length : Int) - 1)).toNat 0 != r0.fst then
 some false
 else
 bif inS 0 (IntKind.i64.wrap ((s.gStack.length : Int) - 1)) s.gStack.length then
 R.l9FrameOk.l2047 (sub s.gStack 0 (IntKind.i64.wrap ((s.gStack.length : Int) - 1))) f
 else
 none
 else
 none
 else
 R.l9FrameOk.l2047 s.gStack f
 else
 none
 else
 none
 else
 R.l9FrameOk.l2047 s.gStack f :=
 (runA_eq 41 _ _).trans (by kernel_rfl)
theorem R.l9FrameOk.l2047_eq (want : List Int) (f : TFrame) : R.l9FrameOk.l2047 want f =
 bif (f.gStack.length : Int) != (want.length : Int) then
 some false
 else
 R.l9FrameOk.l65524 want 0 f :=
 (runA_eq 41 _ _).trans (by kernel_rfl)
theorem R.l9FrameOk.l65524_eq (want : List Int) (i : Int) (f : TFrame) : R.l9FrameOk.l65524 want i f =
 bif decide (i < (want.length : Int)) then
 bif inB i f.gStack.length then
 bif inB i want.length then
 bif (f.gStack.getD i.toNat TValue.z).gType != want.getD i.toNat 0 then
 some false
 else
 bif inB i f.gStack.length then
 (R.ValidValue (f.gStack.getD i.toNat TValue.z)).bind fun r0 =>
 bif !r0 then
 some false
 else
 R.l9FrameOk.l65524 want (IntKind.i64.wrap (i + 1)) f
 else
 none
 else
 none
 else
 none
 else
 some true :=
 (runA_eq 41 _ _).trans (by kernel_rfl)
noncomputable def R.l9FramesOk.l244 (n : Int) (k : Int) (m : TMachine) : Option Bool := Y.runA 20 (fun ct c => at_ ct [true, true, true, false, true, false, false] c) ⟨[(1, .ad (.loc 1) 0), (3, .i IntKind.i64 n), (4, .i IntKind.i64 k)], [(1, cells 34 m)], [], [], []⟩
noncomputable def R.l9FramesOk.l15655 (n : Int) (k : Int) (was : Int) (m : TMachine) (f : TFrame) : Option Bool := Y.runA 20 (fun ct c => at_ ct [true, true, true, false, true, false, false, true, false, false, true, true, true] c) ⟨[(1, .ad (.loc 1) 0), (3, .i IntKind.i64 n), (4, .i IntKind.i64 k), (5, .ad (.loc 5) 0), (6, .i IntKind.i64 was)], [(1, cells 34 m), (5, cells 78 f)], [], [], []⟩
noncomputable def R.l9FramesOk.l500 (n : Int) (k : Int) (m : TMachine) : Option Bool := Y.runA 20 (fun ct c => at_ ct [true, true, true, true, false, true, false, false] c) ⟨[(1, .ad (.loc 1) 0), (3, .i IntKind.i64 n), (7, .i IntKind.i64 k)], [(1, cells 34 m)], [], [], []⟩
theorem R.l9FramesOk_eq (m : TMachine) : R.l9FramesOk m =
 (R.l7In (m.gFrames.length : Int) 1 40).bind fun r0 =>
 bif !r0 then
 some false
 else
 bif inB (IntKind.i64.wrap ((m.gFrames.length : Int) - 1)) m.gFrames.length then
 bif (m.gFrames.getD (IntKind.i64.wrap ((m.gFrames.length : Int) - 1)).toNat TFrame.z).gCode != IntKind.i64.wrap ((m.gCodes.length : Int) - 1) then
 some false
 else
 R.l9FramesOk.l244 (m.gFrames.length : Int) 0 m
 else
 none :=
 (fnA_eq 20 _ rfl).trans (by kernel_rfl)
theorem R.l9FramesOk.l244_eq (n : Int) (k : Int) (m : TMachine) : R.l9FramesOk.l244 n k m =
 bif decide (k < n) then
 bif inB k m.gFrames.length then
 bif decide (k > 0) then
 bif inB (IntKind.i64.wrap (k - 1)) m.gFrames.length then
 R.l9FramesOk.l15655 n k ((m.gFrames.getD (IntKind.i64.wrap (k - 1)).toNat TFrame.z).gCode) m (m.gFrames.getD k.toNat TFrame.z)
 else
 none
 else
 R.l9FramesOk.l15655 n k (-1) m (m.gFrames.getD k.toNat TFrame.z)
 else
 none
 else
 R.l9FramesOk.l500 n 0 m :=
 (runA_eq 20 _ _).trans (by kernel_rfl)
theorem R.l9FramesOk.l15655_eq (n : Int) (k : Int) (was : Int) (m : TMachine) (f : TFrame) : R.l9FramesOk.l15655 n k was m f =
 bif f.gCode != was then
 bif f.gCode != IntKind.i64.wrap (was + 1) then
 some false
 else
 (R.l7In f.gCode 0 (IntKind.i64.wrap ((m.gCodes.length : Int) - 1))).bind fun r0 =>
 bif !r0 then
 some false
 else
 bif inB f.gCode m.gCodes.length then
 (R.l7In f.gFn 0 (IntKind.i64.wrap (((m.gCodes.getD f.gCode.toNat TCode.z).gFns.length : Int) - 1))).bind fun r1 =>
 bif !r1 then
 some false
 else
 bif f.gCode != was then
 bif inB f.gCode m.gCodes.length then
 (R.l7Main (m.gCodes.getD f.gCode.toNat TCode.z)).bind fun r2 =>
 bif f.gFn != r2 then
 some false
 else
 R.l9FramesOk.l244 n (IntKind.i64.wrap (k + 1)) m
 else
 none
 else
 R.l9FramesOk.l244 n (IntKind.i64.wrap (k + 1)) m
 else
 none
 else
 (R.l7In f.gCode 0 (IntKind.i64.wrap ((m.gCodes.length : Int) - 1))).bind fun r0 =>
 bif !r0 then
 some false
 else
 bif inB f.gCode m.gCodes.length then
 (R.l7In f.gFn 0 (IntKind.i64.wrap (((m.gCodes.getD f.gCode.toNat TCode.z).gFns.length : Int) - 1))).bind fun r1 =>
 bif !r1 then
 some false
 else
 bif f.gCode != was then
 bif inB f.gCode m.gCodes.length then
 (R.l7Main (m.gCodes.getD f.gCode.toNat TCode.z)).bind fun r2 =>
 bif f.gFn != r2 then
 some false
 else
 R.l9FramesOk.l244 n (IntKind.i64.wrap (k + 1)) m
 else
 none
 else
 R.l9FramesOk.l244 n (IntKind.i64.wrap (k + 1)) m
 else
 none :=
 (runA_eq 20 _ _).trans (by kernel_rfl)
theorem R.l9FramesOk.l500_eq (n : Int) (k : Int) (m : TMachine) : R.l9FramesOk.l500 n k m =
 bif decide (k < n) then
 (R.l9FrameOk m k).bind fun r0 =>
 bif !r0 then
 some false
 else
 R.l9FramesOk.l500 n (IntKind.i64.wrap (k + 1)) m
 else
 some true :=
 (runA_eq 20 _ _).trans (by kernel_rfl)
noncomputable def R.ValidMachine.l500 (i : Int) (m : TMachine) : Option Bool := Y.runA 5 (fun ct c => at_ ct [true, true, true, true, false, true, false, false] c) ⟨[(1, .ad (.loc 1) 0), (3, .i IntKind.i64 i)], [(1, cells 34 m)], [], [], []⟩
noncomputable def R.ValidMachine.l128148 (i : Int) (there : Bool) (k : Int) (m : TMachine) : Option Bool := Y.runA 5 (fun ct c => at_ ct [true, true, true, true, false, true, false, false, true, false, false, true, false, true, false, false] c) ⟨[(1, .ad (.loc 1) 0), (3, .i IntKind.i64 i), (4, .b there), (5, .i IntKind.i64 k)], [(1, cells 34 m)], [], [], []⟩
noncomputable def R.ValidMachine.l1012 (i : Int) (m : TMachine) : Option Bool := Y.runA 5 (fun ct c => at_ ct [true, true, true, true, true, false, true, false, false] c) ⟨[(1, .ad (.loc 1) 0), (6, .i IntKind.i64 i)], [(1, cells 34 m)], [], [], []⟩
theorem R.ValidMachine_eq (m : TMachine) : R.ValidMachine m =
 (R.l9FilesOk m.gFiles 20).bind fun r0 =>
 bif !r0 then
 some false
 else
 (R.l9TextsOk m.gSaid 50).bind fun r1 =>
 bif !r1 then
 some false
 else
 (R.l7In m.gSteps 0 4000).bind fun r2 =>
 bif !r2 then
 some false
 else
 bif m.gOver then
 (R.l9OverOk m).bind fun r3 =>
 some r3
 else
 (R.l7In (m.gCodes.length : Int) 1 40).bind fun r3 =>
 bif !r3 then
 some false
 else
 bif (m.gArgs.length : Int) != (m.gCodes.length : Int) then
 some false
 else
 (R.l9TextsOk m.gArgs 40).bind fun r4 =>
 bif !r4 then
 some false
 else
 (R.ValidJob (TJob.mk ((⟨#[]⟩ : ByteArray)) m.gOuts)).bind fun r5 =>
 bif !r5 then
 some false
 else
 (R.l7In m.gLooks 0 100).bind fun r6 =>
 bif !r6 then
 some false
 else
 bif m.gEnd != 0 then
 some false
 else
 bif !bEq m.gText ((⟨#[]⟩ : ByteArray)) then
 some false
 else
 (R.l9WaitOk m).bind fun r7 =>
 bif !r7 then
 some false
 else
 R.ValidMachine.l500 0 m :=
 (fnA_eq 5 _ rfl).trans (by kernel_rfl)
theorem R.ValidMachine.l500_eq (i : Int) (m : TMachine) : R.ValidMachine.l500 i m =
 bif decide (i < (m.gFiles.length : Int)) then
 R.ValidMachine.l128148 i false 0 m
 else
 R.ValidMachine.l1012 0 m :=
 (runA_eq 5 _ _).trans (by kernel_rfl)
theorem R.ValidMachine.l128148_eq (i : Int) (there : Bool) (k : Int) (m : TMachine) : R.ValidMachine.l128148 i there k m =
 bif decide (k < (m.gOuts.length : Int)) then
 bif there then
 R.ValidMachine.l128148 i true (IntKind.i64.wrap (k + 1)) m
 else
 bif inB k m.gOuts.length then
 bif inB i m.gFiles.length then
 R.ValidMachine.l128148 i (bEq (m.gOuts.getD k.toNat (⟨#[]⟩ : ByteArray)) (m.gFiles.getD i.toNat TFile.z).gName) (IntKind.i64.wrap (k + 1)) m
 else
 none
 else
 none
 else
 bif !there then
 some false
 else
 R.ValidMachine.l500 (IntKind.i64.wrap (i + 1)) m :=
 (runA_eq 5 _ _).trans (by kernel_rfl)
theorem R.ValidMachine.l1012_eq (i : Int) (m : TMachine) : R.ValidMachine.l1012 i m =
 bif decide (i < (m.gCodes.length : Int)) then
 bif inB i m.gCodes.length then
 (R.l7Ok (m.gCodes.getD i.toNat TCode.z)).bind fun r0 =>
 bif !r0 then
 some false
 else
 R.ValidMachine.l1012 (IntKind.i64.wrap (i + 1)) m
 else
 none
 else
 (R.l9FramesOk m).bind fun r0 =>
 some r0 :=
 (runA_eq 5 _ _).trans (by kernel_rfl)
noncomputable def I.pathText.l116 (s : ByteArray) (i : Int) : Option Bool := Y.runA 49 (fun ct c => at_ ct [true, true, false, true, false, false] c) ⟨[(0, .s s), (3, .i IntKind.i64 i)], [], [], [], []⟩
theorem I.pathText_eq (s : ByteArray) : I.pathText s =
 bif decide ((s.size : Int) > 60) then
 some false
 else
 I.pathText.l116 s 0 :=
 (fnA_eq 49 _ rfl).trans (by kernel_rfl)
theorem I.pathText.l116_eq (s : ByteArray) (i : Int) : I.pathText.l116 s i =
 bif decide (i < (s.size : Int)) then
 bif inB i s.size then
 bif decide (bt s i < 33) then
 some false
 else
 bif inB i s.size then
 bif decide (bt s i > 126) then
 some false
 else
 I.pathText.l116 s (IntKind.i64.wrap (i + 1))
 else
 none
 else
 none
 else
 some true :=
 (runA_eq 49 _ _).trans (by kernel_rfl)
theorem I.fileName_eq (s : ByteArray) : I.fileName s =
 bif !bEq s ((⟨#[]⟩ : ByteArray)) then
 (I.pathText s).bind fun r0 =>
 some r0
 else
 some false :=
 (fnA_eq 45 _ rfl).trans (by kernel_rfl)
noncomputable def I.filesOk.l116 (files : List TFile) (t11 : List TFile) (t12 : Int) (t13 : Int) : Option Bool := Y.runA 25 (fun ct c => at_ ct [true, true, false, true, false, false] c) ⟨[(0, .fl 49 files), (11, .fl 49 t11), (12, .i IntKind.i64 t12), (13, .i IntKind.i64 t13)], [], [], [], []⟩
theorem I.filesOk_eq (files : List TFile) (most : Int) : I.filesOk files most =
 bif decide ((files.length : Int) > most) then
 some false
 else
 I.filesOk.l116 files files (files.length : Int) 0 :=
 (fnA_eq 25 _ rfl).trans (by kernel_rfl)
theorem I.filesOk.l116_eq (files : List TFile) (t11 : List TFile) (t12 : Int) (t13 : Int) : I.filesOk.l116 files t11 t12 t13 =
 bif decide (t13 < t12) then
 bif inB t13 t11.length then
 (I.fileName ((t11.getD t13.toNat TFile.z).gName)).bind fun r0 =>
 bif !r0 then
 some false
 else
 bif decide (((t11.getD t13.toNat TFile.z).gText.size : Int) > 3000) then
 some false
 else
 bif decide (t13 > 0) then
 bif inB (IntKind.i64.wrap (t13 - 1)) files.length then
 bif !bLt (files.getD (IntKind.i64.wrap (t13 - 1)).toNat TFile.z).gName (t11.getD t13.toNat TFile.z).gName then
 some false
 else
 I.filesOk.l116 files t11 t12 (IntKind.i64.wrap (t13 + 1))
 else
 none
 else
 I.filesOk.l116 files t11 t12 (IntKind.i64.wrap (t13 + 1))
 else
 none
 else
 some true :=
 (runA_eq 25 _ _).trans (by kernel_rfl)
noncomputable def I.ValidJob.l116 (t16 : List ByteArray) (t17 : Int) (t18 : Int) (j : TJob) : Option Bool := Y.runA 26 (fun ct c => at_ ct [true, true, false, true, false, false] c) ⟨[(1, .ad (.loc 1) 0), (16, .fl 9 t16), (17, .i IntKind.i64 t17), (18, .i IntKind.i64 t18)], [(1, cells 47 j)], [], [], []⟩
theorem I.ValidJob_eq (j : TJob) : I.ValidJob j =
 bif decide ((j.gArg.size : Int) > 3000) then
 some false
 else
 bif decide ((j.gOuts.length : Int) > 20) then
 some false
 else
 I.ValidJob.l116 j.gOuts (j.gOuts.length : Int) 0 j :=
 (fnA_eq 26 _ rfl).trans (by kernel_rfl)
theorem I.ValidJob.l116_eq (t16 : List ByteArray) (t17 : Int) (t18 : Int) (j : TJob) : I.ValidJob.l116 t16 t17 t18 j =
 bif decide (t18 < t17) then
 bif inB t18 t16.length then
 (I.fileName (t16.getD t18.toNat (⟨#[]⟩ : ByteArray))).bind fun r0 =>
 bif !r0 then
 some false
 else
 bif decide (t18 > 0) then
 bif inB (IntKind.i64.wrap (t18 - 1)) j.gOuts.length then
 bif !bLt (j.gOuts.getD (IntKind.i64.wrap (t18 - 1)).toNat (⟨#[]⟩ : ByteArray)) (t16.getD t18.toNat (⟨#[]⟩ : ByteArray)) then
 some false
 else
 I.ValidJob.l116 t16 t17 (IntKind.i64.wrap (t18 + 1)) j
 else
 none
 else
 I.ValidJob.l116 t16 t17 (IntKind.i64.wrap (t18 + 1)) j
 else
 none
 else
 some true :=
 (runA_eq 26 _ _).trans (by kernel_rfl)
theorem I.lower_eq (b : Int) : I.lower b =
 bif decide (b ≥ 97) then
 some (decide (b ≤ 122))
 else
 some false :=
 (fnA_eq 118 _ rfl).trans (by kernel_rfl)
noncomputable def I.typeOfWord.l52 (s : ByteArray) (t5 : List ByteArray) (t6 : Int) (t7 : Int) : Option Int := Y.runA 126 (fun ct c => at_ ct [true, false, true, false, false] c) ⟨[(0, .s s), (5, .fl 9 t5), (6, .i IntKind.i64 t6), (7, .i IntKind.i64 t7)], [], [], [], []⟩
theorem I.typeOfWord_eq (s : ByteArray) : I.typeOfWord s =
 I.typeOfWord.l52 s (WL0) (WL0.length : Int) 0 :=
 (fnA_eq 126 _ rfl).trans (by kernel_rfl)
theorem I.typeOfWord.l52_eq (s : ByteArray) (t5 : List ByteArray) (t6 : Int) (t7 : Int) : I.typeOfWord.l52 s t5 t6 t7 =
 bif decide (t7 < t6) then
 bif inB t7 t5.length then
 bif decide (t7 > 0) then
 bif bEq (t5.getD t7.toNat (⟨#[]⟩ : ByteArray)) s then
 some t7
 else
 I.typeOfWord.l52 s t5 t6 (IntKind.i64.wrap (t7 + 1))
 else
 I.typeOfWord.l52 s t5 t6 (IntKind.i64.wrap (t7 + 1))
 else
 none
 else
 some 0 :=
 (runA_eq 126 _ _).trans (by kernel_rfl)
noncomputable def I.isTaken.l52 (s : ByteArray) (t5 : List ByteArray) (t6 : Int) (t7 : Int) : Option Bool := Y.runA 119 (fun ct c => at_ ct [true, false, true, false, false] c) ⟨[(0, .s s), (5, .fl 9 t5), (6, .i IntKind.i64 t6), (7, .i IntKind.i64 t7)], [], [], [], []⟩
theorem I.isTaken_eq (s : ByteArray) : I.isTaken s =
 I.isTaken.l52 s (fieldsOf (ByteArray.mk ([102, 110, 32, 108, 101, 116, 32, 105, 102, 32, 101, 108, 115, 101, 32, 119, 104, 105, 108, 101, 32, 98, 114, 101, 97, 107, 32, 99, 111, 110, 116, 105, 110, 117, 101, 32, 114, 101, 116, 117, 114, 110, 32, 102, 97, 105, 108, 32, 119, 114, 105, 116, 101, 32, 115, 97, 121, 32, 116].append [114, 117, 101, 32, 102, 97, 108, 115, 101, 32, 114, 101, 97, 100, 32, 104, 97, 115, 32, 108, 105, 115, 116, 32, 116, 111, 111, 108, 32, 97, 114, 103, 32, 108, 101, 110, 32, 97, 116, 32, 99, 117, 116, 32, 102, 105, 110, 100, 32, 99, 104, 114, 32, 100, 101, 99, 32, 110, 117, 109]).toArray)) ((fieldsOf (ByteArray.mk ([102, 110, 32, 108, 101, 116, 32, 105, 102, 32, 101, 108, 115, 101, 32, 119, 104, 105, 108, 101, 32, 98, 114, 101, 97, 107, 32, 99, 111, 110, 116, 105, 110, 117, 101, 32, 114, 101, 116, 117, 114, 110, 32, 102, 97, 105, 108, 32, 119, 114, 105, 116, 101, 32, 115, 97, 121, 32, 116].append [114, 117, 101, 32, 102, 97, 108, 115, 101, 32, 114, 101, 97, 100, 32, 104, 97, 115, 32, 108, 105, 115, 116, 32, 116, 111, 111, 108, 32, 97, 114, 103, 32, 108, 101, 110, 32, 97, 116, 32, 99, 117, 116, 32, 102, 105, 110, 100, 32, 99, 104, 114, 32, 100, 101, 99, 32, 110, 117, 109]).toArray)).length : Int) 0 :=
 (fnA_eq 119 _ rfl).trans (by kernel_rfl)
theorem I.isTaken.l52_eq (s : ByteArray) (t5 : List ByteArray) (t6 : Int) (t7 : Int) : I.isTaken.l52 s t5 t6 t7 =
 bif decide (t7 < t6) then
 bif inB t7 t5.length then
 bif bEq (t5.getD t7.toNat (⟨#[]⟩ : ByteArray)) s then
 some true
 else
 I.isTaken.l52 s t5 t6 (IntKind.i64.wrap (t7 + 1))
 else
 none
 else
 (I.typeOfWord s).bind fun r0 =>
 some (decide (r0 > 0)) :=
 (runA_eq 119 _ _).trans (by kernel_rfl)
theorem I.digit_eq (b : Int) : I.digit b =
 bif decide (b ≥ 48) then
 some (decide (b ≤ 57))
 else
 some false :=
 (fnA_eq 127 _ rfl).trans (by kernel_rfl)
theorem I.wordy_eq (b : Int) : I.wordy b =
 (I.lower b).bind fun r0 =>
 bif r0 then
 some true
 else
 (I.digit b).bind fun r1 =>
 bif r1 then
 some true
 else
 some (b == 95) :=
 (fnA_eq 120 _ rfl).trans (by kernel_rfl)
noncomputable def I.nameOk.l116 (s : ByteArray) (i : Int) : Option Bool := Y.runA 107 (fun ct c => at_ ct [true, true, false, true, false, false] c) ⟨[(0, .s s), (3, .i IntKind.i64 i)], [], [], [], []⟩
theorem I.nameOk_eq (s : ByteArray) : I.nameOk s =
 bif decide ((s.size : Int) < 1) then
 some false
 else
 bif decide ((s.size : Int) > 30) then
 some false
 else
 bif inB 0 s.size then
 (I.lower (bt s 0)).bind fun r0 =>
 bif !r0 then
 some false
 else
 (I.isTaken s).bind fun r1 =>
 bif r1 then
 some false
 else
 I.nameOk.l116 s 0
 else
 none :=
 (fnA_eq 107 _ rfl).trans (by kernel_rfl)
theorem I.nameOk.l116_eq (s : ByteArray) (i : Int) : I.nameOk.l116 s i =
 bif decide (i < (s.size : Int)) then
 bif inB i s.size then
 (I.wordy (bt s i)).bind fun r0 =>
 bif !r0 then
 some false
 else
 I.nameOk.l116 s (IntKind.i64.wrap (i + 1))
 else
 none
 else
 some true :=
 (runA_eq 107 _ _).trans (by kernel_rfl)
noncomputable def I.headOk.l116 (t26 : List Int) (t27 : Int) (t28 : Int) (f : TFn) : Option Bool := Y.runA 82 (fun ct c => at_ ct [true, true, false, true, false, false] c) ⟨[(1, .ad (.loc 1) 0), (26, .fl 3 t26), (27, .i IntKind.i64 t27), (28, .i IntKind.i64 t28)], [(1, cells 89 f)], [], [], []⟩
theorem I.headOk_eq (f : TFn) : I.headOk f =
 (I.nameOk f.gName).bind fun r0 =>
 bif !r0 then
 some false
 else
 bif decide ((f.gParams.length : Int) > 8) then
 some false
 else
 bif decide (f.gResult < 0) then
 some false
 else
 bif decide (f.gResult > 10) then
 some false
 else
 I.headOk.l116 f.gParams (f.gParams.length : Int) 0 f :=
 (fnA_eq 82 _ rfl).trans (by kernel_rfl)
theorem I.headOk.l116_eq (t26 : List Int) (t27 : Int) (t28 : Int) (f : TFn) : I.headOk.l116 t26 t27 t28 f =
 bif decide (t28 < t27) then
 bif inB t28 t26.length then
 bif decide (t26.getD t28.toNat 0 < 1) then
 some false
 else
 bif decide (t26.getD t28.toNat 0 > 10) then
 some false
 else
 I.headOk.l116 t26 t27 (IntKind.i64.wrap (t28 + 1)) f
 else
 none
 else
 bif decide (f.gSlots ≥ (f.gParams.length : Int)) then
 bif decide (f.gSlots ≤ 200) then
 bif decide ((f.gIns.length : Int) ≥ 1) then
 some (decide ((f.gIns.length : Int) ≤ 50000))
 else
 some false
 else
 some false
 else
 some false :=
 (runA_eq 82 _ _).trans (by kernel_rfl)
theorem I.integer_eq (t : Int) : I.integer t =
 bif decide (t ≥ 3) then
 some (decide (t ≤ 10))
 else
 some false :=
 (fnA_eq 88 _ rfl).trans (by kernel_rfl)
noncomputable def I.bits.l53 (t3 : Int) (t4 : Bool) : Option Int := Y.runA 109 (fun ct c => at_ ct [true, false, true, false, true] c) ⟨[(3, .i IntKind.i64 t3), (4, .b t4)], [], [], [], []⟩
noncomputable def I.bits.l215 (t3 : Int) (t7 : Bool) : Option Int := Y.runA 109 (fun ct c => at_ ct [true, false, true, false, true, true, true] c) ⟨[(3, .i IntKind.i64 t3), (7, .b t7)], [], [], [], []⟩
theorem I.bits_eq (t : Int) : I.bits t =
 bif t == 3 then
 I.bits.l53 t (t == 3)
 else
 I.bits.l53 t (t == 7) :=
 (fnA_eq 109 _ rfl).trans (by kernel_rfl)
theorem I.bits.l53_eq (t3 : Int) (t4 : Bool) : I.bits.l53 t3 t4 =
 bif t4 then
 some 8
 else
 bif t3 == 4 then
 I.bits.l215 t3 (t3 == 4)
 else
 I.bits.l215 t3 (t3 == 8) :=
 (runA_eq 109 _ _).trans (by kernel_rfl)
theorem I.bits.l215_eq (t3 : Int) (t7 : Bool) : I.bits.l215 t3 t7 =
 bif t7 then
 some 16
 else
 bif t3 == 5 then
 bif t3 == 5 then
 some 32
 else
 some 64
 else
 bif t3 == 9 then
 some 32
 else
 some 64 :=
 (runA_eq 109 _ _).trans (by kernel_rfl)
theorem I.signed_eq (t : Int) : I.signed t =
 some (decide (t ≥ 7)) :=
 (fnA_eq 110 _ rfl).trans (by kernel_rfl)
theorem I.into_eq (x : Int) (t : Int) : I.into x t =
 (I.bits t).bind fun r0 =>
 bif r0 == 64 then
 some (IntKind.i64.wrap x)
 else
 bif decide (0 ≤ r0) then
 (I.signed t).bind fun r1 =>
 bif r1 then
 bif decide (0 ≤ IntKind.u64.wrap (r0 - 1)) then
 bif shrI IntKind.u64 (bitAnd IntKind.u64 x (IntKind.u64.wrap (shlI IntKind.u64 1 r0 - 1))) (IntKind.u64.wrap (r0 - 1)) == 1 then
 bif decide (0 ≤ r0) then
 some (IntKind.i64.wrap (bitOr IntKind.u64 (bitAnd IntKind.u64 x (IntKind.u64.wrap (shlI IntKind.u64 1 r0 - 1))) (shlI IntKind.u64 18446744073709551615 r0)))
 else
 none
 else
 some (IntKind.i64.wrap (bitAnd IntKind.u64 x (IntKind.u64.wrap (shlI IntKind.u64 1 r0 - 1))))
 else
 none
 else
 some (IntKind.i64.wrap (bitAnd IntKind.u64 x (IntKind.u64.wrap (shlI IntKind.u64 1 r0 - 1))))
 else
 none :=
 (fnA_eq 91 _ rfl).trans (by kernel_rfl)
theorem I.ValidValue_eq (v : TValue) : I.ValidValue v =
 bif v.gType == 1 then
 bif v.gN == 0 then
 some (bEq v.gText ((⟨#[]⟩ : ByteArray)))
 else
 bif v.gN == 1 then
 some (bEq v.gText ((⟨#[]⟩ : ByteArray)))
 else
 some false
 else
 bif v.gType == 2 then
 bif v.gN == 0 then
 some (decide ((v.gText.size : Int) ≤ 3000))
 else
 some false
 else
 (I.integer v.gType).bind fun r0 =>
 bif r0 then
 bif bEq v.gText ((⟨#[]⟩ : ByteArray)) then
 (I.into (IntKind.u64.wrap v.gN) v.gType).bind fun r1 =>
 some (r1 == v.gN)
 else
 some false
 else
 some false :=
 (fnA_eq 66 _ rfl).trans (by kernel_rfl)
theorem I.insOk_1_eq (o0 : (Int × (Int × (Int × ByteArray)))) (lo : Int) (hi : Int) : I.insOk_1 o0 lo hi =
 bif decide (o0.snd.fst ≥ lo) then
 some (decide (o0.snd.fst ≤ hi), (o0.fst, (o0.snd.fst, (o0.snd.snd.fst, o0.snd.snd.snd))))
 else
 some (false, (o0.fst, (o0.snd.fst, (o0.snd.snd.fst, o0.snd.snd.snd)))) :=
 (fnB_eq 108 _ _ rfl).trans (by kernel_rfl)
noncomputable def I.insOk.l501 (t29 : Int) (t30 : Bool) (c : TCode) (f : TFn) (m : Int) (m_1 : Int) (m_2 : Int) (m_3 : ByteArray) : Option Bool := Y.runA 83 (fun ct c => at_ ct [true, true, true, true, false, true, false, true] c) ⟨[(3, .ad (.loc 3) 0), (4, .ad (.loc 4) 0), (5, .ad (.obj 0) 0), (7, .clo 108 [(0, 0)]), (29, .i IntKind.i64 t29), (30, .b t30)], [(3, cells 53 c), (4, cells 89 f)], [[.i IntKind.i64 m, .i IntKind.i64 m_1, .i IntKind.i64 m_2, .s m_3]], [], []⟩
noncomputable def I.insOk.l2056191 (t29 : Int) (t62 : Bool) (f : TFn) (m : Int) (m_1 : Int) (m_2 : Int) (m_3 : ByteArray) : Option Bool := Y.runA 83 (fun ct c => at_ ct [true, true, true, true, false, true, false, true, true, true, true, true, true, true, true, true, true, true, true, true] c) ⟨[(4, .ad (.loc 4) 0), (5, .ad (.obj 0) 0), (7, .clo 108 [(0, 0)]), (29, .i IntKind.i64 t29), (62, .b t62)], [(4, cells 89 f)], [[.i IntKind.i64 m, .i IntKind.i64 m_1, .i IntKind.i64 m_2, .s m_3]], [], []⟩
theorem I.insOk_eq (c : TCode) (f : TFn) (x : TIns) : I.insOk c f x =
 bif x.gOp == 1 then
 (I.ValidValue (TValue.mk x.gA x.gN x.gText)).bind fun r0 =>
 some r0
 else
 bif x.gN != 0 then
 some false
 else
 bif !bEq x.gText ((⟨#[]⟩ : ByteArray)) then
 some false
 else
 bif x.gOp == 2 then
 I.insOk.l501 x.gOp (x.gOp == 2) c f x.gOp x.gA x.gN x.gText
 else
 I.insOk.l501 x.gOp (x.gOp == 3) c f x.gOp x.gA x.gN x.gText :=
 (fnA_eq 83 _ rfl).trans (by kernel_rfl)
theorem I.insOk.l501_eq (t29 : Int) (t30 : Bool) (c : TCode) (f : TFn) (m : Int) (m_1 : Int) (m_2 : Int) (m_3 : ByteArray) : I.insOk.l501 t29 t30 c f m m_1 m_2 m_3 =
 bif t30 then
 (I.insOk_1 (m, m_1, m_2, m_3) 0 (IntKind.i64.wrap (f.gSlots - 1))).bind fun r0 =>
 some r0.fst
 else
 bif t29 == 5 then
 (I.insOk_1 (m, m_1, m_2, m_3) 1 3).bind fun r0 =>
 some r0.fst
 else
 bif t29 == 6 then
 (I.insOk_1 (m, m_1, m_2, m_3) 3 18).bind fun r0 =>
 some r0.fst
 else
 bif t29 == 7 then
 (I.insOk_1 (m, m_1, m_2, m_3) 3 10).bind fun r0 =>
 some r0.fst
 else
 bif t29 == 8 then
 (I.insOk_1 (m, m_1, m_2, m_3) 1 12).bind fun r0 =>
 some r0.fst
 else
 bif t29 == 9 then
 (I.insOk_1 (m, m_1, m_2, m_3) 0 (IntKind.i64.wrap ((c.gFns.length : Int) - 1))).bind fun r0 =>
 some r0.fst
 else
 bif t29 == 10 then
 I.insOk.l2056191 t29 (t29 == 10) f m m_1 m_2 m_3
 else
 I.insOk.l2056191 t29 (t29 == 11) f m m_1 m_2 m_3 :=
 (runA_eq 83 _ _).trans (by kernel_rfl)
theorem I.insOk.l2056191_eq (t29 : Int) (t62 : Bool) (f : TFn) (m : Int) (m_1 : Int) (m_2 : Int) (m_3 : ByteArray) : I.insOk.l2056191 t29 t62 f m m_1 m_2 m_3 =
 bif t62 then
 (I.insOk_1 (m, m_1, m_2, m_3) 0 (f.gIns.length : Int)).bind fun r0 =>
 some r0.fst
 else
 bif t29 == 12 then
 bif m_1 == 1 then
 bif f.gResult != 0 then
 some true
 else
 bif m_1 == 0 then
 some (f.gResult == 0)
 else
 some false
 else
 bif m_1 == 0 then
 some (f.gResult == 0)
 else
 some false
 else
 bif t29 == 4 then
 bif t29 == 4 then
 some (m_1 == 0)
 else
 some false
 else
 bif t29 == 13 then
 bif t29 == 13 then
 some (m_1 == 0)
 else
 some false
 else
 bif t29 == 14 then
 bif t29 == 14 then
 some (m_1 == 0)
 else
 some false
 else
 bif t29 == 15 then
 bif t29 == 15 then
 some (m_1 == 0)
 else
 some false
 else
 bif t29 == 16 then
 some (m_1 == 0)
 else
 some false :=
 (runA_eq 83 _ _).trans (by kernel_rfl)
noncomputable def I.checkParts.l244 (seen : List ((ByteArray × Bool))) (t26 : List TFn) (t27 : Int) (t28 : Int) (c : TCode) : Option ((Int × (Int × Int))) := Y.runA 62 (fun ct c => at_ ct [true, true, true, false, true, false, false] c) ⟨[(1, .ad (.loc 1) 0), (5, .mp 4 seen), (26, .fl 89 t26), (27, .i IntKind.i64 t27), (28, .i IntKind.i64 t28)], [(1, cells 53 c)], [], [], []⟩
noncomputable def I.checkParts.l500 (t48 : List TFn) (t49 : Int) (t50 : Int) (c : TCode) : Option ((Int × (Int × Int))) := Y.runA 62 (fun ct c => at_ ct [true, true, true, true, false, true, false, false] c) ⟨[(1, .ad (.loc 1) 0), (48, .fl 89 t48), (49, .i IntKind.i64 t49), (50, .i IntKind.i64 t50)], [(1, cells 53 c)], [], [], []⟩
noncomputable def I.checkParts.l128204 (i : Int) (t48 : List TFn) (t49 : Int) (t50 : Int) (t56 : List TIns) (t57 : Int) (t58 : Int) (c : TCode) (f : TFn) : Option ((Int × (Int × Int))) := Y.runA 62 (fun ct c => at_ ct [true, true, true, true, false, true, false, false, true, true, false, false, true, true, false, false] c) ⟨[(1, .ad (.loc 1) 0), (8, .i IntKind.i64 i), (9, .ad (.loc 9) 0), (48, .fl 89 t48), (49, .i IntKind.i64 t49), (50, .i IntKind.i64 t50), (56, .fl 98 t56), (57, .i IntKind.i64 t57), (58, .i IntKind.i64 t58)], [(1, cells 53 c), (9, cells 89 f)], [], [], []⟩
noncomputable def I.checkParts.l1012 (t73 : List TFn) (t74 : Int) (t75 : Int) : Option ((Int × (Int × Int))) := Y.runA 62 (fun ct c => at_ ct [true, true, true, true, true, false, true, false, false] c) ⟨[(73, .fl 89 t73), (74, .i IntKind.i64 t74), (75, .i IntKind.i64 t75)], [], [], [], []⟩
theorem I.checkParts_eq (c : TCode) : I.checkParts c =
 bif decide ((c.gFns.length : Int) < 1) then
 some (1, (0, 0))
 else
 bif decide ((c.gFns.length : Int) > 60) then
 some (1, (0, 0))
 else
 I.checkParts.l244 ([]) c.gFns (c.gFns.length : Int) 0 c :=
 (fnA_eq 62 _ rfl).trans (by kernel_rfl)
theorem I.checkParts.l244_eq (seen : List ((ByteArray × Bool))) (t26 : List TFn) (t27 : Int) (t28 : Int) (c : TCode) : I.checkParts.l244 seen t26 t27 t28 c =
 bif decide (t28 < t27) then
 bif inB t28 t26.length then
 (I.headOk (t26.getD t28.toNat TFn.z)).bind fun r0 =>
 bif !r0 then
 some (2, (t28, 0))
 else
 bif (mget seen (t26.getD t28.toNat TFn.z).gName).getD false then
 some (2, (t28, 0))
 else
 I.checkParts.l244 (mset seen (t26.getD t28.toNat TFn.z).gName true) t26 t27 (IntKind.i64.wrap (t28 + 1)) c
 else
 none
 else
 I.checkParts.l500 c.gFns (c.gFns.length : Int) 0 c :=
 (runA_eq 62 _ _).trans (by kernel_rfl)
theorem I.checkParts.l500_eq (t48 : List TFn) (t49 : Int) (t50 : Int) (c : TCode) : I.checkParts.l500 t48 t49 t50 c =
 bif decide (t50 < t49) then
 bif inB t50 t48.length then
 I.checkParts.l128204 t50 t48 t49 t50 ((t48.getD t50.toNat TFn.z).gIns) ((t48.getD t50.toNat TFn.z).gIns.length : Int) 0 c (t48.getD t50.toNat TFn.z)
 else
 none
 else
 I.checkParts.l1012 c.gFns (c.gFns.length : Int) 0 :=
 (runA_eq 62 _ _).trans (by kernel_rfl)
theorem I.checkParts.l128204_eq (i : Int) (t48 : List TFn) (t49 : Int) (t50 : Int) (t56 : List TIns) (t57 : Int) (t58 : Int) (c : TCode) (f : TFn) : I.checkParts.l128204 i t48 t49 t50 t56 t57 t58 c f =
 bif decide (t58 < t57) then
 bif inB t58 t56.length then
 (I.insOk c f (t56.getD t58.toNat TIns.z)).bind fun r0 =>
 bif !r0 then
 some (3, (i, t58))
 else
 I.checkParts.l128204 i t48 t49 t50 t56 t57 (IntKind.i64.wrap (t58 + 1)) c f
 else
 none
 else
 I.checkParts.l500 t48 t49 (IntKind.i64.wrap (t50 + 1)) c :=
 (runA_eq 62 _ _).trans (by kernel_rfl)
theorem I.checkParts.l1012_eq (t73 : List TFn) (t74 : Int) (t75 : Int) : I.checkParts.l1012 t73 t74 t75 =
 bif decide (t75 < t74) then
 bif inB t75 t73.length then
 bif bEq (t73.getD t75.toNat TFn.z).gName ((⟨#[109, 97, 105, 110]⟩ : ByteArray)) then
 bif ((t73.getD t75.toNat TFn.z).gParams.length : Int) == 0 then
 bif (t73.getD t75.toNat TFn.z).gResult == 2 then
 some (0, (0, 0))
 else
 I.checkParts.l1012 t73 t74 (IntKind.i64.wrap (t75 + 1))
 else
 I.checkParts.l1012 t73 t74 (IntKind.i64.wrap (t75 + 1))
 else
 I.checkParts.l1012 t73 t74 (IntKind.i64.wrap (t75 + 1))
 else
 none
 else
 some (4, (0, 0)) :=
 (runA_eq 62 _ _).trans (by kernel_rfl)
noncomputable def I.next.l53 (at_0 : Int) (t6 : Int) (t7 : Bool) (x : TIns) : Option (List Int) := Y.runA 64 (fun ct c => at_ ct [true, false, true, false, true] c) ⟨[(1, .i IntKind.i64 at_0), (2, .ad (.loc 2) 0), (6, .i IntKind.i64 t6), (7, .b t7)], [(2, cells 98 x)], [], [], []⟩
theorem I.next_eq (x : TIns) (at_0 : Int) : I.next x at_0 =
 bif x.gOp == 12 then
 I.next.l53 at_0 x.gOp (x.gOp == 12) x
 else
 I.next.l53 at_0 x.gOp (x.gOp == 13) x :=
 (fnA_eq 64 _ rfl).trans (by kernel_rfl)
theorem I.next.l53_eq (at_0 : Int) (t6 : Int) (t7 : Bool) (x : TIns) : I.next.l53 at_0 t6 t7 x =
 bif t7 then
 some ([])
 else
 bif t6 == 10 then
 some ([x.gA])
 else
 bif t6 == 11 then
 some ([x.gA, IntKind.i64.wrap (at_0 + 1)])
 else
 some ([IntKind.i64.wrap (at_0 + 1)]) :=
 (runA_eq 64 _ _).trans (by kernel_rfl)
theorem I.effect_1_eq (o0 : List Int) (o1 : Unit) (n : Int) : I.effect_1 o0 o1 n =
 bif decide ((o0.length : Int) < n) then
 some (none, (o0, ()))
 else
 bif inS (IntKind.i64.wrap ((o0.length : Int) - n)) (o0.length : Int) o0.length then
 bif inS 0 (IntKind.i64.wrap ((o0.length : Int) - n)) o0.length then
 some (some (sub o0 (IntKind.i64.wrap ((o0.length : Int) - n)) (o0.length : Int)), (sub o0 0 (IntKind.i64.wrap ((o0.length : Int) - n)), ()))
 else
 none
 else
 none :=
 (fnB_eq 84 _ _ rfl).trans (by kernel_rfl)
noncomputable def I.effect_2.l244 (want : List Int) (k : Option (List Int)) (t18 : Int) (t19 : Int) (m : List Int) : Option ((Bool × (List Int × Unit))) := Y.runB 85 (fun ct c => at_ ct [true, true, true, false, true, false, false] c) ⟨[(0, .fl 3 want), (4, .fo 3 k), (18, .i IntKind.i64 t18), (19, .i IntKind.i64 t19)], [], [[.fl 3 m], [.clo 84 [(0, 0)]]], [], []⟩
theorem I.effect_2_eq (o0 : List Int) (o1 : Unit) (want : List Int) : I.effect_2 o0 o1 want =
 (I.effect_1 o0 () (want.length : Int)).bind fun r0 =>
 bif foC r0.fst then
 bif Option.isNone r0.fst then
 bif decide ((want.length : Int) > 0) then
 some (false, (r0.snd.fst, ()))
 else
 I.effect_2.l244 want r0.fst (want.length : Int) 0 r0.snd.fst
 else
 I.effect_2.l244 want r0.fst (want.length : Int) 0 r0.snd.fst
 else
 amb
 (bif decide ((want.length : Int) > 0) then
 some (false, (r0.snd.fst, ()))
 else
 I.effect_2.l244 want r0.fst (want.length : Int) 0 r0.snd.fst)
 (I.effect_2.l244 want r0.fst (want.length : Int) 0 r0.snd.fst) :=
 (fnB_eq 85 _ _ rfl).trans (by kernel_rfl)
theorem I.effect_2.l244_eq (want : List Int) (k : Option (List Int)) (t18 : Int) (t19 : Int) (m : List Int) : I.effect_2.l244 want k t18 t19 m =
 bif decide (t19 < t18) then
 bif inB t19 (Option.getD k []).length then
 bif inB t19 want.length then
 bif (Option.getD k []).getD t19.toNat 0 != want.getD t19.toNat 0 then
 some (false, (m, ()))
 else
 I.effect_2.l244 want k t18 (IntKind.i64.wrap (t19 + 1)) m
 else
 none
 else
 none
 else
 some (true, (m, ())) :=
 (runB_eq 85 _ _).trans (by kernel_rfl)
theorem I.unType_eq (op : Int) (a : Int) : I.unType op a =
 bif op == 2 then
 bif a == 1 then
 some a
 else
 bif op == 1 then
 (I.integer a).bind fun r0 =>
 bif r0 then
 some a
 else
 some 0
 else
 bif op == 3 then
 (I.integer a).bind fun r0 =>
 bif r0 then
 some a
 else
 some 0
 else
 some 0
 else
 bif op == 1 then
 (I.integer a).bind fun r0 =>
 bif r0 then
 some a
 else
 some 0
 else
 bif op == 3 then
 (I.integer a).bind fun r0 =>
 bif r0 then
 some a
 else
 some 0
 else
 some 0 :=
 (fnA_eq 86 _ rfl).trans (by kernel_rfl)
theorem I.binType_eq (op : Int) (a : Int) (b : Int) : I.binType op a b =
 bif a != b then
 some 0
 else
 bif a == 0 then
 some 0
 else
 bif op == 1 then
 bif a == 1 then
 some 1
 else
 some 0
 else
 bif op == 2 then
 bif a == 1 then
 some 1
 else
 some 0
 else
 bif op == 3 then
 some 1
 else
 bif op == 4 then
 some 1
 else
 bif decide (op ≥ 5) then
 bif decide (op ≤ 8) then
 (I.integer a).bind fun r0 =>
 bif r0 then
 some 1
 else
 bif a == 2 then
 some 1
 else
 some 0
 else
 bif op == 9 then
 (I.integer a).bind fun r0 =>
 bif r0 then
 some a
 else
 bif a == 2 then
 some a
 else
 some 0
 else
 bif decide (op > 9) then
 bif decide (op ≤ 18) then
 (I.integer a).bind fun r0 =>
 bif r0 then
 some a
 else
 some 0
 else
 some 0
 else
 some 0
 else
 bif op == 9 then
 (I.integer a).bind fun r0 =>
 bif r0 then
 some a
 else
 bif a == 2 then
 some a
 else
 some 0
 else
 bif decide (op > 9) then
 bif decide (op ≤ 18) then
 (I.integer a).bind fun r0 =>
 bif r0 then
 some a
 else
 some 0
 else
 some 0
 else
 some 0 :=
 (fnA_eq 87 _ rfl).trans (by kernel_rfl)
noncomputable def I.builtType.l500 (op : Int) (want : List Int) (t35 : List Int) (t36 : Int) (t37 : Int) : Option Int := Y.runA 89 (fun ct c => at_ ct [true, true, true, true, false, true, false, false] c) ⟨[(0, .i IntKind.i64 op), (5, .fl 3 want), (35, .fl 3 t35), (36, .i IntKind.i64 t36), (37, .i IntKind.i64 t37)], [], [], [], []⟩
theorem I.builtType_eq (op : Int) (kids : List Int) : I.builtType op kids =
 bif decide (op < 1) then
 some 0
 else
 bif decide (op > 12) then
 some 0
 else
 bif inB op [[], [2], [2], [2], [2, 2], [], [2], [2, 10], [2, 10, 10], [2, 2], [3], [-1], [2]].length then
 bif (kids.length : Int) != ((List.length ([[], [2], [2], [2], [2, 2], [], [2], [2, 10], [2, 10, 10], [2, 2], [3], [-1], [2]].getD op.toNat [])) : Int) then
 some 0
 else
 I.builtType.l500 op ([[], [2], [2], [2], [2, 2], [], [2], [2, 10], [2, 10, 10], [2, 2], [3], [-1], [2]].getD op.toNat []) kids (kids.length : Int) 0
 else
 none :=
 (fnA_eq 89 _ rfl).trans (by kernel_rfl)
theorem I.builtType.l500_eq (op : Int) (want : List Int) (t35 : List Int) (t36 : Int) (t37 : Int) : I.builtType.l500 op want t35 t36 t37 =
 bif decide (t37 < t36) then
 bif inB t37 t35.length then
 bif inB t37 (List.length want) then
 bif List.getD want t37.toNat 0 == -1 then
 (I.integer (t35.getD t37.toNat 0)).bind fun r0 =>
 bif r0 then
 I.builtType.l500 op want t35 t36 (IntKind.i64.wrap (t37 + 1))
 else
 bif inB t37 (List.length want) then
 bif List.getD want t37.toNat 0 == t35.getD t37.toNat 0 then
 I.builtType.l500 op want t35 t36 (IntKind.i64.wrap (t37 + 1))
 else
 some 0
 else
 none
 else
 bif inB t37 (List.length want) then
 bif List.getD want t37.toNat 0 == t35.getD t37.toNat 0 then
 I.builtType.l500 op want t35 t36 (IntKind.i64.wrap (t37 + 1))
 else
 some 0
 else
 none
 else
 none
 else
 none
 else
 bif inB op [0, 2, 1, 2, 2, 2, 10, 3, 2, 10, 2, 2, 10].length then
 some (([0, 2, 1, 2, 2, 2, 10, 3, 2, 10, 2, 2, 10] : List Int).getD op.toNat 0)
 else
 none :=
 (runA_eq 89 _ _).trans (by kernel_rfl)
noncomputable def I.effect.l116 (t32 : List Int) (t33 : Int) (t34 : Int) (c : TCode) (f : TFn) (s : TShape) (t8 : TShape) (x : TIns) : Option ((TShape × Bool)) := Y.runA 63 (fun ct c => at_ ct [true, true, false, true, false, false] c) ⟨[(4, .ad (.loc 4) 0), (5, .ad (.loc 5) 0), (7, .ad (.loc 7) 0), (8, .ad (.loc 8) 0), (10, .ad (.loc 10) 0), (32, .ol 3 t32), (33, .i IntKind.i64 t33), (34, .i IntKind.i64 t34)], [(4, cells 53 c), (5, cells 89 f), (7, cells 96 s), (8, cells 96 t8), (10, cells 98 x)], [], [], []⟩
noncomputable def I.effect.l511 (put : Int) (s : TShape) (t8 : TShape) (m : List Int) : Option ((TShape × Bool)) := Y.runA 63 (fun ct c => at_ ct [true, true, true, true, true, true, true, true] c) ⟨[(7, .ad (.loc 7) 0), (8, .ad (.loc 8) 0), (13, .ad (.obj 0) 0), (16, .i IntKind.i64 put)], [(7, cells 96 s), (8, cells 96 t8)], [[.fl 3 m], [.clo 84 [(0, 0)]]], [], []⟩
noncomputable def I.effect.l17137926143 (put : Int) (t50 : Int) (t207 : Bool) (s : TShape) (t8 : TShape) (m : List Int) : Option ((TShape × Bool)) := Y.runA 63 (fun ct c => at_ ct [true, true, true, true, true, true, true, false, true, false, true, true, true, true, true, true, true, true, true, true, true, true, true, true, true, true, true, true, true, true, true, true, true] c) ⟨[(7, .ad (.loc 7) 0), (8, .ad (.loc 8) 0), (13, .ad (.obj 0) 0), (15, .clo 85 [(1, 0)]), (16, .i IntKind.i64 put), (50, .i IntKind.i64 t50), (207, .b t207)], [(7, cells 96 s), (8, cells 96 t8)], [[.fl 3 m], [.clo 84 [(0, 0)]]], [], []⟩
theorem I.effect_eq (c : TCode) (f : TFn) (at_0 : Int) (s : TShape) : I.effect c f at_0 s =
 bif inB at_0 f.gIns.length then
 (I.next (f.gIns.getD at_0.toNat TIns.z) at_0).bind fun r0 =>
 I.effect.l116 r0 ((List.length r0) : Int) 0 c f s (⟨0, [], []⟩ : TShape) (f.gIns.getD at_0.toNat TIns.z)
 else
 none :=
 (fnA_eq 63 _ rfl).trans (by kernel_rfl)
theorem I.effect.l116_eq (t32 : List Int) (t33 : Int) (t34 : Int) (c : TCode) (f : TFn) (s : TShape) (t8 : TShape) (x : TIns) : I.effect.l116 t32 t33 t34 c f s t8 x =
 bif decide (t34 < t33) then
 bif inB t34 (List.length t32) then
 bif List.getD t32 t34.toNat 0 == (f.gIns.length : Int) then
 some ((⟨0, [], []⟩ : TShape), false)
 else
 I.effect.l116 t32 t33 (IntKind.i64.wrap (t34 + 1)) c f s t8 x
 else
 none
 else
 bif x.gOp == 1 then
 I.effect.l511 x.gA s t8 s.gStack
 else
 bif x.gOp == 2 then
 bif inB x.gA s.gSlots.length then
 bif s.gSlots.getD x.gA.toNat 0 == 0 then
 some ((⟨0, [], []⟩ : TShape), false)
 else
 I.effect.l511 (s.gSlots.getD x.gA.toNat 0) s t8 s.gStack
 else
 none
 else
 bif x.gOp == 3 then
 (I.effect_1 s.gStack () 1).bind fun r0 =>
 bif foC r0.fst then
 bif Option.isNone r0.fst then
 some ((⟨0, [], []⟩ : TShape), false)
 else
 bif room s.gSlots.length 8 then
 bif inB 0 (Option.getD r0.fst []).length then
 bif inB x.gA s.gSlots.length then
 some ((⟨1, s.gSlots.set x.gA.toNat ((Option.getD r0.fst []).getD 0 0), r0.snd.fst⟩ : TShape), true)
 else
 none
 else
 none
 else
 none
 else
 none
 else
 bif x.gOp == 4 then
 (I.effect_1 s.gStack () 1).bind fun r0 =>
 bif foC r0.fst then
 bif Option.isNone r0.fst then
 some ((⟨0, [], []⟩ : TShape), false)
 else
 I.effect.l511 0 s t8 r0.snd.fst
 else
 none
 else
 bif x.gOp == 5 then
 (I.effect_1 s.gStack () 1).bind fun r0 =>
 bif foC r0.fst then
 bif Option.isNone r0.fst then
 some ((⟨0, [], []⟩ : TShape), false)
 else
 bif inB 0 (Option.getD r0.fst []).length then
 (I.unType x.gA ((Option.getD r0.fst []).getD 0 0)).bind fun r1 =>
 bif r1 == 0 then
 some ((⟨0, [], []⟩ : TShape), false)
 else
 bif inB 0 (Option.getD r0.fst []).length then
 I.effect.l511 ((Option.getD r0.fst []).getD 0 0) s t8 r0.snd.fst
 else
 none
 else
 none
 else
 none
 else
 bif x.gOp == 6 then
 (I.effect_1 s.gStack () 2).bind fun r0 =>
 bif foC r0.fst then
 bif Option.isNone r0.fst then
 some ((⟨0, [], []⟩ : TShape), false)
 else
 bif inB 0 (Option.getD r0.fst []).length then
 bif inB 1 (Option.getD r0.fst []).length then
 (I.binType x.gA ((Option.getD r0.fst []).getD 0 0) ((Option.getD r0.fst []).getD 1 0)).bind fun r1 =>
 bif r1 == 0 then
 some ((⟨0, [], []⟩ : TShape), false)
 else
 I.effect.l511 r1 s t8 r0.snd.fst
 else
 none
 else
 none
 else
 none
 else
 bif x.gOp == 7 then
 (I.effect_1 s.gStack () 1).bind fun r0 =>
 bif foC r0.fst then
 bif Option.isNone r0.fst then
 some ((⟨0, [], []⟩ : TShape), false)
 else
 bif inB 0 (Option.getD r0.fst []).length then
 (I.integer ((Option.getD r0.fst []).getD 0 0)).bind fun r1 =>
 bif !r1 then
 some ((⟨0, [], []⟩ : TShape), false)
 else
 I.effect.l511 x.gA s t8 r0.snd.fst
 else
 none
 else
 none
 else
 bif x.gOp == 8 then
 bif inB x.gA [0, 1, 1, 1, 2, 0, 1, 2, 3, 2, 1, 1, 1].length then
 (I.effect_1 s.gStack () (([0, 1, 1, 1, 2, 0, 1, 2, 3, 2, 1, 1, 1] : List Int).getD x.gA.toNat 0)).bind fun r0 =>
 bif decide (([0, 1, 1, 1, 2, 0, 1, 2, 3, 2, 1, 1, 1] : List Int).getD x.gA.toNat 0 > 0) then
 bif foC r0.fst then
 bif Option.isNone r0.fst then
 some ((⟨0, [], []⟩ : TShape), false)
 else
 (I.builtType x.gA (Option.getD r0.fst [])).bind fun r1 =>
 bif r1 == 0 then
 some ((⟨0, [], []⟩ : TShape), false)
 else
 I.effect.l511 r1 s t8 r0.snd.fst
 else
 none
 else
 (I.builtType x.gA (Option.getD r0.fst [])).bind fun r1 =>
 bif r1 == 0 then
 some ((⟨0, [], []⟩ : TShape), false)
 else
 I.effect.l511 r1 s t8 r0.snd.fst
 else
 none
 else
 bif x.gOp == 9 then
 bif inB x.gA c.gFns.length then
 (I.effect_2 s.gStack () ((c.gFns.getD x.gA.toNat TFn.z).gParams)).bind fun r0 =>
 bif !r0.fst then
 some ((⟨0, [], []⟩ : TShape), false)
 else
 I.effect.l511 ((c.gFns.getD x.gA.toNat TFn.z).gResult) s t8 r0.snd.fst
 else
 none
 else
 bif x.gOp == 11 then
 (I.effect_2 s.gStack () ([1])).bind fun r0 =>
 bif !r0.fst then
 some ((⟨0, [], []⟩ : TShape), false)
 else
 I.effect.l511 0 s t8 r0.snd.fst
 else
 bif x.gOp == 12 then
 bif x.gA == 1 then
 (I.effect_2 s.gStack () ([f.gResult])).bind fun r0 =>
 bif !r0.fst then
 some ((⟨0, [], []⟩ : TShape), false)
 else
 I.effect.l511 0 s t8 r0.snd.fst
 else
 I.effect.l511 0 s t8 s.gStack
 else
 bif x.gOp == 13 then
 I.effect.l17137926143 0 x.gOp (x.gOp == 13) s t8 s.gStack
 else
 I.effect.l17137926143 0 x.gOp (x.gOp == 15) s t8 s.gStack :=
 (runA_eq 63 _ _).trans (by kernel_rfl)
theorem I.effect.l511_eq (put : Int) (s : TShape) (t8 : TShape) (m : List Int) : I.effect.l511 put s t8 m =
 bif put != 0 then
 bif room m.length 8 then
 bif room (m.length + [put].length) 8 then
 bif decide (((m ++ [put]).length : Int) > 600) then
 some ((⟨0, [], []⟩ : TShape), false)
 else
 some ((⟨1, s.gSlots, m ++ [put]⟩ : TShape), true)
 else
 none
 else
 none
 else
 bif decide ((m.length : Int) > 600) then
 some ((⟨0, [], []⟩ : TShape), false)
 else
 some ((⟨1, s.gSlots, m⟩ : TShape), true) :=
 (runA_eq 63 _ _).trans (by kernel_rfl)
theorem I.effect.l17137926143_eq (put : Int) (t50 : Int) (t207 : Bool) (s : TShape) (t8 : TShape) (m : List Int) : I.effect.l17137926143 put t50 t207 s t8 m =
 bif t207 then
 (I.effect_2 m () ([2])).bind fun r0 =>
 bif !r0.fst then
 some ((⟨0, [], []⟩ : TShape), false)
 else
 I.effect.l511 put s t8 r0.snd.fst
 else
 bif t50 == 14 then
 (I.effect_2 m () ([2, 2])).bind fun r0 =>
 bif !r0.fst then
 some ((⟨0, [], []⟩ : TShape), false)
 else
 I.effect.l511 put s t8 r0.snd.fst
 else
 I.effect.l511 put s t8 m :=
 (runA_eq 63 _ _).trans (by kernel_rfl)
noncomputable def I.sameInts.l116 (a : List Int) (b : List Int) (t12 : Int) (t13 : Int) : Option Bool := Y.runA 90 (fun ct c => at_ ct [true, true, false, true, false, false] c) ⟨[(0, .fl 3 a), (1, .fl 3 b), (12, .i IntKind.i64 t12), (13, .i IntKind.i64 t13)], [], [], [], []⟩
theorem I.sameInts_eq (a : List Int) (b : List Int) : I.sameInts a b =
 bif (a.length : Int) != (b.length : Int) then
 some false
 else
 I.sameInts.l116 a b (a.length : Int) 0 :=
 (fnA_eq 90 _ rfl).trans (by kernel_rfl)
theorem I.sameInts.l116_eq (a : List Int) (b : List Int) (t12 : Int) (t13 : Int) : I.sameInts.l116 a b t12 t13 =
 bif decide (t13 < t12) then
 bif inB t13 a.length then
 bif inB t13 b.length then
 bif a.getD t13.toNat 0 != b.getD t13.toNat 0 then
 some false
 else
 I.sameInts.l116 a b t12 (IntKind.i64.wrap (t13 + 1))
 else
 none
 else
 none
 else
 some true :=
 (runA_eq 90 _ _).trans (by kernel_rfl)
noncomputable def I.join.l1012 (slots : List Int) (more : Bool) (t47 : Int) (t48 : Int) (a : TShape) (b : TShape) (t4 : TShape) : Option ((TShape × Bool)) := Y.runA 65 (fun ct c => at_ ct [true, true, true, true, true, false, true, false, false] c) ⟨[(2, .ad (.loc 2) 0), (3, .ad (.loc 3) 0), (4, .ad (.loc 4) 0), (6, .ol 3 slots), (7, .b more), (47, .i IntKind.i64 t47), (48, .i IntKind.i64 t48)], [(2, cells 96 a), (3, cells 96 b), (4, cells 96 t4)], [], [], []⟩
theorem I.join_eq (a : TShape) (b : TShape) : I.join a b =
 bif a.gState == 2 then
 some ((⟨a.gState, a.gSlots, a.gStack⟩ : TShape), false)
 else
 bif b.gState == 0 then
 some ((⟨a.gState, a.gSlots, a.gStack⟩ : TShape), false)
 else
 bif a.gState == 0 then
 some ((⟨b.gState, b.gSlots, b.gStack⟩ : TShape), true)
 else
 bif b.gState == 2 then
 some ((⟨2, [], []⟩ : TShape), true)
 else
 (I.sameInts a.gStack b.gStack).bind fun r0 =>
 bif !r0 then
 some ((⟨2, [], []⟩ : TShape), true)
 else
 (I.sameInts a.gSlots b.gSlots).bind fun r1 =>
 bif r1 then
 some ((⟨a.gState, a.gSlots, a.gStack⟩ : TShape), false)
 else
 bif room a.gSlots.length 8 then
 I.join.l1012 a.gSlots false (a.gSlots.length : Int) 0 a b (⟨0, [], []⟩ : TShape)
 else
 none :=
 (fnA_eq 65 _ rfl).trans (by kernel_rfl)
theorem I.join.l1012_eq (slots : List Int) (more : Bool) (t47 : Int) (t48 : Int) (a : TShape) (b : TShape) (t4 : TShape) : I.join.l1012 slots more t47 t48 a b t4 =
 bif decide (t48 < t47) then
 bif inB t48 slots.length then
 bif inB t48 b.gSlots.length then
 bif slots.getD t48.toNat 0 != b.gSlots.getD t48.toNat 0 then
 bif inB t48 slots.length then
 bif slots.getD t48.toNat 0 != 0 then
 bif inB t48 slots.length then
 I.join.l1012 (slots.set t48.toNat 0) true t47 (IntKind.i64.wrap (t48 + 1)) a b t4
 else
 none
 else
 I.join.l1012 slots more t47 (IntKind.i64.wrap (t48 + 1)) a b t4
 else
 none
 else
 I.join.l1012 slots more t47 (IntKind.i64.wrap (t48 + 1)) a b t4
 else
 none
 else
 none
 else
 some ((⟨1, slots, a.gStack⟩ : TShape), more) :=
 (runA_eq 65 _ _).trans (by kernel_rfl)
noncomputable def I.shapes.l4088 (all : List TShape) (work : List Int) (on : List Bool) (c : TCode) (f : TFn) : Option ((Option (List TShape) × Int)) := Y.runA 47 (fun ct c => at_ ct [true, true, true, true, true, true, true, true, false, false, false] c) ⟨[(2, .ad (.loc 2) 0), (6, .ad (.loc 6) 0), (7, .ol 96 all), (9, .ol 3 work), (10, .ol 4 on)], [(2, cells 53 c), (6, cells 89 f)], [], [], []⟩
noncomputable def I.shapes.l4186876 (all : List TShape) (work : List Int) (on : List Bool) (t93 : List Int) (t94 : Int) (t95 : Int) (c : TCode) (f : TFn) (out : TShape) : Option ((Option (List TShape) × Int)) := Y.runA 47 (fun ct c => at_ ct [true, true, true, true, true, true, true, true, false, false, false, true, false, true, true, true, true, true, true, false, false] c) ⟨[(2, .ad (.loc 2) 0), (6, .ad (.loc 6) 0), (7, .ol 96 all), (9, .ol 3 work), (10, .ol 4 on), (12, .ad (.loc 12) 0), (93, .ol 3 t93), (94, .i IntKind.i64 t94), (95, .i IntKind.i64 t95)], [(2, cells 53 c), (6, cells 89 f), (12, cells 96 out)], [], [], []⟩
noncomputable def I.shapes.l32756 (all : List TShape) (bad : Int) (t131 : List TShape) (t132 : Int) (t133 : Int) (c : TCode) (f : TFn) : Option ((Option (List TShape) × Int)) := Y.runA 47 (fun ct c => at_ ct [true, true, true, true, true, true, true, true, true, true, false, true, false, false] c) ⟨[(2, .ad (.loc 2) 0), (6, .ad (.loc 6) 0), (7, .fl 96 all), (19, .i IntKind.i64 bad), (131, .fl 96 t131), (132, .i IntKind.i64 t132), (133, .i IntKind.i64 t133)], [(2, cells 53 c), (6, cells 89 f)], [], [], []⟩
theorem I.shapes_eq (c : TCode) (fn : Int) : I.shapes c fn =
 bif inB fn c.gFns.length then
 bif decide (0 ≤ ((c.gFns.getD fn.toNat TFn.z).gIns.length : Int)) && ((c.gFns.getD fn.toNat TFn.z).gIns.length : Int) == ((c.gFns.getD fn.toNat TFn.z).gIns.length : Int) && room (c.gFns.getD fn.toNat TFn.z).gIns.length 56 then
 bif decide (0 ≤ (c.gFns.getD fn.toNat TFn.z).gSlots) && (c.gFns.getD fn.toNat TFn.z).gSlots == (c.gFns.getD fn.toNat TFn.z).gSlots && room (c.gFns.getD fn.toNat TFn.z).gSlots.toNat 8 then
 bif inB 0 (List.replicate (c.gFns.getD fn.toNat TFn.z).gIns.length (TShape.mk 0 [] [])).length then
 bif decide (0 ≤ ((c.gFns.getD fn.toNat TFn.z).gIns.length : Int)) && ((c.gFns.getD fn.toNat TFn.z).gIns.length : Int) == ((c.gFns.getD fn.toNat TFn.z).gIns.length : Int) && room (c.gFns.getD fn.toNat TFn.z).gIns.length 1 then
 I.shapes.l4088 ((List.replicate (c.gFns.getD fn.toNat TFn.z).gIns.length (TShape.mk 0 [] [])).set 0 (TShape.mk 1 (List.take 0 (List.replicate (c.gFns.getD fn.toNat TFn.z).gSlots.toNat (0 : Int)) ++ List.take ((List.replicate (c.gFns.getD fn.toNat TFn.z).gSlots.toNat (0 : Int)).length - 0) (c.gFns.getD fn.toNat TFn.z).gParams ++ List.drop (0 + min (c.gFns.getD fn.toNat TFn.z).gParams.length ((List.replicate (c.gFns.getD fn.toNat TFn.z).gSlots.toNat (0 : Int)).length - 0)) (List.replicate (c.gFns.getD fn.toNat TFn.z).gSlots.toNat (0 : Int))) [])) ([0]) (List.replicate (c.gFns.getD fn.toNat TFn.z).gIns.length false) c (c.gFns.getD fn.toNat TFn.z)
 else
 none
 else
 none
 else
 none
 else
 none
 else
 none :=
 (fnA_eq 47 _ rfl).trans (by kernel_rfl)
theorem I.shapes.l4088_eq (all : List TShape) (work : List Int) (on : List Bool) (c : TCode) (f : TFn) : I.shapes.l4088 all work on c f =
 bif decide ((work.length : Int) > 0) then
 bif inB (IntKind.i64.wrap ((work.length : Int) - 1)) work.length then
 bif inS 0 (IntKind.i64.wrap ((work.length : Int) - 1)) work.length then
 bif inB (work.getD (IntKind.i64.wrap ((work.length : Int) - 1)).toNat 0) on.length then
 bif inB (work.getD (IntKind.i64.wrap ((work.length : Int) - 1)).toNat 0) all.length then
 bif (all.getD (Int.toNat (work.getD (IntKind.i64.wrap ((work.length : Int) - 1)).toNat 0)) TShape.z).gState == 1 then
 bif inB (work.getD (IntKind.i64.wrap ((work.length : Int) - 1)).toNat 0) all.length then
 (I.effect c f (work.getD (IntKind.i64.wrap ((work.length : Int) - 1)).toNat 0) (all.getD (Int.toNat (work.getD (IntKind.i64.wrap ((work.length : Int) - 1)).toNat 0)) TShape.z)).bind fun r0 =>
 bif r0.snd then
 bif inB (work.getD (IntKind.i64.wrap ((work.length : Int) - 1)).toNat 0) f.gIns.length then
 (I.next (f.gIns.getD (Int.toNat (work.getD (IntKind.i64.wrap ((work.length : Int) - 1)).toNat 0)) TIns.z) (work.getD (IntKind.i64.wrap ((work.length : Int) - 1)).toNat 0)).bind fun r1 =>
 I.shapes.l4186876 all (List.take (IntKind.i64.wrap ((work.length : Int) - 1)).toNat work) (on.set (Int.toNat (work.getD (IntKind.i64.wrap ((work.length : Int) - 1)).toNat 0)) false) r1 ((List.length r1) : Int) 0 c f r0.fst
 else
 none
 else
 bif inB (work.getD (IntKind.i64.wrap ((work.length : Int) - 1)).toNat 0) f.gIns.length then
 (I.next (f.gIns.getD (Int.toNat (work.getD (IntKind.i64.wrap ((work.length : Int) - 1)).toNat 0)) TIns.z) (work.getD (IntKind.i64.wrap ((work.length : Int) - 1)).toNat 0)).bind fun r1 =>
 I.shapes.l4186876 all (List.take (IntKind.i64.wrap ((work.length : Int) - 1)).toNat work) (on.set (Int.toNat (work.getD (IntKind.i64.wrap ((work.length : Int) - 1)).toNat 0)) false) r1 ((List.length r1) : Int) 0 c f (⟨2, [], []⟩ : TShape)
 else
 none
 else
 none
 else
 bif inB (work.getD (IntKind.i64.wrap ((work.length : Int) - 1)).toNat 0) f.gIns.length then
 (I.next (f.gIns.getD (Int.toNat (work.getD (IntKind.i64.wrap ((work.length : Int) - 1)).toNat 0)) TIns.z) (work.getD (IntKind.i64.wrap ((work.length : Int) - 1)).toNat 0)).bind fun r0 =>
 I.shapes.l4186876 all (List.take (IntKind.i64.wrap ((work.length : Int) - 1)).toNat work) (on.set (Int.toNat (work.getD (IntKind.i64.wrap ((work.length : Int) - 1)).toNat 0)) false) r0 ((List.length r0) : Int) 0 c f (⟨2, [], []⟩ : TShape)
 else
 none
 else
 none
 else
 none
 else
 none
 else
 none
 else
 I.shapes.l32756 all (-1) all (all.length : Int) 0 c f :=
 (runA_eq 47 _ _).trans (by kernel_rfl)
theorem I.shapes.l4186876_eq (all : List TShape) (work : List Int) (on : List Bool) (t93 : List Int) (t94 : Int) (t95 : Int) (c : TCode) (f : TFn) (out : TShape) : I.shapes.l4186876 all work on t93 t94 t95 c f out =
 bif decide (t95 < t94) then
 bif inB t95 (List.length t93) then
 bif List.getD t93 t95.toNat 0 == (f.gIns.length : Int) then
 I.shapes.l4186876 all work on t93 t94 (IntKind.i64.wrap (t95 + 1)) c f out
 else
 bif inB (List.getD t93 t95.toNat 0) all.length then
 (I.join (all.getD (Int.toNat (List.getD t93 t95.toNat 0)) TShape.z) out).bind fun r0 =>
 bif r0.snd then
 bif inB (List.getD t93 t95.toNat 0) all.length then
 bif inB (List.getD t93 t95.toNat 0) on.length then
 bif !on.getD (Int.toNat (List.getD t93 t95.toNat 0)) false then
 bif inB (List.getD t93 t95.toNat 0) on.length then
 bif room (work.length + [List.getD t93 t95.toNat 0].length) 8 then
 I.shapes.l4186876 (all.set (Int.toNat (List.getD t93 t95.toNat 0)) (TShape.mk r0.fst.gState r0.fst.gSlots r0.fst.gStack)) (work ++ [List.getD t93 t95.toNat 0]) (on.set (Int.toNat (List.getD t93 t95.toNat 0)) true) t93 t94 (IntKind.i64.wrap (t95 + 1)) c f out
 else
 none
 else
 none
 else
 I.shapes.l4186876 (all.set (Int.toNat (List.getD t93 t95.toNat 0)) (TShape.mk r0.fst.gState r0.fst.gSlots r0.fst.gStack)) work on t93 t94 (IntKind.i64.wrap (t95 + 1)) c f out
 else
 none
 else
 none
 else
 I.shapes.l4186876 all work on t93 t94 (IntKind.i64.wrap (t95 + 1)) c f out
 else
 none
 else
 none
 else
 I.shapes.l4088 all work on c f :=
 (runA_eq 47 _ _).trans (by kernel_rfl)
theorem I.shapes.l32756_eq (all : List TShape) (bad : Int) (t131 : List TShape) (t132 : Int) (t133 : Int) (c : TCode) (f : TFn) : I.shapes.l32756 all bad t131 t132 t133 c f =
 bif decide (t133 < t132) then
 bif inB t133 t131.length then
 bif (t131.getD t133.toNat TShape.z).gState == 2 then
 some (some all, t133)
 else
 bif (t131.getD t133.toNat TShape.z).gState == 1 then
 (I.effect c f t133 (t131.getD t133.toNat TShape.z)).bind fun r0 =>
 bif !r0.snd then
 some (some all, t133)
 else
 I.shapes.l32756 all bad t131 t132 (IntKind.i64.wrap (t133 + 1)) c f
 else
 I.shapes.l32756 all bad t131 t132 (IntKind.i64.wrap (t133 + 1)) c f
 else
 none
 else
 some (some all, bad) :=
 (runA_eq 47 _ _).trans (by kernel_rfl)
noncomputable def I.CheckCode.l116 (t24 : Int) (t25 : Int) (c : TCode) : Option ((Int × (Int × Int))) := Y.runA 46 (fun ct c => at_ ct [true, true, false, true, false, false] c) ⟨[(1, .ad (.loc 1) 0), (24, .i IntKind.i64 t24), (25, .i IntKind.i64 t25)], [(1, cells 53 c)], [], [], []⟩
theorem I.CheckCode_eq (c : TCode) : I.CheckCode c =
 (I.checkParts c).bind fun r0 =>
 bif r0.fst != 0 then
 some (r0.fst, (r0.snd.fst, r0.snd.snd))
 else
 I.CheckCode.l116 (c.gFns.length : Int) 0 c :=
 (fnA_eq 46 _ rfl).trans (by kernel_rfl)
theorem I.CheckCode.l116_eq (t24 : Int) (t25 : Int) (c : TCode) : I.CheckCode.l116 t24 t25 c =
 bif decide (t25 < t24) then
 (I.shapes c t25).bind fun r0 =>
 bif decide (r0.snd ≥ 0) then
 some (5, (t25, r0.snd))
 else
 I.CheckCode.l116 t24 (IntKind.i64.wrap (t25 + 1)) c
 else
 some (0, (0, 0)) :=
 (runA_eq 46 _ _).trans (by kernel_rfl)
theorem I.validCode_eq (c : TCode) : I.validCode c =
 (I.CheckCode c).bind fun r0 =>
 some (r0.fst == 0) :=
 (fnA_eq 27 _ rfl).trans (by kernel_rfl)
noncomputable def I.frameFits.l116 (t36 : List TValue) (t37 : Int) (t38 : Int) (f : TFrame) (s : TShape) : Option Bool := Y.runA 48 (fun ct c => at_ ct [true, true, false, true, false, false] c) ⟨[(4, .ad (.loc 4) 0), (6, .ad (.loc 6) 0), (36, .fl 108 t36), (37, .i IntKind.i64 t37), (38, .i IntKind.i64 t38)], [(4, cells 78 f), (6, cells 96 s)], [], [], []⟩
noncomputable def I.frameFits.l244 (t71 : List TValue) (t72 : Int) (t73 : Int) (s : TShape) : Option Bool := Y.runA 48 (fun ct c => at_ ct [true, true, true, false, true, false, false] c) ⟨[(6, .ad (.loc 6) 0), (71, .fl 108 t71), (72, .i IntKind.i64 t72), (73, .i IntKind.i64 t73)], [(6, cells 96 s)], [], [], []⟩
theorem I.frameFits_eq (f : TFrame) (g : TFn) (s : TShape) (lacks : Int) : I.frameFits f g s lacks =
 bif s.gState != 1 then
 some false
 else
 bif (f.gSlots.length : Int) != g.gSlots then
 some false
 else
 bif (f.gStack.length : Int) != IntKind.i64.wrap ((s.gStack.length : Int) - lacks) then
 some false
 else
 I.frameFits.l116 f.gSlots (f.gSlots.length : Int) 0 f s :=
 (fnA_eq 48 _ rfl).trans (by kernel_rfl)
theorem I.frameFits.l116_eq (t36 : List TValue) (t37 : Int) (t38 : Int) (f : TFrame) (s : TShape) : I.frameFits.l116 t36 t37 t38 f s =
 bif decide (t38 < t37) then
 bif inB t38 t36.length then
 (I.ValidValue (t36.getD t38.toNat TValue.z)).bind fun r0 =>
 bif !r0 then
 bif !((t36.getD t38.toNat TValue.z).gType == 0 && ((t36.getD t38.toNat TValue.z).gN == 0 && ((t36.getD t38.toNat TValue.z).gText.toList == ((⟨#[]⟩ : ByteArray)).toList && true))) then
 some false
 else
 bif inB t38 s.gSlots.length then
 bif s.gSlots.getD t38.toNat 0 != 0 then
 bif inB t38 s.gSlots.length then
 bif (t36.getD t38.toNat TValue.z).gType != s.gSlots.getD t38.toNat 0 then
 some false
 else
 I.frameFits.l116 t36 t37 (IntKind.i64.wrap (t38 + 1)) f s
 else
 none
 else
 I.frameFits.l116 t36 t37 (IntKind.i64.wrap (t38 + 1)) f s
 else
 none
 else
 bif inB t38 s.gSlots.length then
 bif s.gSlots.getD t38.toNat 0 != 0 then
 bif inB t38 s.gSlots.length then
 bif (t36.getD t38.toNat TValue.z).gType != s.gSlots.getD t38.toNat 0 then
 some false
 else
 I.frameFits.l116 t36 t37 (IntKind.i64.wrap (t38 + 1)) f s
 else
 none
 else
 I.frameFits.l116 t36 t37 (IntKind.i64.wrap (t38 + 1)) f s
 else
 none
 else
 none
 else
 I.frameFits.l244 f.gStack (f.gStack.length : Int) 0 s :=
 (runA_eq 48 _ _).trans (by kernel_rfl)
theorem I.frameFits.l244_eq (t71 : List TValue) (t72 : Int) (t73 : Int) (s : TShape) : I.frameFits.l244 t71 t72 t73 s =
 bif decide (t73 < t72) then
 bif inB t73 t71.length then
 (I.ValidValue (t71.getD t73.toNat TValue.z)).bind fun r0 =>
 bif !r0 then
 some false
 else
 bif inB t73 s.gStack.length then
 bif (t71.getD t73.toNat TValue.z).gType != s.gStack.getD t73.toNat 0 then
 some false
 else
 I.frameFits.l244 t71 t72 (IntKind.i64.wrap (t73 + 1)) s
 else
 none
 else
 none
 else
 some true :=
 (runA_eq 48 _ _).trans (by kernel_rfl)
noncomputable def I.Machine_framesOk.l500 (n : Int) (known : List ((ByteArray × Option (List TShape)))) (t46 : List TFrame) (t47 : Int) (t48 : Int) (m : List TCode) (m_1 : List ByteArray) (m_2 : List ByteArray) (m_3 : List TFrame) (m_4 : Int) (m_5 : Int) (m_6 : Int) (m_7 : ByteArray) (m_8 : ByteArray) (m_9 : Bool) (m_10 : Int) (m_11 : ByteArray) (m_12 : List TFile) (m_13 : List ByteArray) : Option ((Bool × (List TCode × (List ByteArray × (List ByteArray × (List TFrame × (Int × (Int × (Int × (ByteArray × (ByteArray × (Bool × (Int × (ByteArray × (List TFile × List ByteArray))))))))))))))) := Y.runB 28 (fun ct c => at_ ct [true, true, true, true, false, true, false, false] c) ⟨[(0, .ad (.obj 0) 0), (3, .i IntKind.i64 n), (4, .mp 90 known), (46, .fl 78 t46), (47, .i IntKind.i64 t47), (48, .i IntKind.i64 t48)], [], [[.fl 53 m, .fl 9 m_1, .fl 9 m_2, .fl 78 m_3, .i IntKind.i64 m_4, .i IntKind.i64 m_5, .i IntKind.i64 m_6, .s m_7, .s m_8, .b m_9, .i IntKind.i64 m_10, .s m_11, .fl 49 m_12, .fl 9 m_13]], [], []⟩
noncomputable def I.Machine_framesOk.l64103 (n : Int) (known : List ((ByteArray × Option (List TShape)))) (i : Int) (before : Int) (t46 : List TFrame) (t47 : Int) (t48 : Int) (f : TFrame) (m : List TCode) (m_1 : List ByteArray) (m_2 : List ByteArray) (m_3 : List TFrame) (m_4 : Int) (m_5 : Int) (m_6 : Int) (m_7 : ByteArray) (m_8 : ByteArray) (m_9 : Bool) (m_10 : Int) (m_11 : ByteArray) (m_12 : List TFile) (m_13 : List ByteArray) : Option ((Bool × (List TCode × (List ByteArray × (List ByteArray × (List TFrame × (Int × (Int × (Int × (ByteArray × (ByteArray × (Bool × (Int × (ByteArray × (List TFile × List ByteArray))))))))))))))) := Y.runB 28 (fun ct c => at_ ct [true, true, true, true, false, true, false, false, true, true, false, false, true, true, true] c) ⟨[(0, .ad (.obj 0) 0), (3, .i IntKind.i64 n), (4, .mp 90 known), (5, .i IntKind.i64 i), (6, .ad (.loc 6) 0), (7, .i IntKind.i64 before), (46, .fl 78 t46), (47, .i IntKind.i64 t47), (48, .i IntKind.i64 t48)], [(6, cells 78 f)], [[.fl 53 m, .fl 9 m_1, .fl 9 m_2, .fl 78 m_3, .i IntKind.i64 m_4, .i IntKind.i64 m_5, .i IntKind.i64 m_6, .s m_7, .s m_8, .b m_9, .i IntKind.i64 m_10, .s m_11, .fl 49 m_12, .fl 9 m_13]], [], []⟩
noncomputable def I.Machine_framesOk.l8205311 (n : Int) (known : List ((ByteArray × Option (List TShape)))) (i : Int) (sh : Option (List TShape)) (t46 : List TFrame) (t47 : Int) (t48 : Int) (f : TFrame) (c : TCode) (g : TFn) (m : List TCode) (m_1 : List ByteArray) (m_2 : List ByteArray) (m_3 : List TFrame) (m_4 : Int) (m_5 : Int) (m_6 : Int) (m_7 : ByteArray) (m_8 : ByteArray) (m_9 : Bool) (m_10 : Int) (m_11 : ByteArray) (m_12 : List TFile) (m_13 : List ByteArray) : Option ((Bool × (List TCode × (List ByteArray × (List ByteArray × (List TFrame × (Int × (Int × (Int × (ByteArray × (ByteArray × (Bool × (Int × (ByteArray × (List TFile × List ByteArray))))))))))))))) := Y.runB 28 (fun ct c => at_ ct [true, true, true, true, false, true, false, false, true, true, false, false, true, true, true, true, true, true, true, true, true, true] c) ⟨[(0, .ad (.obj 0) 0), (3, .i IntKind.i64 n), (4, .mp 90 known), (5, .i IntKind.i64 i), (6, .ad (.loc 6) 0), (8, .ad (.loc 8) 0), (9, .ad (.loc 9) 0), (10, .fo 96 sh), (46, .fl 78 t46), (47, .i IntKind.i64 t47), (48, .i IntKind.i64 t48)], [(6, cells 78 f), (8, cells 53 c), (9, cells 89 g)], [[.fl 53 m, .fl 9 m_1, .fl 9 m_2, .fl 78 m_3, .i IntKind.i64 m_4, .i IntKind.i64 m_5, .i IntKind.i64 m_6, .s m_7, .s m_8, .b m_9, .i IntKind.i64 m_10, .s m_11, .fl 49 m_12, .fl 9 m_13]], [], []⟩
noncomputable def I.Machine_framesOk.l32821247 (n : Int) (known : List ((ByteArray × Option (List TShape)))) (sh : Option (List TShape)) (lacks : Int) (t46 : List TFrame) (t47 : Int) (t48 : Int) (f : TFrame) (g : TFn) (m : List TCode) (m_1 : List ByteArray) (m_2 : List ByteArray) (m_3 : List TFrame) (m_4 : Int) (m_5 : Int) (m_6 : Int) (m_7 : ByteArray) (m_8 : ByteArray) (m_9 : Bool) (m_10 : Int) (m_11 : ByteArray) (m_12 : List TFile) (m_13 : List ByteArray) : Option ((Bool × (List TCode × (List ByteArray × (List ByteArray × (List TFrame × (Int × (Int × (Int × (ByteArray × (ByteArray × (Bool × (Int × (ByteArray × (List TFile × List ByteArray))))))))))))))) := Y.runB 28 (fun ct c => at_ ct [true, true, true, true, false, true, false, false, true, true, false, false, true, true, true, true, true, true, true, true, true, true, true, true] c) ⟨[(0, .ad (.obj 0) 0), (3, .i IntKind.i64 n), (4, .mp 90 known), (6, .ad (.loc 6) 0), (9, .ad (.loc 9) 0), (10, .fo 96 sh), (11, .i IntKind.i64 lacks), (46, .fl 78 t46), (47, .i IntKind.i64 t47), (48, .i IntKind.i64 t48)], [(6, cells 78 f), (9, cells 89 g)], [[.fl 53 m, .fl 9 m_1, .fl 9 m_2, .fl 78 m_3, .i IntKind.i64 m_4, .i IntKind.i64 m_5, .i IntKind.i64 m_6, .s m_7, .s m_8, .b m_9, .i IntKind.i64 m_10, .s m_11, .fl 49 m_12, .fl 9 m_13]], [], []⟩
theorem I.Machine_framesOk_eq (m : (List TCode × (List ByteArray × (List ByteArray × (List TFrame × (Int × (Int × (Int × (ByteArray × (ByteArray × (Bool × (Int × (ByteArray × (List TFile × List ByteArray)))))))))))))) : I.Machine_framesOk m =
 bif decide ((m.snd.snd.snd.fst.length : Int) < 1) then
 some (false, (m.fst, (m.snd.fst, (m.snd.snd.fst, (m.snd.snd.snd.fst, (m.snd.snd.snd.snd.fst, (m.snd.snd.snd.snd.snd.fst, (m.snd.snd.snd.snd.snd.snd.fst, (m.snd.snd.snd.snd.snd.snd.snd.fst, (m.snd.snd.snd.snd.snd.snd.snd.snd.fst, (m.snd.snd.snd.snd.snd.snd.snd.snd.snd.fst, (m.snd.snd.snd.snd.snd.snd.snd.snd.snd.snd.fst, (m.snd.snd.snd.snd.snd.snd.snd.snd.snd.snd.snd.fst, (m.snd.snd.snd.snd.snd.snd.snd.snd.snd.snd.snd.snd.fst, m.snd.snd.snd.snd.snd.snd.snd.snd.snd.snd.snd.snd.snd))))))))))))))
 else
 bif decide ((m.snd.snd.snd.fst.length : Int) > 40) then
 some (false, (m.fst, (m.snd.fst, (m.snd.snd.fst, (m.snd.snd.snd.fst, (m.snd.snd.snd.snd.fst, (m.snd.snd.snd.snd.snd.fst, (m.snd.snd.snd.snd.snd.snd.fst, (m.snd.snd.snd.snd.snd.snd.snd.fst, (m.snd.snd.snd.snd.snd.snd.snd.snd.fst, (m.snd.snd.snd.snd.snd.snd.snd.snd.snd.fst, (m.snd.snd.snd.snd.snd.snd.snd.snd.snd.snd.fst, (m.snd.snd.snd.snd.snd.snd.snd.snd.snd.snd.snd.fst, (m.snd.snd.snd.snd.snd.snd.snd.snd.snd.snd.snd.snd.fst, m.snd.snd.snd.snd.snd.snd.snd.snd.snd.snd.snd.snd.snd))))))))))))))
 else
 bif inB (IntKind.i64.wrap ((m.snd.snd.snd.fst.length : Int) - 1)) m.snd.snd.snd.fst.length then
 bif (m.snd.snd.snd.fst.getD (IntKind.i64.wrap ((m.snd.snd.snd.fst.length : Int) - 1)).toNat TFrame.z).gCode != IntKind.i64.wrap ((m.fst.length : Int) - 1) then
 some (false, (m.fst, (m.snd.fst, (m.snd.snd.fst, (m.snd.snd.snd.fst, (m.snd.snd.snd.snd.fst, (m.snd.snd.snd.snd.snd.fst, (m.snd.snd.snd.snd.snd.snd.fst, (m.snd.snd.snd.snd.snd.snd.snd.fst, (m.snd.snd.snd.snd.snd.snd.snd.snd.fst, (m.snd.snd.snd.snd.snd.snd.snd.snd.snd.fst, (m.snd.snd.snd.snd.snd.snd.snd.snd.snd.snd.fst, (m.snd.snd.snd.snd.snd.snd.snd.snd.snd.snd.snd.fst, (m.snd.snd.snd.snd.snd.snd.snd.snd.snd.snd.snd.snd.fst, m.snd.snd.snd.snd.snd.snd.snd.snd.snd.snd.snd.snd.snd))))))))))))))
 else
 I.Machine_framesOk.l500 (m.snd.snd.snd.fst.length : Int) ([]) m.snd.snd.snd.fst (m.snd.snd.snd.fst.length : Int) 0 m.fst m.snd.fst m.snd.snd.fst m.snd.snd.snd.fst m.snd.snd.snd.snd.fst m.snd.snd.snd.snd.snd.fst m.snd.snd.snd.snd.snd.snd.fst m.snd.snd.snd.snd.snd.snd.snd.fst m.snd.snd.snd.snd.snd.snd.snd.snd.fst m.snd.snd.snd.snd.snd.snd.snd.snd.snd.fst m.snd.snd.snd.snd.snd.snd.snd.snd.snd.snd.fst m.snd.snd.snd.snd.snd.snd.snd.snd.snd.snd.snd.fst m.snd.snd.snd.snd.snd.snd.snd.snd.snd.snd.snd.snd.fst m.snd.snd.snd.snd.snd.snd.snd.snd.snd.snd.snd.snd.snd
 else
 none :=
 (fnB_eq 28 _ _ rfl).trans (by kernel_rfl)
theorem I.Machine_framesOk.l500_eq (n : Int) (known : List ((ByteArray × Option (List TShape)))) (t46 : List TFrame) (t47 : Int) (t48 : Int) (m : List TCode) (m_1 : List ByteArray) (m_2 : List ByteArray) (m_3 : List TFrame) (m_4 : Int) (m_5 : Int) (m_6 : Int) (m_7 : ByteArray) (m_8 : ByteArray) (m_9 : Bool) (m_10 : Int) (m_11 : ByteArray) (m_12 : List TFile) (m_13 : List ByteArray) : I.Machine_framesOk.l500 n known t46 t47 t48 m m_1 m_2 m_3 m_4 m_5 m_6 m_7 m_8 m_9 m_10 m_11 m_12 m_13 =
 bif decide (t48 < t47) then
 bif inB t48 t46.length then
 bif decide (t48 > 0) then
 bif inB (IntKind.i64.wrap (t48 - 1)) m_3.length then
 I.Machine_framesOk.l64103 n known t48 ((m_3.getD (IntKind.i64.wrap (t48 - 1)).toNat TFrame.z).gCode) t46 t47 t48 (t46.getD t48.toNat TFrame.z) m m_1 m_2 m_3 m_4 m_5 m_6 m_7 m_8 m_9 m_10 m_11 m_12 m_13
 else
 none
 else
 I.Machine_framesOk.l64103 n known t48 (-1) t46 t47 t48 (t46.getD t48.toNat TFrame.z) m m_1 m_2 m_3 m_4 m_5 m_6 m_7 m_8 m_9 m_10 m_11 m_12 m_13
 else
 none
 else
 some (true, (m, (m_1, (m_2, (m_3, (m_4, (m_5, (m_6, (m_7, (m_8, (m_9, (m_10, (m_11, (m_12, m_13)))))))))))))) :=
 (runB_eq 28 _ _).trans (by kernel_rfl)
theorem I.Machine_framesOk.l64103_eq (n : Int) (known : List ((ByteArray × Option (List TShape)))) (i : Int) (before : Int) (t46 : List TFrame) (t47 : Int) (t48 : Int) (f : TFrame) (m : List TCode) (m_1 : List ByteArray) (m_2 : List ByteArray) (m_3 : List TFrame) (m_4 : Int) (m_5 : Int) (m_6 : Int) (m_7 : ByteArray) (m_8 : ByteArray) (m_9 : Bool) (m_10 : Int) (m_11 : ByteArray) (m_12 : List TFile) (m_13 : List ByteArray) : I.Machine_framesOk.l64103 n known i before t46 t47 t48 f m m_1 m_2 m_3 m_4 m_5 m_6 m_7 m_8 m_9 m_10 m_11 m_12 m_13 =
 bif f.gCode != before then
 bif f.gCode != IntKind.i64.wrap (before + 1) then
 some (false, (m, (m_1, (m_2, (m_3, (m_4, (m_5, (m_6, (m_7, (m_8, (m_9, (m_10, (m_11, (m_12, m_13))))))))))))))
 else
 bif decide (f.gCode < 0) then
 some (false, (m, (m_1, (m_2, (m_3, (m_4, (m_5, (m_6, (m_7, (m_8, (m_9, (m_10, (m_11, (m_12, m_13))))))))))))))
 else
 bif decide (f.gCode ≥ (m.length : Int)) then
 some (false, (m, (m_1, (m_2, (m_3, (m_4, (m_5, (m_6, (m_7, (m_8, (m_9, (m_10, (m_11, (m_12, m_13))))))))))))))
 else
 bif inB f.gCode m.length then
 bif decide (f.gFn < 0) then
 some (false, (m, (m_1, (m_2, (m_3, (m_4, (m_5, (m_6, (m_7, (m_8, (m_9, (m_10, (m_11, (m_12, m_13))))))))))))))
 else
 bif decide (f.gFn ≥ ((m.getD f.gCode.toNat TCode.z).gFns.length : Int)) then
 some (false, (m, (m_1, (m_2, (m_3, (m_4, (m_5, (m_6, (m_7, (m_8, (m_9, (m_10, (m_11, (m_12, m_13))))))))))))))
 else
 bif f.gCode == IntKind.i64.wrap (before + 1) then
 bif inB f.gFn (m.getD f.gCode.toNat TCode.z).gFns.length then
 bif !bEq ((m.getD f.gCode.toNat TCode.z).gFns.getD f.gFn.toNat TFn.z).gName ((⟨#[109, 97, 105, 110]⟩ : ByteArray)) then
 some (false, (m, (m_1, (m_2, (m_3, (m_4, (m_5, (m_6, (m_7, (m_8, (m_9, (m_10, (m_11, (m_12, m_13))))))))))))))
 else
 bif inB f.gFn (m.getD f.gCode.toNat TCode.z).gFns.length then
 bif decide (f.gAt < 0) then
 some (false, (m, (m_1, (m_2, (m_3, (m_4, (m_5, (m_6, (m_7, (m_8, (m_9, (m_10, (m_11, (m_12, m_13))))))))))))))
 else
 bif decide (f.gAt ≥ (((m.getD f.gCode.toNat TCode.z).gFns.getD f.gFn.toNat TFn.z).gIns.length : Int)) then
 some (false, (m, (m_1, (m_2, (m_3, (m_4, (m_5, (m_6, (m_7, (m_8, (m_9, (m_10, (m_11, (m_12, m_13))))))))))))))
 else
 bif foC ((mget known (ik f.gCode f.gFn)).getD none) then
 bif Option.isNone ((mget known (ik f.gCode f.gFn)).getD none) then
 (I.shapes (m.getD f.gCode.toNat TCode.z) f.gFn).bind fun r0 =>
 I.Machine_framesOk.l8205311 n (mset known (ik f.gCode f.gFn) r0.fst) i r0.fst t46 t47 t48 f (m.getD f.gCode.toNat TCode.z) ((m.getD f.gCode.toNat TCode.z).gFns.getD f.gFn.toNat TFn.z) m m_1 m_2 m_3 m_4 m_5 m_6 m_7 m_8 m_9 m_10 m_11 m_12 m_13
 else
 I.Machine_framesOk.l8205311 n known i ((mget known (ik f.gCode f.gFn)).getD none) t46 t47 t48 f (m.getD f.gCode.toNat TCode.z) ((m.getD f.gCode.toNat TCode.z).gFns.getD f.gFn.toNat TFn.z) m m_1 m_2 m_3 m_4 m_5 m_6 m_7 m_8 m_9 m_10 m_11 m_12 m_13
 else
 none
 else
 none
 else
 none
 else
 bif inB f.gFn (m.getD f.gCode.toNat TCode.z).gFns.length then
 bif decide (f.gAt < 0) then
 some (false, (m, (m_1, (m_2, (m_3, (m_4, (m_5, (m_6, (m_7, (m_8, (m_9, (m_10, (m_11, (m_12, m_13))))))))))))))
 else
 bif decide (f.gAt ≥ (((m.getD f.gCode.toNat TCode.z).gFns.getD f.gFn.toNat TFn.z).gIns.length : Int)) then
 some (false, (m, (m_1, (m_2, (m_3, (m_4, (m_5, (m_6, (m_7, (m_8, (m_9, (m_10, (m_11, (m_12, m_13))))))))))))))
 else
 bif foC ((mget known (ik f.gCode f.gFn)).getD none) then
 bif Option.isNone ((mget known (ik f.gCode f.gFn)).getD none) then
 (I.shapes (m.getD f.gCode.toNat TCode.z) f.gFn).bind fun r0 =>
 I.Machine_framesOk.l8205311 n (mset known (ik f.gCode f.gFn) r0.fst) i r0.fst t46 t47 t48 f (m.getD f.gCode.toNat TCode.z) ((m.getD f.gCode.toNat TCode.z).gFns.getD f.gFn.toNat TFn.z) m m_1 m_2 m_3 m_4 m_5 m_6 m_7 m_8 m_9 m_10 m_11 m_12 m_13
 else
 I.Machine_framesOk.l8205311 n known i ((mget known (ik f.gCode f.gFn)).getD none) t46 t47 t48 f (m.getD f.gCode.toNat TCode.z) ((m.getD f.gCode.toNat TCode.z).gFns.getD f.gFn.toNat TFn.z) m m_1 m_2 m_3 m_4 m_5 m_6 m_7 m_8 m_9 m_10 m_11 m_12 m_13
 else
 none
 else
 none
 else
 none
 else
 bif decide (f.gCode < 0) then
 some (false, (m, (m_1, (m_2, (m_3, (m_4, (m_5, (m_6, (m_7, (m_8, (m_9, (m_10, (m_11, (m_12, m_13))))))))))))))
 else
 bif decide (f.gCode ≥ (m.length : Int)) then
 some (false, (m, (m_1, (m_2, (m_3, (m_4, (m_5, (m_6, (m_7, (m_8, (m_9, (m_10, (m_11, (m_12, m_13))))))))))))))
 else
 bif inB f.gCode m.length then
 bif decide (f.gFn < 0) then
 some (false, (m, (m_1, (m_2, (m_3, (m_4, (m_5, (m_6, (m_7, (m_8, (m_9, (m_10, (m_11, (m_12, m_13))))))))))))))
 else
 bif decide (f.gFn ≥ ((m.getD f.gCode.toNat TCode.z).gFns.length : Int)) then
 some (false, (m, (m_1, (m_2, (m_3, (m_4, (m_5, (m_6, (m_7, (m_8, (m_9, (m_10, (m_11, (m_12, m_13))))))))))))))
 else
 bif f.gCode == IntKind.i64.wrap (before + 1) then
 bif inB f.gFn (m.getD f.gCode.toNat TCode.z).gFns.length then
 bif !bEq ((m.getD f.gCode.toNat TCode.z).gFns.getD f.gFn.toNat TFn.z).gName ((⟨#[109, 97, 105, 110]⟩ : ByteArray)) then
 some (false, (m, (m_1, (m_2, (m_3, (m_4, (m_5, (m_6, (m_7, (m_8, (m_9, (m_10, (m_11, (m_12, m_13))))))))))))))
 else
 bif inB f.gFn (m.getD f.gCode.toNat TCode.z).gFns.length then
 bif decide (f.gAt < 0) then
 some (false, (m, (m_1, (m_2, (m_3, (m_4, (m_5, (m_6, (m_7, (m_8, (m_9, (m_10, (m_11, (m_12, m_13))))))))))))))
 else
 bif decide (f.gAt ≥ (((m.getD f.gCode.toNat TCode.z).gFns.getD f.gFn.toNat TFn.z).gIns.length : Int)) then
 some (false, (m, (m_1, (m_2, (m_3, (m_4, (m_5, (m_6, (m_7, (m_8, (m_9, (m_10, (m_11, (m_12, m_13))))))))))))))
 else
 bif foC ((mget known (ik f.gCode f.gFn)).getD none) then
 bif Option.isNone ((mget known (ik f.gCode f.gFn)).getD none) then
 (I.shapes (m.getD f.gCode.toNat TCode.z) f.gFn).bind fun r0 =>
 I.Machine_framesOk.l8205311 n (mset known (ik f.gCode f.gFn) r0.fst) i r0.fst t46 t47 t48 f (m.getD f.gCode.toNat TCode.z) ((m.getD f.gCode.toNat TCode.z).gFns.getD f.gFn.toNat TFn.z) m m_1 m_2 m_3 m_4 m_5 m_6 m_7 m_8 m_9 m_10 m_11 m_12 m_13
 else
 I.Machine_framesOk.l8205311 n known i ((mget known (ik f.gCode f.gFn)).getD none) t46 t47 t48 f (m.getD f.gCode.toNat TCode.z) ((m.getD f.gCode.toNat TCode.z).gFns.getD f.gFn.toNat TFn.z) m m_1 m_2 m_3 m_4 m_5 m_6 m_7 m_8 m_9 m_10 m_11 m_12 m_13
 else
 none
 else
 none
 else
 none
 else
 bif inB f.gFn (m.getD f.gCode.toNat TCode.z).gFns.length then
 bif decide (f.gAt < 0) then
 some (false, (m, (m_1, (m_2, (m_3, (m_4, (m_5, (m_6, (m_7, (m_8, (m_9, (m_10, (m_11, (m_12, m_13))))))))))))))
 else
 bif decide (f.gAt ≥ (((m.getD f.gCode.toNat TCode.z).gFns.getD f.gFn.toNat TFn.z).gIns.length : Int)) then
 some (false, (m, (m_1, (m_2, (m_3, (m_4, (m_5, (m_6, (m_7, (m_8, (m_9, (m_10, (m_11, (m_12, m_13))))))))))))))
 else
 bif foC ((mget known (ik f.gCode f.gFn)).getD none) then
 bif Option.isNone ((mget known (ik f.gCode f.gFn)).getD none) then
 (I.shapes (m.getD f.gCode.toNat TCode.z) f.gFn).bind fun r0 =>
 I.Machine_framesOk.l8205311 n (mset known (ik f.gCode f.gFn) r0.fst) i r0.fst t46 t47 t48 f (m.getD f.gCode.toNat TCode.z) ((m.getD f.gCode.toNat TCode.z).gFns.getD f.gFn.toNat TFn.z) m m_1 m_2 m_3 m_4 m_5 m_6 m_7 m_8 m_9 m_10 m_11 m_12 m_13
 else
 I.Machine_framesOk.l8205311 n known i ((mget known (ik f.gCode f.gFn)).getD none) t46 t47 t48 f (m.getD f.gCode.toNat TCode.z) ((m.getD f.gCode.toNat TCode.z).gFns.getD f.gFn.toNat TFn.z) m m_1 m_2 m_3 m_4 m_5 m_6 m_7 m_8 m_9 m_10 m_11 m_12 m_13
 else
 none
 else
 none
 else
 none :=
 (runB_eq 28 _ _).trans (by kernel_rfl)
theorem I.Machine_framesOk.l8205311_eq (n : Int) (known : List ((ByteArray × Option (List TShape)))) (i : Int) (sh : Option (List TShape)) (t46 : List TFrame) (t47 : Int) (t48 : Int) (f : TFrame) (c : TCode) (g : TFn) (m : List TCode) (m_1 : List ByteArray) (m_2 : List ByteArray) (m_3 : List TFrame) (m_4 : Int) (m_5 : Int) (m_6 : Int) (m_7 : ByteArray) (m_8 : ByteArray) (m_9 : Bool) (m_10 : Int) (m_11 : ByteArray) (m_12 : List TFile) (m_13 : List ByteArray) : I.Machine_framesOk.l8205311 n known i sh t46 t47 t48 f c g m m_1 m_2 m_3 m_4 m_5 m_6 m_7 m_8 m_9 m_10 m_11 m_12 m_13 =
 bif decide (i < IntKind.i64.wrap (n - 1)) then
 bif f.gAt == 0 then
 some (false, (m, (m_1, (m_2, (m_3, (m_4, (m_5, (m_6, (m_7, (m_8, (m_9, (m_10, (m_11, (m_12, m_13))))))))))))))
 else
 bif inB (IntKind.i64.wrap (f.gAt - 1)) (Option.getD sh []).length then
 bif ((Option.getD sh []).getD (IntKind.i64.wrap (f.gAt - 1)).toNat TShape.z).gState != 1 then
 some (false, (m, (m_1, (m_2, (m_3, (m_4, (m_5, (m_6, (m_7, (m_8, (m_9, (m_10, (m_11, (m_12, m_13))))))))))))))
 else
 bif inB (IntKind.i64.wrap (f.gAt - 1)) g.gIns.length then
 bif decide (i < IntKind.i64.wrap (n - 1)) then
 bif inB (IntKind.i64.wrap (i + 1)) m_3.length then
 bif (m_3.getD (IntKind.i64.wrap (i + 1)).toNat TFrame.z).gCode == f.gCode then
 bif (g.gIns.getD (IntKind.i64.wrap (f.gAt - 1)).toNat TIns.z).gOp != 9 then
 some (false, (m, (m_1, (m_2, (m_3, (m_4, (m_5, (m_6, (m_7, (m_8, (m_9, (m_10, (m_11, (m_12, m_13))))))))))))))
 else
 bif inB (IntKind.i64.wrap (i + 1)) m_3.length then
 bif (g.gIns.getD (IntKind.i64.wrap (f.gAt - 1)).toNat TIns.z).gA != (m_3.getD (IntKind.i64.wrap (i + 1)).toNat TFrame.z).gFn then
 some (false, (m, (m_1, (m_2, (m_3, (m_4, (m_5, (m_6, (m_7, (m_8, (m_9, (m_10, (m_11, (m_12, m_13))))))))))))))
 else
 bif inB (g.gIns.getD (IntKind.i64.wrap (f.gAt - 1)).toNat TIns.z).gA c.gFns.length then
 bif (c.gFns.getD (g.gIns.getD (IntKind.i64.wrap (f.gAt - 1)).toNat TIns.z).gA.toNat TFn.z).gResult == 0 then
 I.Machine_framesOk.l32821247 n known sh 0 t46 t47 t48 f g m m_1 m_2 m_3 m_4 m_5 m_6 m_7 m_8 m_9 m_10 m_11 m_12 m_13
 else
 I.Machine_framesOk.l32821247 n known sh 1 t46 t47 t48 f g m m_1 m_2 m_3 m_4 m_5 m_6 m_7 m_8 m_9 m_10 m_11 m_12 m_13
 else
 none
 else
 none
 else
 bif decide (i < IntKind.i64.wrap (n - 1)) then
 bif (g.gIns.getD (IntKind.i64.wrap (f.gAt - 1)).toNat TIns.z).gOp != 8 then
 some (false, (m, (m_1, (m_2, (m_3, (m_4, (m_5, (m_6, (m_7, (m_8, (m_9, (m_10, (m_11, (m_12, m_13))))))))))))))
 else
 bif (g.gIns.getD (IntKind.i64.wrap (f.gAt - 1)).toNat TIns.z).gA != 4 then
 some (false, (m, (m_1, (m_2, (m_3, (m_4, (m_5, (m_6, (m_7, (m_8, (m_9, (m_10, (m_11, (m_12, m_13))))))))))))))
 else
 I.Machine_framesOk.l32821247 n known sh 1 t46 t47 t48 f g m m_1 m_2 m_3 m_4 m_5 m_6 m_7 m_8 m_9 m_10 m_11 m_12 m_13
 else
 bif (g.gIns.getD (IntKind.i64.wrap (f.gAt - 1)).toNat TIns.z).gOp != 8 then
 some (false, (m, (m_1, (m_2, (m_3, (m_4, (m_5, (m_6, (m_7, (m_8, (m_9, (m_10, (m_11, (m_12, m_13))))))))))))))
 else
 bif (g.gIns.getD (IntKind.i64.wrap (f.gAt - 1)).toNat TIns.z).gA != m_6 then
 some (false, (m, (m_1, (m_2, (m_3, (m_4, (m_5, (m_6, (m_7, (m_8, (m_9, (m_10, (m_11, (m_12, m_13))))))))))))))
 else
 I.Machine_framesOk.l32821247 n known sh 1 t46 t47 t48 f g m m_1 m_2 m_3 m_4 m_5 m_6 m_7 m_8 m_9 m_10 m_11 m_12 m_13
 else
 none
 else
 bif decide (i < IntKind.i64.wrap (n - 1)) then
 bif (g.gIns.getD (IntKind.i64.wrap (f.gAt - 1)).toNat TIns.z).gOp != 8 then
 some (false, (m, (m_1, (m_2, (m_3, (m_4, (m_5, (m_6, (m_7, (m_8, (m_9, (m_10, (m_11, (m_12, m_13))))))))))))))
 else
 bif (g.gIns.getD (IntKind.i64.wrap (f.gAt - 1)).toNat TIns.z).gA != 4 then
 some (false, (m, (m_1, (m_2, (m_3, (m_4, (m_5, (m_6, (m_7, (m_8, (m_9, (m_10, (m_11, (m_12, m_13))))))))))))))
 else
 I.Machine_framesOk.l32821247 n known sh 1 t46 t47 t48 f g m m_1 m_2 m_3 m_4 m_5 m_6 m_7 m_8 m_9 m_10 m_11 m_12 m_13
 else
 bif (g.gIns.getD (IntKind.i64.wrap (f.gAt - 1)).toNat TIns.z).gOp != 8 then
 some (false, (m, (m_1, (m_2, (m_3, (m_4, (m_5, (m_6, (m_7, (m_8, (m_9, (m_10, (m_11, (m_12, m_13))))))))))))))
 else
 bif (g.gIns.getD (IntKind.i64.wrap (f.gAt - 1)).toNat TIns.z).gA != m_6 then
 some (false, (m, (m_1, (m_2, (m_3, (m_4, (m_5, (m_6, (m_7, (m_8, (m_9, (m_10, (m_11, (m_12, m_13))))))))))))))
 else
 I.Machine_framesOk.l32821247 n known sh 1 t46 t47 t48 f g m m_1 m_2 m_3 m_4 m_5 m_6 m_7 m_8 m_9 m_10 m_11 m_12 m_13
 else
 none
 else
 none
 else
 bif m_6 != 0 then
 bif f.gAt == 0 then
 some (false, (m, (m_1, (m_2, (m_3, (m_4, (m_5, (m_6, (m_7, (m_8, (m_9, (m_10, (m_11, (m_12, m_13))))))))))))))
 else
 bif inB (IntKind.i64.wrap (f.gAt - 1)) (Option.getD sh []).length then
 bif ((Option.getD sh []).getD (IntKind.i64.wrap (f.gAt - 1)).toNat TShape.z).gState != 1 then
 some (false, (m, (m_1, (m_2, (m_3, (m_4, (m_5, (m_6, (m_7, (m_8, (m_9, (m_10, (m_11, (m_12, m_13))))))))))))))
 else
 bif inB (IntKind.i64.wrap (f.gAt - 1)) g.gIns.length then
 bif decide (i < IntKind.i64.wrap (n - 1)) then
 bif inB (IntKind.i64.wrap (i + 1)) m_3.length then
 bif (m_3.getD (IntKind.i64.wrap (i + 1)).toNat TFrame.z).gCode == f.gCode then
 bif (g.gIns.getD (IntKind.i64.wrap (f.gAt - 1)).toNat TIns.z).gOp != 9 then
 some (false, (m, (m_1, (m_2, (m_3, (m_4, (m_5, (m_6, (m_7, (m_8, (m_9, (m_10, (m_11, (m_12, m_13))))))))))))))
 else
 bif inB (IntKind.i64.wrap (i + 1)) m_3.length then
 bif (g.gIns.getD (IntKind.i64.wrap (f.gAt - 1)).toNat TIns.z).gA != (m_3.getD (IntKind.i64.wrap (i + 1)).toNat TFrame.z).gFn then
 some (false, (m, (m_1, (m_2, (m_3, (m_4, (m_5, (m_6, (m_7, (m_8, (m_9, (m_10, (m_11, (m_12, m_13))))))))))))))
 else
 bif inB (g.gIns.getD (IntKind.i64.wrap (f.gAt - 1)).toNat TIns.z).gA c.gFns.length then
 bif (c.gFns.getD (g.gIns.getD (IntKind.i64.wrap (f.gAt - 1)).toNat TIns.z).gA.toNat TFn.z).gResult == 0 then
 I.Machine_framesOk.l32821247 n known sh 0 t46 t47 t48 f g m m_1 m_2 m_3 m_4 m_5 m_6 m_7 m_8 m_9 m_10 m_11 m_12 m_13
 else
 I.Machine_framesOk.l32821247 n known sh 1 t46 t47 t48 f g m m_1 m_2 m_3 m_4 m_5 m_6 m_7 m_8 m_9 m_10 m_11 m_12 m_13
 else
 none
 else
 none
 else
 bif decide (i < IntKind.i64.wrap (n - 1)) then
 bif (g.gIns.getD (IntKind.i64.wrap (f.gAt - 1)).toNat TIns.z).gOp != 8 then
 some (false, (m, (m_1, (m_2, (m_3, (m_4, (m_5, (m_6, (m_7, (m_8, (m_9, (m_10, (m_11, (m_12, m_13))))))))))))))
 else
 bif (g.gIns.getD (IntKind.i64.wrap (f.gAt - 1)).toNat TIns.z).gA != 4 then
 some (false, (m, (m_1, (m_2, (m_3, (m_4, (m_5, (m_6, (m_7, (m_8, (m_9, (m_10, (m_11, (m_12, m_13))))))))))))))
 else
 I.Machine_framesOk.l32821247 n known sh 1 t46 t47 t48 f g m m_1 m_2 m_3 m_4 m_5 m_6 m_7 m_8 m_9 m_10 m_11 m_12 m_13
 else
 bif (g.gIns.getD (IntKind.i64.wrap (f.gAt - 1)).toNat TIns.z).gOp != 8 then
 some (false, (m, (m_1, (m_2, (m_3, (m_4, (m_5, (m_6, (m_7, (m_8, (m_9, (m_10, (m_11, (m_12, m_13))))))))))))))
 else
 bif (g.gIns.getD (IntKind.i64.wrap (f.gAt - 1)).toNat TIns.z).gA != m_6 then
 some (false, (m, (m_1, (m_2, (m_3, (m_4, (m_5, (m_6, (m_7, (m_8, (m_9, (m_10, (m_11, (m_12, m_13))))))))))))))
 else
 I.Machine_framesOk.l32821247 n known sh 1 t46 t47 t48 f g m m_1 m_2 m_3 m_4 m_5 m_6 m_7 m_8 m_9 m_10 m_11 m_12 m_13
 else
 none
 else
 bif decide (i < IntKind.i64.wrap (n - 1)) then
 bif (g.gIns.getD (IntKind.i64.wrap (f.gAt - 1)).toNat TIns.z).gOp != 8 then
 some (false, (m, (m_1, (m_2, (m_3, (m_4, (m_5, (m_6, (m_7, (m_8, (m_9, (m_10, (m_11, (m_12, m_13))))))))))))))
 else
 bif (g.gIns.getD (IntKind.i64.wrap (f.gAt - 1)).toNat TIns.z).gA != 4 then
 some (false, (m, (m_1, (m_2, (m_3, (m_4, (m_5, (m_6, (m_7, (m_8, (m_9, (m_10, (m_11, (m_12, m_13))))))))))))))
 else
 I.Machine_framesOk.l32821247 n known sh 1 t46 t47 t48 f g m m_1 m_2 m_3 m_4 m_5 m_6 m_7 m_8 m_9 m_10 m_11 m_12 m_13
 else
 bif (g.gIns.getD (IntKind.i64.wrap (f.gAt - 1)).toNat TIns.z).gOp != 8 then
 some (false, (m, (m_1, (m_2, (m_3, (m_4, (m_5, (m_6, (m_7, (m_8, (m_9, (m_10, (m_11, (m_12, m_13))))))))))))))
 else
 bif (g.gIns.getD (IntKind.i64.wrap (f.gAt - 1)).toNat TIns.z).gA != m_6 then
 some (false, (m, (m_1, (m_2, (m_3, (m_4, (m_5, (m_6, (m_7, (m_8, (m_9, (m_10, (m_11, (m_12, m_13))))))))))))))
 else
 I.Machine_framesOk.l32821247 n known sh 1 t46 t47 t48 f g m m_1 m_2 m_3 m_4 m_5 m_6 m_7 m_8 m_9 m_10 m_11 m_12 m_13
 else
 none
 else
 none
 else
 I.Machine_framesOk.l32821247 n known sh 0 t46 t47 t48 f g m m_1 m_2 m_3 m_4 m_5 m_6 m_7 m_8 m_9 m_10 m_11 m_12 m_13 :=
 (runB_eq 28 _ _).trans (by kernel_rfl)
theorem I.Machine_framesOk.l32821247_eq (n : Int) (known : List ((ByteArray × Option (List TShape)))) (sh : Option (List TShape)) (lacks : Int) (t46 : List TFrame) (t47 : Int) (t48 : Int) (f : TFrame) (g : TFn) (m : List TCode) (m_1 : List ByteArray) (m_2 : List ByteArray) (m_3 : List TFrame) (m_4 : Int) (m_5 : Int) (m_6 : Int) (m_7 : ByteArray) (m_8 : ByteArray) (m_9 : Bool) (m_10 : Int) (m_11 : ByteArray) (m_12 : List TFile) (m_13 : List ByteArray) : I.Machine_framesOk.l32821247 n known sh lacks t46 t47 t48 f g m m_1 m_2 m_3 m_4 m_5 m_6 m_7 m_8 m_9 m_10 m_11 m_12 m_13 =
 bif inB f.gAt (Option.getD sh []).length then
 (I.frameFits f g ((Option.getD sh []).getD f.gAt.toNat TShape.z) lacks).bind fun r0 =>
 bif !r0 then
 some (false, (m, (m_1, (m_2, (m_3, (m_4, (m_5, (m_6, (m_7, (m_8, (m_9, (m_10, (m_11, (m_12, m_13))))))))))))))
 else
 I.Machine_framesOk.l500 n known t46 t47 (IntKind.i64.wrap (t48 + 1)) m m_1 m_2 m_3 m_4 m_5 m_6 m_7 m_8 m_9 m_10 m_11 m_12 m_13
 else
 none :=
 (runB_eq 28 _ _).trans (by kernel_rfl)
noncomputable def I.Machine_waitOk.l215 (t6 : Int) (t21 : Bool) (m : List TCode) (m_1 : List ByteArray) (m_2 : List ByteArray) (m_3 : List TFrame) (m_4 : Int) (m_5 : Int) (m_6 : Int) (m_7 : ByteArray) (m_8 : ByteArray) (m_9 : Bool) (m_10 : Int) (m_11 : ByteArray) (m_12 : List TFile) (m_13 : List ByteArray) : Option ((Bool × (List TCode × (List ByteArray × (List ByteArray × (List TFrame × (Int × (Int × (Int × (ByteArray × (ByteArray × (Bool × (Int × (ByteArray × (List TFile × List ByteArray))))))))))))))) := Y.runB 29 (fun ct c => at_ ct [true, false, true, false, true, true, true] c) ⟨[(0, .ad (.obj 0) 0), (6, .i IntKind.i64 t6), (21, .b t21)], [], [[.fl 53 m, .fl 9 m_1, .fl 9 m_2, .fl 78 m_3, .i IntKind.i64 m_4, .i IntKind.i64 m_5, .i IntKind.i64 m_6, .s m_7, .s m_8, .b m_9, .i IntKind.i64 m_10, .s m_11, .fl 49 m_12, .fl 9 m_13]], [], []⟩
theorem I.Machine_waitOk_eq (m : (List TCode × (List ByteArray × (List ByteArray × (List TFrame × (Int × (Int × (Int × (ByteArray × (ByteArray × (Bool × (Int × (ByteArray × (List TFile × List ByteArray)))))))))))))) : I.Machine_waitOk m =
 bif m.snd.snd.snd.snd.snd.snd.fst == 0 then
 bif bEq m.snd.snd.snd.snd.snd.snd.snd.fst ((⟨#[]⟩ : ByteArray)) then
 some (bEq m.snd.snd.snd.snd.snd.snd.snd.snd.fst ((⟨#[]⟩ : ByteArray)), (m.fst, (m.snd.fst, (m.snd.snd.fst, (m.snd.snd.snd.fst, (m.snd.snd.snd.snd.fst, (m.snd.snd.snd.snd.snd.fst, (m.snd.snd.snd.snd.snd.snd.fst, (m.snd.snd.snd.snd.snd.snd.snd.fst, (m.snd.snd.snd.snd.snd.snd.snd.snd.fst, (m.snd.snd.snd.snd.snd.snd.snd.snd.snd.fst, (m.snd.snd.snd.snd.snd.snd.snd.snd.snd.snd.fst, (m.snd.snd.snd.snd.snd.snd.snd.snd.snd.snd.snd.fst, (m.snd.snd.snd.snd.snd.snd.snd.snd.snd.snd.snd.snd.fst, m.snd.snd.snd.snd.snd.snd.snd.snd.snd.snd.snd.snd.snd))))))))))))))
 else
 some (false, (m.fst, (m.snd.fst, (m.snd.snd.fst, (m.snd.snd.snd.fst, (m.snd.snd.snd.snd.fst, (m.snd.snd.snd.snd.snd.fst, (m.snd.snd.snd.snd.snd.snd.fst, (m.snd.snd.snd.snd.snd.snd.snd.fst, (m.snd.snd.snd.snd.snd.snd.snd.snd.fst, (m.snd.snd.snd.snd.snd.snd.snd.snd.snd.fst, (m.snd.snd.snd.snd.snd.snd.snd.snd.snd.snd.fst, (m.snd.snd.snd.snd.snd.snd.snd.snd.snd.snd.snd.fst, (m.snd.snd.snd.snd.snd.snd.snd.snd.snd.snd.snd.snd.fst, m.snd.snd.snd.snd.snd.snd.snd.snd.snd.snd.snd.snd.snd))))))))))))))
 else
 bif m.snd.snd.snd.snd.snd.snd.fst == 1 then
 I.Machine_waitOk.l215 m.snd.snd.snd.snd.snd.snd.fst (m.snd.snd.snd.snd.snd.snd.fst == 1) m.fst m.snd.fst m.snd.snd.fst m.snd.snd.snd.fst m.snd.snd.snd.snd.fst m.snd.snd.snd.snd.snd.fst m.snd.snd.snd.snd.snd.snd.fst m.snd.snd.snd.snd.snd.snd.snd.fst m.snd.snd.snd.snd.snd.snd.snd.snd.fst m.snd.snd.snd.snd.snd.snd.snd.snd.snd.fst m.snd.snd.snd.snd.snd.snd.snd.snd.snd.snd.fst m.snd.snd.snd.snd.snd.snd.snd.snd.snd.snd.snd.fst m.snd.snd.snd.snd.snd.snd.snd.snd.snd.snd.snd.snd.fst m.snd.snd.snd.snd.snd.snd.snd.snd.snd.snd.snd.snd.snd
 else
 bif m.snd.snd.snd.snd.snd.snd.fst == 2 then
 I.Machine_waitOk.l215 m.snd.snd.snd.snd.snd.snd.fst (m.snd.snd.snd.snd.snd.snd.fst == 2) m.fst m.snd.fst m.snd.snd.fst m.snd.snd.snd.fst m.snd.snd.snd.snd.fst m.snd.snd.snd.snd.snd.fst m.snd.snd.snd.snd.snd.snd.fst m.snd.snd.snd.snd.snd.snd.snd.fst m.snd.snd.snd.snd.snd.snd.snd.snd.fst m.snd.snd.snd.snd.snd.snd.snd.snd.snd.fst m.snd.snd.snd.snd.snd.snd.snd.snd.snd.snd.fst m.snd.snd.snd.snd.snd.snd.snd.snd.snd.snd.snd.fst m.snd.snd.snd.snd.snd.snd.snd.snd.snd.snd.snd.snd.fst m.snd.snd.snd.snd.snd.snd.snd.snd.snd.snd.snd.snd.snd
 else
 I.Machine_waitOk.l215 m.snd.snd.snd.snd.snd.snd.fst (m.snd.snd.snd.snd.snd.snd.fst == 4) m.fst m.snd.fst m.snd.snd.fst m.snd.snd.snd.fst m.snd.snd.snd.snd.fst m.snd.snd.snd.snd.snd.fst m.snd.snd.snd.snd.snd.snd.fst m.snd.snd.snd.snd.snd.snd.snd.fst m.snd.snd.snd.snd.snd.snd.snd.snd.fst m.snd.snd.snd.snd.snd.snd.snd.snd.snd.fst m.snd.snd.snd.snd.snd.snd.snd.snd.snd.snd.fst m.snd.snd.snd.snd.snd.snd.snd.snd.snd.snd.snd.fst m.snd.snd.snd.snd.snd.snd.snd.snd.snd.snd.snd.snd.fst m.snd.snd.snd.snd.snd.snd.snd.snd.snd.snd.snd.snd.snd :=
 (fnB_eq 29 _ _ rfl).trans (by kernel_rfl)
theorem I.Machine_waitOk.l215_eq (t6 : Int) (t21 : Bool) (m : List TCode) (m_1 : List ByteArray) (m_2 : List ByteArray) (m_3 : List TFrame) (m_4 : Int) (m_5 : Int) (m_6 : Int) (m_7 : ByteArray) (m_8 : ByteArray) (m_9 : Bool) (m_10 : Int) (m_11 : ByteArray) (m_12 : List TFile) (m_13 : List ByteArray) : I.Machine_waitOk.l215 t6 t21 m m_1 m_2 m_3 m_4 m_5 m_6 m_7 m_8 m_9 m_10 m_11 m_12 m_13 =
 bif t21 then
 (I.fileName m_7).bind fun r0 =>
 bif !r0 then
 some (false, (m, (m_1, (m_2, (m_3, (m_4, (m_5, (m_6, (m_7, (m_8, (m_9, (m_10, (m_11, (m_12, m_13))))))))))))))
 else
 bif decide ((m_8.size : Int) ≤ 3000) then
 bif bEq m_8 ((⟨#[]⟩ : ByteArray)) then
 some (decide (m_5 ≥ 1), (m, (m_1, (m_2, (m_3, (m_4, (m_5, (m_6, (m_7, (m_8, (m_9, (m_10, (m_11, (m_12, m_13))))))))))))))
 else
 bif m_6 == 4 then
 some (decide (m_5 ≥ 1), (m, (m_1, (m_2, (m_3, (m_4, (m_5, (m_6, (m_7, (m_8, (m_9, (m_10, (m_11, (m_12, m_13))))))))))))))
 else
 some (false, (m, (m_1, (m_2, (m_3, (m_4, (m_5, (m_6, (m_7, (m_8, (m_9, (m_10, (m_11, (m_12, m_13))))))))))))))
 else
 some (false, (m, (m_1, (m_2, (m_3, (m_4, (m_5, (m_6, (m_7, (m_8, (m_9, (m_10, (m_11, (m_12, m_13))))))))))))))
 else
 bif t6 == 3 then
 (I.pathText m_7).bind fun r0 =>
 bif !r0 then
 some (false, (m, (m_1, (m_2, (m_3, (m_4, (m_5, (m_6, (m_7, (m_8, (m_9, (m_10, (m_11, (m_12, m_13))))))))))))))
 else
 bif decide ((m_8.size : Int) ≤ 3000) then
 bif bEq m_8 ((⟨#[]⟩ : ByteArray)) then
 some (decide (m_5 ≥ 1), (m, (m_1, (m_2, (m_3, (m_4, (m_5, (m_6, (m_7, (m_8, (m_9, (m_10, (m_11, (m_12, m_13))))))))))))))
 else
 bif m_6 == 4 then
 some (decide (m_5 ≥ 1), (m, (m_1, (m_2, (m_3, (m_4, (m_5, (m_6, (m_7, (m_8, (m_9, (m_10, (m_11, (m_12, m_13))))))))))))))
 else
 some (false, (m, (m_1, (m_2, (m_3, (m_4, (m_5, (m_6, (m_7, (m_8, (m_9, (m_10, (m_11, (m_12, m_13))))))))))))))
 else
 some (false, (m, (m_1, (m_2, (m_3, (m_4, (m_5, (m_6, (m_7, (m_8, (m_9, (m_10, (m_11, (m_12, m_13))))))))))))))
 else
 some (false, (m, (m_1, (m_2, (m_3, (m_4, (m_5, (m_6, (m_7, (m_8, (m_9, (m_10, (m_11, (m_12, m_13)))))))))))))) :=
 (runB_eq 29 _ _).trans (by kernel_rfl)
noncomputable def I.ValidMachine.l116 (t37 : List ByteArray) (t38 : Int) (t39 : Int) (m : List TCode) (m_1 : List ByteArray) (m_2 : List ByteArray) (m_3 : List TFrame) (m_4 : Int) (m_5 : Int) (m_6 : Int) (m_7 : ByteArray) (m_8 : ByteArray) (m_9 : Bool) (m_10 : Int) (m_11 : ByteArray) (m_12 : List TFile) (m_13 : List ByteArray) : Option Bool := Y.runA 7 (fun ct c => at_ ct [true, true, false, true, false, false] c) ⟨[(1, .ad (.obj 0) 0), (37, .fl 9 t37), (38, .i IntKind.i64 t38), (39, .i IntKind.i64 t39)], [], [[.fl 53 m, .fl 9 m_1, .fl 9 m_2, .fl 78 m_3, .i IntKind.i64 m_4, .i IntKind.i64 m_5, .i IntKind.i64 m_6, .s m_7, .s m_8, .b m_9, .i IntKind.i64 m_10, .s m_11, .fl 49 m_12, .fl 9 m_13]], [], []⟩
noncomputable def I.ValidMachine.l2036 (t163 : List ByteArray) (t164 : Int) (t165 : Int) (m : List TCode) (m_1 : List ByteArray) (m_2 : List ByteArray) (m_3 : List TFrame) (m_4 : Int) (m_5 : Int) (m_6 : Int) (m_7 : ByteArray) (m_8 : ByteArray) (m_9 : Bool) (m_10 : Int) (m_11 : ByteArray) (m_12 : List TFile) (m_13 : List ByteArray) : Option Bool := Y.runA 7 (fun ct c => at_ ct [true, true, true, true, true, true, false, true, false, false] c) ⟨[(1, .ad (.obj 0) 0), (163, .fl 9 t163), (164, .i IntKind.i64 t164), (165, .i IntKind.i64 t165)], [], [[.fl 53 m, .fl 9 m_1, .fl 9 m_2, .fl 78 m_3, .i IntKind.i64 m_4, .i IntKind.i64 m_5, .i IntKind.i64 m_6, .s m_7, .s m_8, .b m_9, .i IntKind.i64 m_10, .s m_11, .fl 49 m_12, .fl 9 m_13]], [], []⟩
noncomputable def I.ValidMachine.l4084 (t174 : List TFile) (t175 : Int) (t176 : Int) (m : List TCode) (m_1 : List ByteArray) (m_2 : List ByteArray) (m_3 : List TFrame) (m_4 : Int) (m_5 : Int) (m_6 : Int) (m_7 : ByteArray) (m_8 : ByteArray) (m_9 : Bool) (m_10 : Int) (m_11 : ByteArray) (m_12 : List TFile) (m_13 : List ByteArray) : Option Bool := Y.runA 7 (fun ct c => at_ ct [true, true, true, true, true, true, true, false, true, false, false] c) ⟨[(1, .ad (.obj 0) 0), (174, .fl 49 t174), (175, .i IntKind.i64 t175), (176, .i IntKind.i64 t176)], [], [[.fl 53 m, .fl 9 m_1, .fl 9 m_2, .fl 78 m_3, .i IntKind.i64 m_4, .i IntKind.i64 m_5, .i IntKind.i64 m_6, .s m_7, .s m_8, .b m_9, .i IntKind.i64 m_10, .s m_11, .fl 49 m_12, .fl 9 m_13]], [], []⟩
noncomputable def I.ValidMachine.l4182836 (ok : Bool) (t174 : List TFile) (t175 : Int) (t176 : Int) (t181 : List ByteArray) (t182 : Int) (t183 : Int) (f : TFile) (m : List TCode) (m_1 : List ByteArray) (m_2 : List ByteArray) (m_3 : List TFrame) (m_4 : Int) (m_5 : Int) (m_6 : Int) (m_7 : ByteArray) (m_8 : ByteArray) (m_9 : Bool) (m_10 : Int) (m_11 : ByteArray) (m_12 : List TFile) (m_13 : List ByteArray) : Option Bool := Y.runA 7 (fun ct c => at_ ct [true, true, true, true, true, true, true, false, true, false, false, true, true, false, false, true, true, false, true, false, false] c) ⟨[(1, .ad (.obj 0) 0), (10, .ad (.loc 10) 0), (11, .b ok), (174, .fl 49 t174), (175, .i IntKind.i64 t175), (176, .i IntKind.i64 t176), (181, .fl 9 t181), (182, .i IntKind.i64 t182), (183, .i IntKind.i64 t183)], [(10, cells 49 f)], [[.fl 53 m, .fl 9 m_1, .fl 9 m_2, .fl 78 m_3, .i IntKind.i64 m_4, .i IntKind.i64 m_5, .i IntKind.i64 m_6, .s m_7, .s m_8, .b m_9, .i IntKind.i64 m_10, .s m_11, .fl 49 m_12, .fl 9 m_13]], [], []⟩
noncomputable def I.ValidMachine.l8180 (t199 : List TCode) (t200 : Int) (t201 : Int) (m : List TCode) (m_1 : List ByteArray) (m_2 : List ByteArray) (m_3 : List TFrame) (m_4 : Int) (m_5 : Int) (m_6 : Int) (m_7 : ByteArray) (m_8 : ByteArray) (m_9 : Bool) (m_10 : Int) (m_11 : ByteArray) (m_12 : List TFile) (m_13 : List ByteArray) : Option Bool := Y.runA 7 (fun ct c => at_ ct [true, true, true, true, true, true, true, true, false, true, false, false] c) ⟨[(1, .ad (.obj 0) 0), (199, .fl 53 t199), (200, .i IntKind.i64 t200), (201, .i IntKind.i64 t201)], [], [[.fl 53 m, .fl 9 m_1, .fl 9 m_2, .fl 78 m_3, .i IntKind.i64 m_4, .i IntKind.i64 m_5, .i IntKind.i64 m_6, .s m_7, .s m_8, .b m_9, .i IntKind.i64 m_10, .s m_11, .fl 49 m_12, .fl 9 m_13]], [], []⟩
theorem I.ValidMachine_eq (m : TMachine) : I.ValidMachine m =
 (I.filesOk m.gFiles 20).bind fun r0 =>
 bif !r0 then
 some false
 else
 bif decide ((m.gSaid.length : Int) > 50) then
 some false
 else
 bif decide (m.gSteps < 0) then
 some false
 else
 bif decide (m.gSteps > 4000) then
 some false
 else
 I.ValidMachine.l116 m.gSaid (m.gSaid.length : Int) 0 m.gCodes m.gArgs m.gOuts m.gFrames m.gSteps m.gLooks m.gKind m.gName m.gHold m.gOver m.gEnd m.gText m.gFiles m.gSaid :=
 (fnA_eq 7 _ rfl).trans (by kernel_rfl)
theorem I.ValidMachine.l116_eq (t37 : List ByteArray) (t38 : Int) (t39 : Int) (m : List TCode) (m_1 : List ByteArray) (m_2 : List ByteArray) (m_3 : List TFrame) (m_4 : Int) (m_5 : Int) (m_6 : Int) (m_7 : ByteArray) (m_8 : ByteArray) (m_9 : Bool) (m_10 : Int) (m_11 : ByteArray) (m_12 : List TFile) (m_13 : List ByteArray) : I.ValidMachine.l116 t37 t38 t39 m m_1 m_2 m_3 m_4 m_5 m_6 m_7 m_8 m_9 m_10 m_11 m_12 m_13 =
 bif decide (t39 < t38) then
 bif inB t39 t37.length then
 bif decide (((ByteArray.size (t37.getD t39.toNat (⟨#[]⟩ : ByteArray))) : Int) > 3000) then
 some false
 else
 I.ValidMachine.l116 t37 t38 (IntKind.i64.wrap (t39 + 1)) m m_1 m_2 m_3 m_4 m_5 m_6 m_7 m_8 m_9 m_10 m_11 m_12 m_13
 else
 none
 else
 bif m_9 then
 bif (m.length : Int) == 0 then
 bif (m_1.length : Int) == 0 then
 bif (m_2.length : Int) == 0 then
 bif (m_3.length : Int) == 0 then
 bif m_5 == 0 then
 bif m_6 == 0 then
 bif bEq m_7 ((⟨#[]⟩ : ByteArray)) then
 bif bEq m_8 ((⟨#[]⟩ : ByteArray)) then
 bif decide (m_10 ≥ 0) then
 bif decide (m_10 ≤ 5) then
 bif decide ((m_11.size : Int) ≤ 3000) then
 bif m_10 == 0 then
 some true
 else
 some ((m_12.length : Int) == 0)
 else
 some false
 else
 some false
 else
 some false
 else
 some false
 else
 some false
 else
 some false
 else
 some false
 else
 some false
 else
 some false
 else
 some false
 else
 some false
 else
 bif decide ((m.length : Int) < 1) then
 some false
 else
 bif decide ((m.length : Int) > 40) then
 some false
 else
 bif (m_1.length : Int) != (m.length : Int) then
 some false
 else
 bif decide (m_5 < 0) then
 some false
 else
 bif decide (m_5 > 100) then
 some false
 else
 bif m_10 != 0 then
 some false
 else
 bif !bEq m_11 ((⟨#[]⟩ : ByteArray)) then
 some false
 else
 (I.ValidJob (TJob.mk ((⟨#[]⟩ : ByteArray)) m_2)).bind fun r0 =>
 bif !r0 then
 some false
 else
 I.ValidMachine.l2036 m_1 (m_1.length : Int) 0 m m_1 m_2 m_3 m_4 m_5 m_6 m_7 m_8 m_9 m_10 m_11 m_12 m_13 :=
 (runA_eq 7 _ _).trans (by kernel_rfl)
theorem I.ValidMachine.l2036_eq (t163 : List ByteArray) (t164 : Int) (t165 : Int) (m : List TCode) (m_1 : List ByteArray) (m_2 : List ByteArray) (m_3 : List TFrame) (m_4 : Int) (m_5 : Int) (m_6 : Int) (m_7 : ByteArray) (m_8 : ByteArray) (m_9 : Bool) (m_10 : Int) (m_11 : ByteArray) (m_12 : List TFile) (m_13 : List ByteArray) : I.ValidMachine.l2036 t163 t164 t165 m m_1 m_2 m_3 m_4 m_5 m_6 m_7 m_8 m_9 m_10 m_11 m_12 m_13 =
 bif decide (t165 < t164) then
 bif inB t165 t163.length then
 bif decide (((ByteArray.size (t163.getD t165.toNat (⟨#[]⟩ : ByteArray))) : Int) > 3000) then
 some false
 else
 I.ValidMachine.l2036 t163 t164 (IntKind.i64.wrap (t165 + 1)) m m_1 m_2 m_3 m_4 m_5 m_6 m_7 m_8 m_9 m_10 m_11 m_12 m_13
 else
 none
 else
 I.ValidMachine.l4084 m_12 (m_12.length : Int) 0 m m_1 m_2 m_3 m_4 m_5 m_6 m_7 m_8 m_9 m_10 m_11 m_12 m_13 :=
 (runA_eq 7 _ _).trans (by kernel_rfl)
theorem I.ValidMachine.l4084_eq (t174 : List TFile) (t175 : Int) (t176 : Int) (m : List TCode) (m_1 : List ByteArray) (m_2 : List ByteArray) (m_3 : List TFrame) (m_4 : Int) (m_5 : Int) (m_6 : Int) (m_7 : ByteArray) (m_8 : ByteArray) (m_9 : Bool) (m_10 : Int) (m_11 : ByteArray) (m_12 : List TFile) (m_13 : List ByteArray) : I.ValidMachine.l4084 t174 t175 t176 m m_1 m_2 m_3 m_4 m_5 m_6 m_7 m_8 m_9 m_10 m_11 m_12 m_13 =
 bif decide (t176 < t175) then
 bif inB t176 t174.length then
 I.ValidMachine.l4182836 false t174 t175 t176 m_2 (m_2.length : Int) 0 (t174.getD t176.toNat TFile.z) m m_1 m_2 m_3 m_4 m_5 m_6 m_7 m_8 m_9 m_10 m_11 m_12 m_13
 else
 none
 else
 I.ValidMachine.l8180 m (m.length : Int) 0 m m_1 m_2 m_3 m_4 m_5 m_6 m_7 m_8 m_9 m_10 m_11 m_12 m_13 :=
 (runA_eq 7 _ _).trans (by kernel_rfl)
theorem I.ValidMachine.l4182836_eq (ok : Bool) (t174 : List TFile) (t175 : Int) (t176 : Int) (t181 : List ByteArray) (t182 : Int) (t183 : Int) (f : TFile) (m : List TCode) (m_1 : List ByteArray) (m_2 : List ByteArray) (m_3 : List TFrame) (m_4 : Int) (m_5 : Int) (m_6 : Int) (m_7 : ByteArray) (m_8 : ByteArray) (m_9 : Bool) (m_10 : Int) (m_11 : ByteArray) (m_12 : List TFile) (m_13 : List ByteArray) : I.ValidMachine.l4182836 ok t174 t175 t176 t181 t182 t183 f m m_1 m_2 m_3 m_4 m_5 m_6 m_7 m_8 m_9 m_10 m_11 m_12 m_13 =
 bif decide (t183 < t182) then
 bif inB t183 t181.length then
 bif ok then
 I.ValidMachine.l4182836 true t174 t175 t176 t181 t182 (IntKind.i64.wrap (t183 + 1)) f m m_1 m_2 m_3 m_4 m_5 m_6 m_7 m_8 m_9 m_10 m_11 m_12 m_13
 else
 I.ValidMachine.l4182836 (bEq (t181.getD t183.toNat (⟨#[]⟩ : ByteArray)) f.gName) t174 t175 t176 t181 t182 (IntKind.i64.wrap (t183 + 1)) f m m_1 m_2 m_3 m_4 m_5 m_6 m_7 m_8 m_9 m_10 m_11 m_12 m_13
 else
 none
 else
 bif !ok then
 some false
 else
 I.ValidMachine.l4084 t174 t175 (IntKind.i64.wrap (t176 + 1)) m m_1 m_2 m_3 m_4 m_5 m_6 m_7 m_8 m_9 m_10 m_11 m_12 m_13 :=
 (runA_eq 7 _ _).trans (by kernel_rfl)
theorem I.ValidMachine.l8180_eq (t199 : List TCode) (t200 : Int) (t201 : Int) (m : List TCode) (m_1 : List ByteArray) (m_2 : List ByteArray) (m_3 : List TFrame) (m_4 : Int) (m_5 : Int) (m_6 : Int) (m_7 : ByteArray) (m_8 : ByteArray) (m_9 : Bool) (m_10 : Int) (m_11 : ByteArray) (m_12 : List TFile) (m_13 : List ByteArray) : I.ValidMachine.l8180 t199 t200 t201 m m_1 m_2 m_3 m_4 m_5 m_6 m_7 m_8 m_9 m_10 m_11 m_12 m_13 =
 bif decide (t201 < t200) then
 bif inB t201 t199.length then
 (I.validCode (t199.getD t201.toNat TCode.z)).bind fun r0 =>
 bif !r0 then
 some false
 else
 I.ValidMachine.l8180 t199 t200 (IntKind.i64.wrap (t201 + 1)) m m_1 m_2 m_3 m_4 m_5 m_6 m_7 m_8 m_9 m_10 m_11 m_12 m_13
 else
 none
 else
 (I.Machine_framesOk (m, m_1, m_2, m_3, m_4, m_5, m_6, m_7, m_8, m_9, m_10, m_11, m_12, m_13)).bind fun r0 =>
 bif r0.fst then
 (I.Machine_waitOk r0.snd).bind fun r1 =>
 some r1.fst
 else
 some false :=
 (runA_eq 7 _ _).trans (by kernel_rfl)
noncomputable def L.eqIntS.l116 (a : List Int) (b : List Int) (i : Int) : Option Bool := Y.runA 111 (fun ct c => at_ ct [true, true, false, true, false, false] c) ⟨[(0, .fl 3 a), (1, .fl 3 b), (5, .i IntKind.i64 i)], [], [], [], []⟩
theorem L.eqIntS_eq (a : List Int) (b : List Int) : L.eqIntS a b =
 bif (a.length : Int) != (b.length : Int) then
 some false
 else
 L.eqIntS.l116 a b 0 :=
 (fnA_eq 111 _ rfl).trans (by kernel_rfl)
theorem L.eqIntS.l116_eq (a : List Int) (b : List Int) (i : Int) : L.eqIntS.l116 a b i =
 bif decide (i < (a.length : Int)) then
 bif inB i a.length then
 bif inB i b.length then
 bif a.getD i.toNat 0 != b.getD i.toNat 0 then
 some false
 else
 L.eqIntS.l116 a b (IntKind.i64.wrap (i + 1))
 else
 none
 else
 none
 else
 some true :=
 (runA_eq 111 _ _).trans (by kernel_rfl)
theorem L.eqIns_eq (a : TIns) (b : TIns) : L.eqIns a b =
 bif a.gOp != b.gOp then
 some false
 else
 bif a.gA != b.gA then
 some false
 else
 bif a.gN != b.gN then
 some false
 else
 bif !bEq a.gText b.gText then
 some false
 else
 some true :=
 (fnA_eq 121 _ rfl).trans (by kernel_rfl)
noncomputable def L.eqInsS.l116 (a : List TIns) (b : List TIns) (i : Int) : Option Bool := Y.runA 112 (fun ct c => at_ ct [true, true, false, true, false, false] c) ⟨[(0, .fl 98 a), (1, .fl 98 b), (5, .i IntKind.i64 i)], [], [], [], []⟩
theorem L.eqInsS_eq (a : List TIns) (b : List TIns) : L.eqInsS a b =
 bif (a.length : Int) != (b.length : Int) then
 some false
 else
 L.eqInsS.l116 a b 0 :=
 (fnA_eq 112 _ rfl).trans (by kernel_rfl)
theorem L.eqInsS.l116_eq (a : List TIns) (b : List TIns) (i : Int) : L.eqInsS.l116 a b i =
 bif decide (i < (a.length : Int)) then
 bif inB i a.length then
 bif inB i b.length then
 (L.eqIns (a.getD i.toNat TIns.z) (b.getD i.toNat TIns.z)).bind fun r0 =>
 bif !r0 then
 some false
 else
 L.eqInsS.l116 a b (IntKind.i64.wrap (i + 1))
 else
 none
 else
 none
 else
 some true :=
 (runA_eq 112 _ _).trans (by kernel_rfl)
theorem L.eqFn_eq (a : TFn) (b : TFn) : L.eqFn a b =
 bif !bEq a.gName b.gName then
 some false
 else
 (L.eqIntS a.gParams b.gParams).bind fun r0 =>
 bif !r0 then
 some false
 else
 bif a.gResult != b.gResult then
 some false
 else
 bif a.gSlots != b.gSlots then
 some false
 else
 (L.eqInsS a.gIns b.gIns).bind fun r1 =>
 bif !r1 then
 some false
 else
 some true :=
 (fnA_eq 92 _ rfl).trans (by kernel_rfl)
noncomputable def L.eqFnS.l116 (a : List TFn) (b : List TFn) (i : Int) : Option Bool := Y.runA 67 (fun ct c => at_ ct [true, true, false, true, false, false] c) ⟨[(0, .fl 89 a), (1, .fl 89 b), (5, .i IntKind.i64 i)], [], [], [], []⟩
theorem L.eqFnS_eq (a : List TFn) (b : List TFn) : L.eqFnS a b =
 bif (a.length : Int) != (b.length : Int) then
 some false
 else
 L.eqFnS.l116 a b 0 :=
 (fnA_eq 67 _ rfl).trans (by kernel_rfl)
theorem L.eqFnS.l116_eq (a : List TFn) (b : List TFn) (i : Int) : L.eqFnS.l116 a b i =
 bif decide (i < (a.length : Int)) then
 bif inB i a.length then
 bif inB i b.length then
 (L.eqFn (a.getD i.toNat TFn.z) (b.getD i.toNat TFn.z)).bind fun r0 =>
 bif !r0 then
 some false
 else
 L.eqFnS.l116 a b (IntKind.i64.wrap (i + 1))
 else
 none
 else
 none
 else
 some true :=
 (runA_eq 67 _ _).trans (by kernel_rfl)
theorem L.eqCode_eq (a : TCode) (b : TCode) : L.eqCode a b =
 (L.eqFnS a.gFns b.gFns).bind fun r0 =>
 bif !r0 then
 some false
 else
 some true :=
 (fnA_eq 50 _ rfl).trans (by kernel_rfl)
noncomputable def L.eqCodeS.l116 (a : List TCode) (b : List TCode) (i : Int) : Option Bool := Y.runA 30 (fun ct c => at_ ct [true, true, false, true, false, false] c) ⟨[(0, .fl 53 a), (1, .fl 53 b), (5, .i IntKind.i64 i)], [], [], [], []⟩
theorem L.eqCodeS_eq (a : List TCode) (b : List TCode) : L.eqCodeS a b =
 bif (a.length : Int) != (b.length : Int) then
 some false
 else
 L.eqCodeS.l116 a b 0 :=
 (fnA_eq 30 _ rfl).trans (by kernel_rfl)
theorem L.eqCodeS.l116_eq (a : List TCode) (b : List TCode) (i : Int) : L.eqCodeS.l116 a b i =
 bif decide (i < (a.length : Int)) then
 bif inB i a.length then
 bif inB i b.length then
 (L.eqCode (a.getD i.toNat TCode.z) (b.getD i.toNat TCode.z)).bind fun r0 =>
 bif !r0 then
 some false
 else
 L.eqCodeS.l116 a b (IntKind.i64.wrap (i + 1))
 else
 none
 else
 none
 else
 some true :=
 (runA_eq 30 _ _).trans (by kernel_rfl)
noncomputable def L.eqStringS.l116 (a : List ByteArray) (b : List ByteArray) (i : Int) : Option Bool := Y.runA 31 (fun ct c => at_ ct [true, true, false, true, false, false] c) ⟨[(0, .fl 9 a), (1, .fl 9 b), (5, .i IntKind.i64 i)], [], [], [], []⟩
theorem L.eqStringS_eq (a : List ByteArray) (b : List ByteArray) : L.eqStringS a b =
 bif (a.length : Int) != (b.length : Int) then
 some false
 else
 L.eqStringS.l116 a b 0 :=
 (fnA_eq 31 _ rfl).trans (by kernel_rfl)
theorem L.eqStringS.l116_eq (a : List ByteArray) (b : List ByteArray) (i : Int) : L.eqStringS.l116 a b i =
 bif decide (i < (a.length : Int)) then
 bif inB i a.length then
 bif inB i b.length then
 bif !bEq (a.getD i.toNat (⟨#[]⟩ : ByteArray)) (b.getD i.toNat (⟨#[]⟩ : ByteArray)) then
 some false
 else
 L.eqStringS.l116 a b (IntKind.i64.wrap (i + 1))
 else
 none
 else
 none
 else
 some true :=
 (runA_eq 31 _ _).trans (by kernel_rfl)
theorem L.eqValue_eq (a : TValue) (b : TValue) : L.eqValue a b =
 bif a.gType != b.gType then
 some false
 else
 bif a.gN != b.gN then
 some false
 else
 bif !bEq a.gText b.gText then
 some false
 else
 some true :=
 (fnA_eq 93 _ rfl).trans (by kernel_rfl)
noncomputable def L.eqValueS.l116 (a : List TValue) (b : List TValue) (i : Int) : Option Bool := Y.runA 68 (fun ct c => at_ ct [true, true, false, true, false, false] c) ⟨[(0, .fl 108 a), (1, .fl 108 b), (5, .i IntKind.i64 i)], [], [], [], []⟩
theorem L.eqValueS_eq (a : List TValue) (b : List TValue) : L.eqValueS a b =
 bif (a.length : Int) != (b.length : Int) then
 some false
 else
 L.eqValueS.l116 a b 0 :=
 (fnA_eq 68 _ rfl).trans (by kernel_rfl)
theorem L.eqValueS.l116_eq (a : List TValue) (b : List TValue) (i : Int) : L.eqValueS.l116 a b i =
 bif decide (i < (a.length : Int)) then
 bif inB i a.length then
 bif inB i b.length then
 (L.eqValue (a.getD i.toNat TValue.z) (b.getD i.toNat TValue.z)).bind fun r0 =>
 bif !r0 then
 some false
 else
 L.eqValueS.l116 a b (IntKind.i64.wrap (i + 1))
 else
 none
 else
 none
 else
 some true :=
 (runA_eq 68 _ _).trans (by kernel_rfl)
theorem L.eqFrame_eq (a : TFrame) (b : TFrame) : L.eqFrame a b =
 bif a.gCode != b.gCode then
 some false
 else
 bif a.gFn != b.gFn then
 some false
 else
 bif a.gAt != b.gAt then
 some false
 else
 (L.eqValueS a.gSlots b.gSlots).bind fun r0 =>
 bif !r0 then
 some false
 else
 (L.eqValueS a.gStack b.gStack).bind fun r1 =>
 bif !r1 then
 some false
 else
 some true :=
 (fnA_eq 51 _ rfl).trans (by kernel_rfl)
noncomputable def L.eqFrameS.l116 (a : List TFrame) (b : List TFrame) (i : Int) : Option Bool := Y.runA 32 (fun ct c => at_ ct [true, true, false, true, false, false] c) ⟨[(0, .fl 78 a), (1, .fl 78 b), (5, .i IntKind.i64 i)], [], [], [], []⟩
theorem L.eqFrameS_eq (a : List TFrame) (b : List TFrame) : L.eqFrameS a b =
 bif (a.length : Int) != (b.length : Int) then
 some false
 else
 L.eqFrameS.l116 a b 0 :=
 (fnA_eq 32 _ rfl).trans (by kernel_rfl)
theorem L.eqFrameS.l116_eq (a : List TFrame) (b : List TFrame) (i : Int) : L.eqFrameS.l116 a b i =
 bif decide (i < (a.length : Int)) then
 bif inB i a.length then
 bif inB i b.length then
 (L.eqFrame (a.getD i.toNat TFrame.z) (b.getD i.toNat TFrame.z)).bind fun r0 =>
 bif !r0 then
 some false
 else
 L.eqFrameS.l116 a b (IntKind.i64.wrap (i + 1))
 else
 none
 else
 none
 else
 some true :=
 (runA_eq 32 _ _).trans (by kernel_rfl)
theorem L.eqFile_eq (a : TFile) (b : TFile) : L.eqFile a b =
 bif !bEq a.gName b.gName then
 some false
 else
 bif !bEq a.gText b.gText then
 some false
 else
 some true :=
 (fnA_eq 52 _ rfl).trans (by kernel_rfl)
noncomputable def L.eqFileS.l116 (a : List TFile) (b : List TFile) (i : Int) : Option Bool := Y.runA 33 (fun ct c => at_ ct [true, true, false, true, false, false] c) ⟨[(0, .fl 49 a), (1, .fl 49 b), (5, .i IntKind.i64 i)], [], [], [], []⟩
theorem L.eqFileS_eq (a : List TFile) (b : List TFile) : L.eqFileS a b =
 bif (a.length : Int) != (b.length : Int) then
 some false
 else
 L.eqFileS.l116 a b 0 :=
 (fnA_eq 33 _ rfl).trans (by kernel_rfl)
theorem L.eqFileS.l116_eq (a : List TFile) (b : List TFile) (i : Int) : L.eqFileS.l116 a b i =
 bif decide (i < (a.length : Int)) then
 bif inB i a.length then
 bif inB i b.length then
 (L.eqFile (a.getD i.toNat TFile.z) (b.getD i.toNat TFile.z)).bind fun r0 =>
 bif !r0 then
 some false
 else
 L.eqFileS.l116 a b (IntKind.i64.wrap (i + 1))
 else
 none
 else
 none
 else
 some true :=
 (runA_eq 33 _ _).trans (by kernel_rfl)
theorem L.eqMachine_eq (a : TMachine) (b : TMachine) : L.eqMachine a b =
 (L.eqCodeS a.gCodes b.gCodes).bind fun r0 =>
 bif !r0 then
 some false
 else
 (L.eqStringS a.gArgs b.gArgs).bind fun r1 =>
 bif !r1 then
 some false
 else
 (L.eqStringS a.gOuts b.gOuts).bind fun r2 =>
 bif !r2 then
 some false
 else
 (L.eqFrameS a.gFrames b.gFrames).bind fun r3 =>
 bif !r3 then
 some false
 else
 bif a.gSteps != b.gSteps then
 some false
 else
 bif a.gLooks != b.gLooks then
 some false
 else
 bif a.gKind != b.gKind then
 some false
 else
 bif !bEq a.gName b.gName then
 some false
 else
 bif !bEq a.gHold b.gHold then
 some false
 else
 bif !a.gOver == b.gOver then
 some false
 else
 bif a.gEnd != b.gEnd then
 some false
 else
 bif !bEq a.gText b.gText then
 some false
 else
 (L.eqFileS a.gFiles b.gFiles).bind fun r4 =>
 bif !r4 then
 some false
 else
 (L.eqStringS a.gSaid b.gSaid).bind fun r5 =>
 bif !r5 then
 some false
 else
 some true :=
 (fnA_eq 8 _ rfl).trans (by kernel_rfl)
theorem L.FnExactValidMachine_eq (aM : TMachine) : L.FnExactValidMachine aM =
 (L.szMachine aM 1048576).bind fun r0 =>
 bif decide (r0 < 0) then
 some true
 else
 (L.toMachine aM).bind fun r1 =>
 (R.ValidMachine r1).bind fun r2 =>
 (L.toMachine aM).bind fun r3 =>
 (I.ValidMachine r3).bind fun r4 =>
 bif !r4 == r2 then
 some false
 else
 (L.toMachine aM).bind fun r5 =>
 (L.eqMachine r3 r5).bind fun r6 =>
 bif !r6 then
 some false
 else
 some true :=
 (fnA_eq 3 _ rfl).trans (by kernel_rfl)
end Go.KM.M1
