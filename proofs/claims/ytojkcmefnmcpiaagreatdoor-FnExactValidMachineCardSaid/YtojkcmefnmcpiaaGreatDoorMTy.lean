/- The tables of the law's functions. Conditions: none. -/
import Derived.Test.YtojkcmefnmcpiaaGreatDoorKmX
import Derived.KernelRfl
import Derived.Test.YtojkcmefnmcpiaaGreatDoorProg
namespace Go.KM.M1
open Go Go.KM
open Go.KM.Fam (Dn dflt)
open Go.KM.Enc (cells sz mkE glob gany u8)
set_option autoImplicit false
set_option linter.unusedVariables false
set_option maxRecDepth 100000
structure TIns where
  gOp : Int
  gA : Int
  gN : Int
  gText : ByteArray
def TIns.z : TIns := ⟨0, 0, 0, ⟨#[]⟩⟩
structure TFn where
  gName : ByteArray
  gParams : List Int
  gResult : Int
  gSlots : Int
  gIns : List TIns
def TFn.z : TFn := ⟨⟨#[]⟩, [], 0, 0, []⟩
structure TCode where
  gFns : List TFn
def TCode.z : TCode := ⟨[]⟩
structure TValue where
  gType : Int
  gN : Int
  gText : ByteArray
def TValue.z : TValue := ⟨0, 0, ⟨#[]⟩⟩
structure TFrame where
  gCode : Int
  gFn : Int
  gAt : Int
  gSlots : List TValue
  gStack : List TValue
def TFrame.z : TFrame := ⟨0, 0, 0, [], []⟩
structure TFile where
  gName : ByteArray
  gText : ByteArray
def TFile.z : TFile := ⟨⟨#[]⟩, ⟨#[]⟩⟩
structure TMachine where
  gCodes : List TCode
  gArgs : List ByteArray
  gOuts : List ByteArray
  gFrames : List TFrame
  gSteps : Int
  gLooks : Int
  gKind : Int
  gName : ByteArray
  gHold : ByteArray
  gOver : Bool
  gEnd : Int
  gText : ByteArray
  gFiles : List TFile
  gSaid : List ByteArray
def TMachine.z : TMachine := ⟨[], [], [], [], 0, 0, 0, ⟨#[]⟩, ⟨#[]⟩, false, 0, ⟨#[]⟩, [], []⟩
structure TJob where
  gArg : ByteArray
  gOuts : List ByteArray
def TJob.z : TJob := ⟨⟨#[]⟩, []⟩
structure TShape where
  gState : Int
  gSlots : List Int
  gStack : List Int
def TShape.z : TShape := ⟨0, [], []⟩
structure TKey where
  gc : Int
  gf : Int
def TKey.z : TKey := ⟨0, 0⟩
def base : Nat → Sigma fun α : Type => α
  | 2 => ⟨Int, 0⟩
  | 3 => ⟨Int, 0⟩
  | 4 => ⟨Bool, false⟩
  | 5 => ⟨Int, 0⟩
  | 9 => ⟨ByteArray, ⟨#[]⟩⟩
  | 22 => ⟨List TCode, []⟩
  | 23 => ⟨List ByteArray, []⟩
  | 24 => ⟨List TFrame, []⟩
  | 25 => ⟨List TFile, []⟩
  | 27 => ⟨TMachine, ⟨[], [], [], [], 0, 0, 0, ⟨#[]⟩, ⟨#[]⟩, false, 0, ⟨#[]⟩, [], []⟩⟩
  | 30 => ⟨List TCode, []⟩
  | 31 => ⟨List TFrame, []⟩
  | 32 => ⟨List TFile, []⟩
  | 34 => ⟨TMachine, ⟨[], [], [], [], 0, 0, 0, ⟨#[]⟩, ⟨#[]⟩, false, 0, ⟨#[]⟩, [], []⟩⟩
  | 47 => ⟨TJob, ⟨⟨#[]⟩, []⟩⟩
  | 49 => ⟨TFile, ⟨⟨#[]⟩, ⟨#[]⟩⟩⟩
  | 51 => ⟨List TFn, []⟩
  | 53 => ⟨TCode, ⟨[]⟩⟩
  | 64 => ⟨List TFn, []⟩
  | 66 => ⟨TCode, ⟨[]⟩⟩
  | 68 => ⟨List TValue, []⟩
  | 70 => ⟨TFrame, ⟨0, 0, 0, [], []⟩⟩
  | 72 => ⟨TFile, ⟨⟨#[]⟩, ⟨#[]⟩⟩⟩
  | 76 => ⟨List TValue, []⟩
  | 78 => ⟨TFrame, ⟨0, 0, 0, [], []⟩⟩
  | 86 => ⟨List Int, []⟩
  | 87 => ⟨List TIns, []⟩
  | 89 => ⟨TFn, ⟨⟨#[]⟩, [], 0, 0, []⟩⟩
  | 90 => ⟨Option (List TShape), none⟩
  | 92 => ⟨TKey, ⟨0, 0⟩⟩
  | 96 => ⟨TShape, ⟨0, [], []⟩⟩
  | 98 => ⟨TIns, ⟨0, 0, 0, ⟨#[]⟩⟩⟩
  | 108 => ⟨TValue, ⟨0, 0, ⟨#[]⟩⟩⟩
  | 114 => ⟨List Bool, []⟩
  | 122 => ⟨List TIns, []⟩
  | 124 => ⟨TFn, ⟨⟨#[]⟩, [], 0, 0, []⟩⟩
  | 126 => ⟨TValue, ⟨0, 0, ⟨#[]⟩⟩⟩
  | 133 => ⟨Int, 0⟩
  | 154 => ⟨Int, 0⟩
  | 158 => ⟨List (List Int), []⟩
  | 162 => ⟨TIns, ⟨0, 0, 0, ⟨#[]⟩⟩⟩
  | _ => ⟨Unit, ()⟩
instance fam : Fam where
  Dn n := (base n).1
  dflt n := (base n).2
def mk27 (cs : List PV) : Option TMachine :=
  match cs with
  | [p0, p1, p2, p3, p4, p5, p6, p7, p8, p9, p10, p11, p12, p13] => obind (cF 66 p0) fun a0 => obind (cF 9 p1) fun a1 => obind (cF 9 p2) fun a2 => obind (cF 70 p3) fun a3 => obind (cI .i64 p4) fun a4 => obind (cI .i64 p5) fun a5 => obind (cI .i64 p6) fun a6 => obind (cS p7) fun a7 => obind (cS p8) fun a8 => obind (cB p9) fun a9 => obind (cI .i64 p10) fun a10 => obind (cS p11) fun a11 => obind (cF 72 p12) fun a12 => obind (cF 9 p13) fun a13 => some (⟨a0, a1, a2, a3, a4, a5, a6, a7, a8, a9, a10, a11, a12, a13⟩)
  | _ => none
def mk34 (cs : List PV) : Option TMachine :=
  match cs with
  | [p0, p1, p2, p3, p4, p5, p6, p7, p8, p9, p10, p11, p12, p13] => obind (cF 53 p0) fun a0 => obind (cF 9 p1) fun a1 => obind (cF 9 p2) fun a2 => obind (cF 78 p3) fun a3 => obind (cI .i64 p4) fun a4 => obind (cI .i64 p5) fun a5 => obind (cI .i64 p6) fun a6 => obind (cS p7) fun a7 => obind (cS p8) fun a8 => obind (cB p9) fun a9 => obind (cI .i64 p10) fun a10 => obind (cS p11) fun a11 => obind (cF 49 p12) fun a12 => obind (cF 9 p13) fun a13 => some (⟨a0, a1, a2, a3, a4, a5, a6, a7, a8, a9, a10, a11, a12, a13⟩)
  | _ => none
def mk47 (cs : List PV) : Option TJob :=
  match cs with
  | [p0, p1] => obind (cS p0) fun a0 => obind (cF 9 p1) fun a1 => some (⟨a0, a1⟩)
  | _ => none
def mk49 (cs : List PV) : Option TFile :=
  match cs with
  | [p0, p1] => obind (cS p0) fun a0 => obind (cS p1) fun a1 => some (⟨a0, a1⟩)
  | _ => none
def mk53 (cs : List PV) : Option TCode :=
  match cs with
  | [p0] => obind (cF 89 p0) fun a0 => some (⟨a0⟩)
  | _ => none
def mk66 (cs : List PV) : Option TCode :=
  match cs with
  | [p0] => obind (cF 124 p0) fun a0 => some (⟨a0⟩)
  | _ => none
def mk70 (cs : List PV) : Option TFrame :=
  match cs with
  | [p0, p1, p2, p3, p4] => obind (cI .i64 p0) fun a0 => obind (cI .i64 p1) fun a1 => obind (cI .i64 p2) fun a2 => obind (cF 126 p3) fun a3 => obind (cF 126 p4) fun a4 => some (⟨a0, a1, a2, a3, a4⟩)
  | _ => none
def mk72 (cs : List PV) : Option TFile :=
  match cs with
  | [p0, p1] => obind (cS p0) fun a0 => obind (cS p1) fun a1 => some (⟨a0, a1⟩)
  | _ => none
def mk78 (cs : List PV) : Option TFrame :=
  match cs with
  | [p0, p1, p2, p3, p4] => obind (cI .i64 p0) fun a0 => obind (cI .i64 p1) fun a1 => obind (cI .i64 p2) fun a2 => obind (cF 108 p3) fun a3 => obind (cF 108 p4) fun a4 => some (⟨a0, a1, a2, a3, a4⟩)
  | _ => none
def mk89 (cs : List PV) : Option TFn :=
  match cs with
  | [p0, p1, p2, p3, p4] => obind (cS p0) fun a0 => obind (cF 3 p1) fun a1 => obind (cI .i64 p2) fun a2 => obind (cI .i64 p3) fun a3 => obind (cF 98 p4) fun a4 => some (⟨a0, a1, a2, a3, a4⟩)
  | _ => none
def mk92 (cs : List PV) : Option TKey :=
  match cs with
  | [p0, p1] => obind (cI .i64 p0) fun a0 => obind (cI .i64 p1) fun a1 => some (⟨a0, a1⟩)
  | _ => none
def mk96 (cs : List PV) : Option TShape :=
  match cs with
  | [p0, p1, p2] => obind (cI .i64 p0) fun a0 => obind (cF 3 p1) fun a1 => obind (cF 3 p2) fun a2 => some (⟨a0, a1, a2⟩)
  | _ => none
def mk98 (cs : List PV) : Option TIns :=
  match cs with
  | [p0, p1, p2, p3] => obind (cI .i64 p0) fun a0 => obind (cI .i64 p1) fun a1 => obind (cI .i64 p2) fun a2 => obind (cS p3) fun a3 => some (⟨a0, a1, a2, a3⟩)
  | _ => none
def mk108 (cs : List PV) : Option TValue :=
  match cs with
  | [p0, p1, p2] => obind (cI .i64 p0) fun a0 => obind (cI .i64 p1) fun a1 => obind (cS p2) fun a2 => some (⟨a0, a1, a2⟩)
  | _ => none
def mk124 (cs : List PV) : Option TFn :=
  match cs with
  | [p0, p1, p2, p3, p4] => obind (cS p0) fun a0 => obind (cF 3 p1) fun a1 => obind (cI .i64 p2) fun a2 => obind (cI .i64 p3) fun a3 => obind (cF 162 p4) fun a4 => some (⟨a0, a1, a2, a3, a4⟩)
  | _ => none
def mk126 (cs : List PV) : Option TValue :=
  match cs with
  | [p0, p1, p2] => obind (cI .i64 p0) fun a0 => obind (cI .i64 p1) fun a1 => obind (cS p2) fun a2 => some (⟨a0, a1, a2⟩)
  | _ => none
def mk162 (cs : List PV) : Option TIns :=
  match cs with
  | [p0, p1, p2, p3] => obind (cI .i64 p0) fun a0 => obind (cI .i64 p1) fun a1 => obind (cI .i64 p2) fun a2 => obind (cS p3) fun a3 => some (⟨a0, a1, a2, a3⟩)
  | _ => none
def rowF : (T : Nat) → Option (TyRow T)
  | 2 => some ⟨1, fun (x : Int) => [.i .i64 (x)], m1 (cI .i64)⟩
  | 3 => some ⟨1, fun (x : Int) => [.i .i64 (x)], m1 (cI .i64)⟩
  | 4 => some ⟨1, fun (x : Bool) => [.b (x)], m1 (cB)⟩
  | 5 => some ⟨1, fun (x : Int) => [.i .u8 (x)], m1 (cI .u8)⟩
  | 9 => some ⟨1, fun (x : ByteArray) => [.s (x)], m1 (cS)⟩
  | 22 => some ⟨1, fun (x : List TCode) => [.fl 66 (x)], m1 (cF 66)⟩
  | 23 => some ⟨1, fun (x : List ByteArray) => [.fl 9 (x)], m1 (cF 9)⟩
  | 24 => some ⟨1, fun (x : List TFrame) => [.fl 70 (x)], m1 (cF 70)⟩
  | 25 => some ⟨1, fun (x : List TFile) => [.fl 72 (x)], m1 (cF 72)⟩
  | 27 => some ⟨14, fun (x : TMachine) => [.fl 66 (x.gCodes), .fl 9 (x.gArgs), .fl 9 (x.gOuts), .fl 70 (x.gFrames), .i .i64 (x.gSteps), .i .i64 (x.gLooks), .i .i64 (x.gKind), .s (x.gName), .s (x.gHold), .b (x.gOver), .i .i64 (x.gEnd), .s (x.gText), .fl 72 (x.gFiles), .fl 9 (x.gSaid)], mk27⟩
  | 30 => some ⟨1, fun (x : List TCode) => [.fl 53 (x)], m1 (cF 53)⟩
  | 31 => some ⟨1, fun (x : List TFrame) => [.fl 78 (x)], m1 (cF 78)⟩
  | 32 => some ⟨1, fun (x : List TFile) => [.fl 49 (x)], m1 (cF 49)⟩
  | 34 => some ⟨14, fun (x : TMachine) => [.fl 53 (x.gCodes), .fl 9 (x.gArgs), .fl 9 (x.gOuts), .fl 78 (x.gFrames), .i .i64 (x.gSteps), .i .i64 (x.gLooks), .i .i64 (x.gKind), .s (x.gName), .s (x.gHold), .b (x.gOver), .i .i64 (x.gEnd), .s (x.gText), .fl 49 (x.gFiles), .fl 9 (x.gSaid)], mk34⟩
  | 47 => some ⟨2, fun (x : TJob) => [.s (x.gArg), .fl 9 (x.gOuts)], mk47⟩
  | 49 => some ⟨2, fun (x : TFile) => [.s (x.gName), .s (x.gText)], mk49⟩
  | 51 => some ⟨1, fun (x : List TFn) => [.fl 89 (x)], m1 (cF 89)⟩
  | 53 => some ⟨1, fun (x : TCode) => [.fl 89 (x.gFns)], mk53⟩
  | 64 => some ⟨1, fun (x : List TFn) => [.fl 124 (x)], m1 (cF 124)⟩
  | 66 => some ⟨1, fun (x : TCode) => [.fl 124 (x.gFns)], mk66⟩
  | 68 => some ⟨1, fun (x : List TValue) => [.fl 126 (x)], m1 (cF 126)⟩
  | 70 => some ⟨5, fun (x : TFrame) => [.i .i64 (x.gCode), .i .i64 (x.gFn), .i .i64 (x.gAt), .fl 126 (x.gSlots), .fl 126 (x.gStack)], mk70⟩
  | 72 => some ⟨2, fun (x : TFile) => [.s (x.gName), .s (x.gText)], mk72⟩
  | 76 => some ⟨1, fun (x : List TValue) => [.fl 108 (x)], m1 (cF 108)⟩
  | 78 => some ⟨5, fun (x : TFrame) => [.i .i64 (x.gCode), .i .i64 (x.gFn), .i .i64 (x.gAt), .fl 108 (x.gSlots), .fl 108 (x.gStack)], mk78⟩
  | 86 => some ⟨1, fun (x : List Int) => [.fl 3 (x)], m1 (cF 3)⟩
  | 87 => some ⟨1, fun (x : List TIns) => [.fl 98 (x)], m1 (cF 98)⟩
  | 89 => some ⟨5, fun (x : TFn) => [.s (x.gName), .fl 3 (x.gParams), .i .i64 (x.gResult), .i .i64 (x.gSlots), .fl 98 (x.gIns)], mk89⟩
  | 90 => some ⟨1, fun (x : Option (List TShape)) => [.fo 96 (x)], m1 (cO 96)⟩
  | 92 => some ⟨2, fun (x : TKey) => [.i .i64 (x.gc), .i .i64 (x.gf)], mk92⟩
  | 96 => some ⟨3, fun (x : TShape) => [.i .i64 (x.gState), .fl 3 (x.gSlots), .fl 3 (x.gStack)], mk96⟩
  | 98 => some ⟨4, fun (x : TIns) => [.i .i64 (x.gOp), .i .i64 (x.gA), .i .i64 (x.gN), .s (x.gText)], mk98⟩
  | 108 => some ⟨3, fun (x : TValue) => [.i .i64 (x.gType), .i .i64 (x.gN), .s (x.gText)], mk108⟩
  | 114 => some ⟨1, fun (x : List Bool) => [.fl 4 (x)], m1 (cF 4)⟩
  | 122 => some ⟨1, fun (x : List TIns) => [.fl 162 (x)], m1 (cF 162)⟩
  | 124 => some ⟨5, fun (x : TFn) => [.s (x.gName), .fl 3 (x.gParams), .i .i64 (x.gResult), .i .i64 (x.gSlots), .fl 162 (x.gIns)], mk124⟩
  | 126 => some ⟨3, fun (x : TValue) => [.i .i64 (x.gType), .i .i64 (x.gN), .s (x.gText)], mk126⟩
  | 133 => some ⟨1, fun (x : Int) => [.i .u64 (x)], m1 (cI .u64)⟩
  | 154 => some ⟨1, fun (x : Int) => [.i .u64 (x)], m1 (cI .u64)⟩
  | 158 => some ⟨1, fun (x : List (List Int)) => [.fl 86 (x)], m1 (cF 86)⟩
  | 162 => some ⟨4, fun (x : TIns) => [.i .i64 (x.gOp), .i .i64 (x.gA), .i .i64 (x.gN), .s (x.gText)], mk162⟩
  | 1000001 => some ⟨256, fun (x : Unit) => [.i .u8 0, .i .u8 0, .i .u8 0, .i .u8 0, .i .u8 0, .i .u8 0, .i .u8 0, .i .u8 0, .i .u8 0, .i .u8 1, .i .u8 1, .i .u8 1, .i .u8 1, .i .u8 1, .i .u8 0, .i .u8 0, .i .u8 0, .i .u8 0, .i .u8 0, .i .u8 0, .i .u8 0, .i .u8 0, .i .u8 0, .i .u8 0, .i .u8 0, .i .u8 0, .i .u8 0, .i .u8 0, .i .u8 0, .i .u8 0, .i .u8 0, .i .u8 0, .i .u8 1, .i .u8 0, .i .u8 0, .i .u8 0, .i .u8 0, .i .u8 0, .i .u8 0, .i .u8 0, .i .u8 0, .i .u8 0, .i .u8 0, .i .u8 0, .i .u8 0, .i .u8 0, .i .u8 0, .i .u8 0, .i .u8 0, .i .u8 0, .i .u8 0, .i .u8 0, .i .u8 0, .i .u8 0, .i .u8 0, .i .u8 0, .i .u8 0, .i .u8 0, .i .u8 0, .i .u8 0, .i .u8 0, .i .u8 0, .i .u8 0, .i .u8 0, .i .u8 0, .i .u8 0, .i .u8 0, .i .u8 0, .i .u8 0, .i .u8 0, .i .u8 0, .i .u8 0, .i .u8 0, .i .u8 0, .i .u8 0, .i .u8 0, .i .u8 0, .i .u8 0, .i .u8 0, .i .u8 0, .i .u8 0, .i .u8 0, .i .u8 0, .i .u8 0, .i .u8 0, .i .u8 0, .i .u8 0, .i .u8 0, .i .u8 0, .i .u8 0, .i .u8 0, .i .u8 0, .i .u8 0, .i .u8 0, .i .u8 0, .i .u8 0, .i .u8 0, .i .u8 0, .i .u8 0, .i .u8 0, .i .u8 0, .i .u8 0, .i .u8 0, .i .u8 0, .i .u8 0, .i .u8 0, .i .u8 0, .i .u8 0, .i .u8 0, .i .u8 0, .i .u8 0, .i .u8 0, .i .u8 0, .i .u8 0, .i .u8 0, .i .u8 0, .i .u8 0, .i .u8 0, .i .u8 0, .i .u8 0, .i .u8 0, .i .u8 0, .i .u8 0, .i .u8 0, .i .u8 0, .i .u8 0, .i .u8 0, .i .u8 0, .i .u8 0, .i .u8 0, .i .u8 0, .i .u8 0, .i .u8 0, .i .u8 0, .i .u8 0, .i .u8 0, .i .u8 0, .i .u8 0, .i .u8 0, .i .u8 0, .i .u8 0, .i .u8 0, .i .u8 0, .i .u8 0, .i .u8 0, .i .u8 0, .i .u8 0, .i .u8 0, .i .u8 0, .i .u8 0, .i .u8 0, .i .u8 0, .i .u8 0, .i .u8 0, .i .u8 0, .i .u8 0, .i .u8 0, .i .u8 0, .i .u8 0, .i .u8 0, .i .u8 0, .i .u8 0, .i .u8 0, .i .u8 0, .i .u8 0, .i .u8 0, .i .u8 0, .i .u8 0, .i .u8 0, .i .u8 0, .i .u8 0, .i .u8 0, .i .u8 0, .i .u8 0, .i .u8 0, .i .u8 0, .i .u8 0, .i .u8 0, .i .u8 0, .i .u8 0, .i .u8 0, .i .u8 0, .i .u8 0, .i .u8 0, .i .u8 0, .i .u8 0, .i .u8 0, .i .u8 0, .i .u8 0, .i .u8 0, .i .u8 0, .i .u8 0, .i .u8 0, .i .u8 0, .i .u8 0, .i .u8 0, .i .u8 0, .i .u8 0, .i .u8 0, .i .u8 0, .i .u8 0, .i .u8 0, .i .u8 0, .i .u8 0, .i .u8 0, .i .u8 0, .i .u8 0, .i .u8 0, .i .u8 0, .i .u8 0, .i .u8 0, .i .u8 0, .i .u8 0, .i .u8 0, .i .u8 0, .i .u8 0, .i .u8 0, .i .u8 0, .i .u8 0, .i .u8 0, .i .u8 0, .i .u8 0, .i .u8 0, .i .u8 0, .i .u8 0, .i .u8 0, .i .u8 0, .i .u8 0, .i .u8 0, .i .u8 0, .i .u8 0, .i .u8 0, .i .u8 0, .i .u8 0, .i .u8 0, .i .u8 0, .i .u8 0, .i .u8 0, .i .u8 0, .i .u8 0, .i .u8 0, .i .u8 0, .i .u8 0, .i .u8 0, .i .u8 0, .i .u8 0, .i .u8 0, .i .u8 0, .i .u8 0, .i .u8 0, .i .u8 0, .i .u8 0, .i .u8 0, .i .u8 0, .i .u8 0, .i .u8 0], fun _ => none⟩
  | _ => none
def u8F : (T : Nat) → Option (Dn T → Int)
  | 5 => some fun (x : Int) => x
  | _ => none
def globF : Nat → Option (Sigma fun T => Dn T)
  | 0 => some ⟨86, ([0, 2, 1, 2, 2, 2, 10, 3, 2, 10, 2, 2, 10] : List Int)⟩
  | 1 => some ⟨1000001, ()⟩
  | 2 => some ⟨23, ([(⟨#[]⟩ : ByteArray), (⟨#[98, 111, 111, 108]⟩ : ByteArray), (⟨#[116, 101, 120, 116]⟩ : ByteArray), (⟨#[117, 56]⟩ : ByteArray), (⟨#[117, 49, 54]⟩ : ByteArray), (⟨#[117, 51, 50]⟩ : ByteArray), (⟨#[117, 54, 52]⟩ : ByteArray), (⟨#[105, 56]⟩ : ByteArray), (⟨#[105, 49, 54]⟩ : ByteArray), (⟨#[105, 51, 50]⟩ : ByteArray), (⟨#[105, 54, 52]⟩ : ByteArray)] : List ByteArray)⟩
  | _ => none
def ganyF : Nat → Option IntKind
  | _ => none
instance enc : Enc := encOf fam rowF globF ganyF u8F fun n => Nat.beq n 90
theorem mk27_w {cs : List PV} {x : TMachine} (h : mk27 cs = some x) : Ws cs [.fl 66 (x.gCodes), .fl 9 (x.gArgs), .fl 9 (x.gOuts), .fl 70 (x.gFrames), .i .i64 (x.gSteps), .i .i64 (x.gLooks), .i .i64 (x.gKind), .s (x.gName), .s (x.gHold), .b (x.gOver), .i .i64 (x.gEnd), .s (x.gText), .fl 72 (x.gFiles), .fl 9 (x.gSaid)] := by
  unfold mk27 at h
  split at h
  · obtain ⟨a0, h0, h⟩ := ob h; obtain ⟨a1, h1, h⟩ := ob h; obtain ⟨a2, h2, h⟩ := ob h; obtain ⟨a3, h3, h⟩ := ob h; obtain ⟨a4, h4, h⟩ := ob h; obtain ⟨a5, h5, h⟩ := ob h; obtain ⟨a6, h6, h⟩ := ob h; obtain ⟨a7, h7, h⟩ := ob h; obtain ⟨a8, h8, h⟩ := ob h; obtain ⟨a9, h9, h⟩ := ob h; obtain ⟨a10, h10, h⟩ := ob h; obtain ⟨a11, h11, h⟩ := ob h; obtain ⟨a12, h12, h⟩ := ob h; obtain ⟨a13, h13, h⟩ := ob h; have h := Option.some.inj h; subst h
    exact .cons (cF_w h0) (.cons (cF_w h1) (.cons (cF_w h2) (.cons (cF_w h3) (.cons (cI_w h4) (.cons (cI_w h5) (.cons (cI_w h6) (.cons (cS_w h7) (.cons (cS_w h8) (.cons (cB_w h9) (.cons (cI_w h10) (.cons (cS_w h11) (.cons (cF_w h12) (.cons (cF_w h13) (.nil))))))))))))))
  · simp at h
theorem mk34_w {cs : List PV} {x : TMachine} (h : mk34 cs = some x) : Ws cs [.fl 53 (x.gCodes), .fl 9 (x.gArgs), .fl 9 (x.gOuts), .fl 78 (x.gFrames), .i .i64 (x.gSteps), .i .i64 (x.gLooks), .i .i64 (x.gKind), .s (x.gName), .s (x.gHold), .b (x.gOver), .i .i64 (x.gEnd), .s (x.gText), .fl 49 (x.gFiles), .fl 9 (x.gSaid)] := by
  unfold mk34 at h
  split at h
  · obtain ⟨a0, h0, h⟩ := ob h; obtain ⟨a1, h1, h⟩ := ob h; obtain ⟨a2, h2, h⟩ := ob h; obtain ⟨a3, h3, h⟩ := ob h; obtain ⟨a4, h4, h⟩ := ob h; obtain ⟨a5, h5, h⟩ := ob h; obtain ⟨a6, h6, h⟩ := ob h; obtain ⟨a7, h7, h⟩ := ob h; obtain ⟨a8, h8, h⟩ := ob h; obtain ⟨a9, h9, h⟩ := ob h; obtain ⟨a10, h10, h⟩ := ob h; obtain ⟨a11, h11, h⟩ := ob h; obtain ⟨a12, h12, h⟩ := ob h; obtain ⟨a13, h13, h⟩ := ob h; have h := Option.some.inj h; subst h
    exact .cons (cF_w h0) (.cons (cF_w h1) (.cons (cF_w h2) (.cons (cF_w h3) (.cons (cI_w h4) (.cons (cI_w h5) (.cons (cI_w h6) (.cons (cS_w h7) (.cons (cS_w h8) (.cons (cB_w h9) (.cons (cI_w h10) (.cons (cS_w h11) (.cons (cF_w h12) (.cons (cF_w h13) (.nil))))))))))))))
  · simp at h
theorem mk47_w {cs : List PV} {x : TJob} (h : mk47 cs = some x) : Ws cs [.s (x.gArg), .fl 9 (x.gOuts)] := by
  unfold mk47 at h
  split at h
  · obtain ⟨a0, h0, h⟩ := ob h; obtain ⟨a1, h1, h⟩ := ob h; have h := Option.some.inj h; subst h
    exact .cons (cS_w h0) (.cons (cF_w h1) (.nil))
  · simp at h
theorem mk49_w {cs : List PV} {x : TFile} (h : mk49 cs = some x) : Ws cs [.s (x.gName), .s (x.gText)] := by
  unfold mk49 at h
  split at h
  · obtain ⟨a0, h0, h⟩ := ob h; obtain ⟨a1, h1, h⟩ := ob h; have h := Option.some.inj h; subst h
    exact .cons (cS_w h0) (.cons (cS_w h1) (.nil))
  · simp at h
theorem mk53_w {cs : List PV} {x : TCode} (h : mk53 cs = some x) : Ws cs [.fl 89 (x.gFns)] := by
  unfold mk53 at h
  split at h
  · obtain ⟨a0, h0, h⟩ := ob h; have h := Option.some.inj h; subst h
    exact .cons (cF_w h0) (.nil)
  · simp at h
theorem mk66_w {cs : List PV} {x : TCode} (h : mk66 cs = some x) : Ws cs [.fl 124 (x.gFns)] := by
  unfold mk66 at h
  split at h
  · obtain ⟨a0, h0, h⟩ := ob h; have h := Option.some.inj h; subst h
    exact .cons (cF_w h0) (.nil)
  · simp at h
theorem mk70_w {cs : List PV} {x : TFrame} (h : mk70 cs = some x) : Ws cs [.i .i64 (x.gCode), .i .i64 (x.gFn), .i .i64 (x.gAt), .fl 126 (x.gSlots), .fl 126 (x.gStack)] := by
  unfold mk70 at h
  split at h
  · obtain ⟨a0, h0, h⟩ := ob h; obtain ⟨a1, h1, h⟩ := ob h; obtain ⟨a2, h2, h⟩ := ob h; obtain ⟨a3, h3, h⟩ := ob h; obtain ⟨a4, h4, h⟩ := ob h; have h := Option.some.inj h; subst h
    exact .cons (cI_w h0) (.cons (cI_w h1) (.cons (cI_w h2) (.cons (cF_w h3) (.cons (cF_w h4) (.nil)))))
  · simp at h
theorem mk72_w {cs : List PV} {x : TFile} (h : mk72 cs = some x) : Ws cs [.s (x.gName), .s (x.gText)] := by
  unfold mk72 at h
  split at h
  · obtain ⟨a0, h0, h⟩ := ob h; obtain ⟨a1, h1, h⟩ := ob h; have h := Option.some.inj h; subst h
    exact .cons (cS_w h0) (.cons (cS_w h1) (.nil))
  · simp at h
theorem mk78_w {cs : List PV} {x : TFrame} (h : mk78 cs = some x) : Ws cs [.i .i64 (x.gCode), .i .i64 (x.gFn), .i .i64 (x.gAt), .fl 108 (x.gSlots), .fl 108 (x.gStack)] := by
  unfold mk78 at h
  split at h
  · obtain ⟨a0, h0, h⟩ := ob h; obtain ⟨a1, h1, h⟩ := ob h; obtain ⟨a2, h2, h⟩ := ob h; obtain ⟨a3, h3, h⟩ := ob h; obtain ⟨a4, h4, h⟩ := ob h; have h := Option.some.inj h; subst h
    exact .cons (cI_w h0) (.cons (cI_w h1) (.cons (cI_w h2) (.cons (cF_w h3) (.cons (cF_w h4) (.nil)))))
  · simp at h
theorem mk89_w {cs : List PV} {x : TFn} (h : mk89 cs = some x) : Ws cs [.s (x.gName), .fl 3 (x.gParams), .i .i64 (x.gResult), .i .i64 (x.gSlots), .fl 98 (x.gIns)] := by
  unfold mk89 at h
  split at h
  · obtain ⟨a0, h0, h⟩ := ob h; obtain ⟨a1, h1, h⟩ := ob h; obtain ⟨a2, h2, h⟩ := ob h; obtain ⟨a3, h3, h⟩ := ob h; obtain ⟨a4, h4, h⟩ := ob h; have h := Option.some.inj h; subst h
    exact .cons (cS_w h0) (.cons (cF_w h1) (.cons (cI_w h2) (.cons (cI_w h3) (.cons (cF_w h4) (.nil)))))
  · simp at h
theorem mk92_w {cs : List PV} {x : TKey} (h : mk92 cs = some x) : Ws cs [.i .i64 (x.gc), .i .i64 (x.gf)] := by
  unfold mk92 at h
  split at h
  · obtain ⟨a0, h0, h⟩ := ob h; obtain ⟨a1, h1, h⟩ := ob h; have h := Option.some.inj h; subst h
    exact .cons (cI_w h0) (.cons (cI_w h1) (.nil))
  · simp at h
theorem mk96_w {cs : List PV} {x : TShape} (h : mk96 cs = some x) : Ws cs [.i .i64 (x.gState), .fl 3 (x.gSlots), .fl 3 (x.gStack)] := by
  unfold mk96 at h
  split at h
  · obtain ⟨a0, h0, h⟩ := ob h; obtain ⟨a1, h1, h⟩ := ob h; obtain ⟨a2, h2, h⟩ := ob h; have h := Option.some.inj h; subst h
    exact .cons (cI_w h0) (.cons (cF_w h1) (.cons (cF_w h2) (.nil)))
  · simp at h
theorem mk98_w {cs : List PV} {x : TIns} (h : mk98 cs = some x) : Ws cs [.i .i64 (x.gOp), .i .i64 (x.gA), .i .i64 (x.gN), .s (x.gText)] := by
  unfold mk98 at h
  split at h
  · obtain ⟨a0, h0, h⟩ := ob h; obtain ⟨a1, h1, h⟩ := ob h; obtain ⟨a2, h2, h⟩ := ob h; obtain ⟨a3, h3, h⟩ := ob h; have h := Option.some.inj h; subst h
    exact .cons (cI_w h0) (.cons (cI_w h1) (.cons (cI_w h2) (.cons (cS_w h3) (.nil))))
  · simp at h
theorem mk108_w {cs : List PV} {x : TValue} (h : mk108 cs = some x) : Ws cs [.i .i64 (x.gType), .i .i64 (x.gN), .s (x.gText)] := by
  unfold mk108 at h
  split at h
  · obtain ⟨a0, h0, h⟩ := ob h; obtain ⟨a1, h1, h⟩ := ob h; obtain ⟨a2, h2, h⟩ := ob h; have h := Option.some.inj h; subst h
    exact .cons (cI_w h0) (.cons (cI_w h1) (.cons (cS_w h2) (.nil)))
  · simp at h
theorem mk124_w {cs : List PV} {x : TFn} (h : mk124 cs = some x) : Ws cs [.s (x.gName), .fl 3 (x.gParams), .i .i64 (x.gResult), .i .i64 (x.gSlots), .fl 162 (x.gIns)] := by
  unfold mk124 at h
  split at h
  · obtain ⟨a0, h0, h⟩ := ob h; obtain ⟨a1, h1, h⟩ := ob h; obtain ⟨a2, h2, h⟩ := ob h; obtain ⟨a3, h3, h⟩ := ob h; obtain ⟨a4, h4, h⟩ := ob h; have h := Option.some.inj h; subst h
    exact .cons (cS_w h0) (.cons (cF_w h1) (.cons (cI_w h2) (.cons (cI_w h3) (.cons (cF_w h4) (.nil)))))
  · simp at h
theorem mk126_w {cs : List PV} {x : TValue} (h : mk126 cs = some x) : Ws cs [.i .i64 (x.gType), .i .i64 (x.gN), .s (x.gText)] := by
  unfold mk126 at h
  split at h
  · obtain ⟨a0, h0, h⟩ := ob h; obtain ⟨a1, h1, h⟩ := ob h; obtain ⟨a2, h2, h⟩ := ob h; have h := Option.some.inj h; subst h
    exact .cons (cI_w h0) (.cons (cI_w h1) (.cons (cS_w h2) (.nil)))
  · simp at h
theorem mk162_w {cs : List PV} {x : TIns} (h : mk162 cs = some x) : Ws cs [.i .i64 (x.gOp), .i .i64 (x.gA), .i .i64 (x.gN), .s (x.gText)] := by
  unfold mk162 at h
  split at h
  · obtain ⟨a0, h0, h⟩ := ob h; obtain ⟨a1, h1, h⟩ := ob h; obtain ⟨a2, h2, h⟩ := ob h; obtain ⟨a3, h3, h⟩ := ob h; have h := Option.some.inj h; subst h
    exact .cons (cI_w h0) (.cons (cI_w h1) (.cons (cI_w h2) (.cons (cS_w h3) (.nil))))
  · simp at h
theorem encOk : EncOk := by
  refine encOf_ok (fun T r h => ?_) (fun T f h => ?_)
  · revert r
    unfold rowF
    split
    · exact fun r => rok ⟨fun x => rfl, fun x => rfl, fun x => rfl, fun cs x h => m1_w cI_w h, fun h x => by first | rfl | exact absurd h (by decide)⟩
    · exact fun r => rok ⟨fun x => rfl, fun x => rfl, fun x => rfl, fun cs x h => m1_w cI_w h, fun h x => by first | rfl | exact absurd h (by decide)⟩
    · exact fun r => rok ⟨fun x => rfl, fun x => rfl, fun x => rfl, fun cs x h => m1_w cB_w h, fun h x => by first | rfl | exact absurd h (by decide)⟩
    · exact fun r => rok ⟨fun x => rfl, fun x => rfl, fun x => rfl, fun cs x h => m1_w cI_w h, fun h x => by first | rfl | exact absurd h (by decide)⟩
    · exact fun r => rok ⟨fun x => rfl, fun x => rfl, fun x => rfl, fun cs x h => m1_w cS_w h, fun h x => by first | rfl | exact absurd h (by decide)⟩
    · exact fun r => rok ⟨fun x => rfl, fun x => rfl, fun x => rfl, fun cs x h => m1_w cF_w h, fun h x => by first | rfl | exact absurd h (by decide)⟩
    · exact fun r => rok ⟨fun x => rfl, fun x => rfl, fun x => rfl, fun cs x h => m1_w cF_w h, fun h x => by first | rfl | exact absurd h (by decide)⟩
    · exact fun r => rok ⟨fun x => rfl, fun x => rfl, fun x => rfl, fun cs x h => m1_w cF_w h, fun h x => by first | rfl | exact absurd h (by decide)⟩
    · exact fun r => rok ⟨fun x => rfl, fun x => rfl, fun x => rfl, fun cs x h => m1_w cF_w h, fun h x => by first | rfl | exact absurd h (by decide)⟩
    · exact fun r => rok ⟨fun x => rfl, fun x => rfl, fun x => rfl, fun cs x h => mk27_w h, fun h x => by first | rfl | exact absurd h (by decide)⟩
    · exact fun r => rok ⟨fun x => rfl, fun x => rfl, fun x => rfl, fun cs x h => m1_w cF_w h, fun h x => by first | rfl | exact absurd h (by decide)⟩
    · exact fun r => rok ⟨fun x => rfl, fun x => rfl, fun x => rfl, fun cs x h => m1_w cF_w h, fun h x => by first | rfl | exact absurd h (by decide)⟩
    · exact fun r => rok ⟨fun x => rfl, fun x => rfl, fun x => rfl, fun cs x h => m1_w cF_w h, fun h x => by first | rfl | exact absurd h (by decide)⟩
    · exact fun r => rok ⟨fun x => rfl, fun x => rfl, fun x => rfl, fun cs x h => mk34_w h, fun h x => by first | rfl | exact absurd h (by decide)⟩
    · exact fun r => rok ⟨fun x => rfl, fun x => rfl, fun x => rfl, fun cs x h => mk47_w h, fun h x => by first | rfl | exact absurd h (by decide)⟩
    · exact fun r => rok ⟨fun x => rfl, fun x => rfl, fun x => rfl, fun cs x h => mk49_w h, fun h x => by first | rfl | exact absurd h (by decide)⟩
    · exact fun r => rok ⟨fun x => rfl, fun x => rfl, fun x => rfl, fun cs x h => m1_w cF_w h, fun h x => by first | rfl | exact absurd h (by decide)⟩
    · exact fun r => rok ⟨fun x => rfl, fun x => rfl, fun x => rfl, fun cs x h => mk53_w h, fun h x => by first | rfl | exact absurd h (by decide)⟩
    · exact fun r => rok ⟨fun x => rfl, fun x => rfl, fun x => rfl, fun cs x h => m1_w cF_w h, fun h x => by first | rfl | exact absurd h (by decide)⟩
    · exact fun r => rok ⟨fun x => rfl, fun x => rfl, fun x => rfl, fun cs x h => mk66_w h, fun h x => by first | rfl | exact absurd h (by decide)⟩
    · exact fun r => rok ⟨fun x => rfl, fun x => rfl, fun x => rfl, fun cs x h => m1_w cF_w h, fun h x => by first | rfl | exact absurd h (by decide)⟩
    · exact fun r => rok ⟨fun x => rfl, fun x => rfl, fun x => rfl, fun cs x h => mk70_w h, fun h x => by first | rfl | exact absurd h (by decide)⟩
    · exact fun r => rok ⟨fun x => rfl, fun x => rfl, fun x => rfl, fun cs x h => mk72_w h, fun h x => by first | rfl | exact absurd h (by decide)⟩
    · exact fun r => rok ⟨fun x => rfl, fun x => rfl, fun x => rfl, fun cs x h => m1_w cF_w h, fun h x => by first | rfl | exact absurd h (by decide)⟩
    · exact fun r => rok ⟨fun x => rfl, fun x => rfl, fun x => rfl, fun cs x h => mk78_w h, fun h x => by first | rfl | exact absurd h (by decide)⟩
    · exact fun r => rok ⟨fun x => rfl, fun x => rfl, fun x => rfl, fun cs x h => m1_w cF_w h, fun h x => by first | rfl | exact absurd h (by decide)⟩
    · exact fun r => rok ⟨fun x => rfl, fun x => rfl, fun x => rfl, fun cs x h => m1_w cF_w h, fun h x => by first | rfl | exact absurd h (by decide)⟩
    · exact fun r => rok ⟨fun x => rfl, fun x => rfl, fun x => rfl, fun cs x h => mk89_w h, fun h x => by first | rfl | exact absurd h (by decide)⟩
    · exact fun r => rok ⟨fun x => rfl, fun x => rfl, fun x => rfl, fun cs x h => m1_w cO_w h, fun h x => by first | rfl | exact absurd h (by decide)⟩
    · exact fun r => rok ⟨fun x => rfl, fun x => rfl, fun x => rfl, fun cs x h => mk92_w h, fun h x => by first | rfl | exact absurd h (by decide)⟩
    · exact fun r => rok ⟨fun x => rfl, fun x => rfl, fun x => rfl, fun cs x h => mk96_w h, fun h x => by first | rfl | exact absurd h (by decide)⟩
    · exact fun r => rok ⟨fun x => rfl, fun x => rfl, fun x => rfl, fun cs x h => mk98_w h, fun h x => by first | rfl | exact absurd h (by decide)⟩
    · exact fun r => rok ⟨fun x => rfl, fun x => rfl, fun x => rfl, fun cs x h => mk108_w h, fun h x => by first | rfl | exact absurd h (by decide)⟩
    · exact fun r => rok ⟨fun x => rfl, fun x => rfl, fun x => rfl, fun cs x h => m1_w cF_w h, fun h x => by first | rfl | exact absurd h (by decide)⟩
    · exact fun r => rok ⟨fun x => rfl, fun x => rfl, fun x => rfl, fun cs x h => m1_w cF_w h, fun h x => by first | rfl | exact absurd h (by decide)⟩
    · exact fun r => rok ⟨fun x => rfl, fun x => rfl, fun x => rfl, fun cs x h => mk124_w h, fun h x => by first | rfl | exact absurd h (by decide)⟩
    · exact fun r => rok ⟨fun x => rfl, fun x => rfl, fun x => rfl, fun cs x h => mk126_w h, fun h x => by first | rfl | exact absurd h (by decide)⟩
    · exact fun r => rok ⟨fun x => rfl, fun x => rfl, fun x => rfl, fun cs x h => m1_w cI_w h, fun h x => by first | rfl | exact absurd h (by decide)⟩
    · exact fun r => rok ⟨fun x => rfl, fun x => rfl, fun x => rfl, fun cs x h => m1_w cI_w h, fun h x => by first | rfl | exact absurd h (by decide)⟩
    · exact fun r => rok ⟨fun x => rfl, fun x => rfl, fun x => rfl, fun cs x h => m1_w cF_w h, fun h x => by first | rfl | exact absurd h (by decide)⟩
    · exact fun r => rok ⟨fun x => rfl, fun x => rfl, fun x => rfl, fun cs x h => mk162_w h, fun h x => by first | rfl | exact absurd h (by decide)⟩
    · intro r h; have h := Option.some.inj h; subst h; exact ⟨fun x => rfl, fun x => rfl, fun x => rfl, fun cs x h => absurd h (by simp), fun h x => h⟩
    · intro r h; exact absurd h (by simp)
  · revert f
    unfold u8F
    split
    · intro f h; have h := Option.some.inj h; subst h; exact ⟨rfl, fun x => rfl, fun n => ⟨n, rfl⟩⟩
    · intro f h; exact absurd h (by simp)
def rows : List (Nat × Ent) := [(0, e1 .other 0 1 none),
  (2, e1 (.int .i64) 8 1 (some [.i .i64 0])),
  (3, e1 (.int .i64) 8 1 (some [.i .i64 0])),
  (4, e1 .bool 1 1 (some [.b false])),
  (5, e1 (.int .u8) 1 1 (some [.i .u8 0])),
  (9, e1 .str 16 1 (some [.s ⟨#[]⟩])),
  (22, e1 (.slice 66) 24 1 (some [.nl])),
  (23, e1 (.slice 9) 24 1 (some [.nl])),
  (24, e1 (.slice 70) 24 1 (some [.nl])),
  (25, e1 (.slice 72) 24 1 (some [.nl])),
  (27, ⟨.struct, 232, 14, some [.nl, .nl, .nl, .nl, .i .i64 0, .i .i64 0, .i .i64 0, .s ⟨#[]⟩, .s ⟨#[]⟩, .b false, .i .i64 0, .s ⟨#[]⟩, .nl, .nl], [(0, 1), (1, 1), (2, 1), (3, 1), (4, 1), (5, 1), (6, 1), (7, 1), (8, 1), (9, 1), (10, 1), (11, 1), (12, 1), (13, 1)], false, [], false, 0⟩),
  (30, e1 (.slice 53) 24 1 (some [.nl])),
  (31, e1 (.slice 78) 24 1 (some [.nl])),
  (32, e1 (.slice 49) 24 1 (some [.nl])),
  (34, ⟨.struct, 232, 14, some [.nl, .nl, .nl, .nl, .i .i64 0, .i .i64 0, .i .i64 0, .s ⟨#[]⟩, .s ⟨#[]⟩, .b false, .i .i64 0, .s ⟨#[]⟩, .nl, .nl], [(0, 1), (1, 1), (2, 1), (3, 1), (4, 1), (5, 1), (6, 1), (7, 1), (8, 1), (9, 1), (10, 1), (11, 1), (12, 1), (13, 1)], false, [], false, 0⟩),
  (47, ⟨.struct, 40, 2, some [.s ⟨#[]⟩, .nl], [(0, 1), (1, 1)], false, [], false, 0⟩),
  (49, ⟨.struct, 32, 2, some [.s ⟨#[]⟩, .s ⟨#[]⟩], [(0, 1), (1, 1)], true, [], false, 0⟩),
  (51, e1 (.slice 89) 24 1 (some [.nl])),
  (53, ⟨.struct, 24, 1, some [.nl], [(0, 1)], false, [], false, 0⟩),
  (64, e1 (.slice 124) 24 1 (some [.nl])),
  (66, ⟨.struct, 24, 1, some [.nl], [(0, 1)], false, [], false, 0⟩),
  (68, e1 (.slice 126) 24 1 (some [.nl])),
  (70, ⟨.struct, 72, 5, some [.i .i64 0, .i .i64 0, .i .i64 0, .nl, .nl], [(0, 1), (1, 1), (2, 1), (3, 1), (4, 1)], false, [], false, 0⟩),
  (72, ⟨.struct, 32, 2, some [.s ⟨#[]⟩, .s ⟨#[]⟩], [(0, 1), (1, 1)], true, [], false, 0⟩),
  (74, e1 .other 0 1 none),
  (76, e1 (.slice 108) 24 1 (some [.nl])),
  (78, ⟨.struct, 72, 5, some [.i .i64 0, .i .i64 0, .i .i64 0, .nl, .nl], [(0, 1), (1, 1), (2, 1), (3, 1), (4, 1)], false, [], false, 0⟩),
  (84, e1 (.ptr 34) 8 1 (some [.np])),
  (85, e1 (.mapP 90) 8 1 (some [.zo 1])),
  (86, e1 (.slice 3) 24 1 (some [.nl])),
  (87, e1 (.slice 98) 24 1 (some [.nl])),
  (89, ⟨.struct, 80, 5, some [.s ⟨#[]⟩, .nl, .i .i64 0, .i .i64 0, .nl], [(0, 1), (1, 1), (2, 1), (3, 1), (4, 1)], false, [], false, 0⟩),
  (90, e1 (.slice 96) 24 1 (some [.nl])),
  (92, ⟨.struct, 16, 2, some [.i .i64 0, .i .i64 0], [(0, 1), (1, 1)], true, [], false, 0⟩),
  (93, e1 .other 0 1 none),
  (96, ⟨.struct, 56, 3, some [.i .i64 0, .nl, .nl], [(0, 1), (1, 1), (2, 1)], false, [3, 86, 86], false, 0⟩),
  (98, ⟨.struct, 40, 4, some [.i .i64 0, .i .i64 0, .i .i64 0, .s ⟨#[]⟩], [(0, 1), (1, 1), (2, 1), (3, 1)], true, [], false, 0⟩),
  (108, ⟨.struct, 32, 3, some [.i .i64 0, .i .i64 0, .s ⟨#[]⟩], [(0, 1), (1, 1), (2, 1)], true, [], false, 0⟩),
  (110, e1 .other 0 1 none),
  (114, e1 (.slice 4) 24 1 (some [.nl])),
  (115, e1 .other 0 1 none),
  (122, e1 (.slice 162) 24 1 (some [.nl])),
  (124, ⟨.struct, 80, 5, some [.s ⟨#[]⟩, .nl, .i .i64 0, .i .i64 0, .nl], [(0, 1), (1, 1), (2, 1), (3, 1), (4, 1)], false, [], false, 0⟩),
  (126, ⟨.struct, 32, 3, some [.i .i64 0, .i .i64 0, .s ⟨#[]⟩], [(0, 1), (1, 1), (2, 1)], true, [], false, 0⟩),
  (129, e1 .other 0 1 none),
  (133, e1 (.int .u64) 8 1 (some [.i .u64 0])),
  (134, e1 .other 0 1 none),
  (139, e1 (.map 4) 8 1 (some [.zo 1])),
  (141, e1 .other 8 1 (some [.zo 0])),
  (142, e1 .other 8 1 (some [.zo 0])),
  (152, e1 .other 0 1 none),
  (154, e1 (.int .u64) 8 1 (some [.i .u64 0])),
  (157, e1 .other 8 1 (some [.zo 0])),
  (158, e1 (.slice 86) 24 1 (some [.nl])),
  (162, ⟨.struct, 40, 4, some [.i .i64 0, .i .i64 0, .i .i64 0, .s ⟨#[]⟩], [(0, 1), (1, 1), (2, 1), (3, 1)], true, [], false, 0⟩)]
theorem tab_ok : TabOk Go.Proofs.Tryz.prog (tabOf rows) ∧ ∀ t z, (tabOf rows).flat t = some z → FlatOk Go.Proofs.Tryz.prog t z := tabB_ok encOk (by kernel_rfl)
end Go.KM.M1
