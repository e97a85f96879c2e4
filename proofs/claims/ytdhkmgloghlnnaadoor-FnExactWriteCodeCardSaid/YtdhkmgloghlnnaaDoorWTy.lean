/- The tables of the law's functions. Conditions: none. -/
import Derived.Test.YtdhkmgloghlnnaaDoorKmX
import Derived.KernelRfl
import Derived.Test.YtdhkmgloghlnnaaDoorProg
namespace Go.KM.W1
open Go Go.KM
open Go.KM.Fam (Dn dflt)
open Go.KM.Enc (cells sz mkE glob gany u8)
set_option autoImplicit false
set_option linter.unusedVariables false
set_option maxRecDepth 100000
structure TValue where
  gType : Int
  gN : Int
  gText : ByteArray
def TValue.z : TValue := ⟨0, 0, ⟨#[]⟩⟩
structure TIns where
  gOp : Int
  gA : Int
  gN : Int
  gText : ByteArray
def TIns.z : TIns := ⟨0, 0, 0, ⟨#[]⟩⟩
structure TFn where
  gName : ByteArray
  gParams : List Int
  gResult : Int
  gSlots : Int
  gIns : List TIns
def TFn.z : TFn := ⟨⟨#[]⟩, [], 0, 0, []⟩
structure TCode where
  gFns : List TFn
def TCode.z : TCode := ⟨[]⟩
structure TShape where
  gState : Int
  gSlots : List Int
  gStack : List Int
def TShape.z : TShape := ⟨0, [], []⟩
def base : Nat → Sigma fun α : Type => α
  | 2 => ⟨Int, 0⟩
  | 3 => ⟨Int, 0⟩
  | 4 => ⟨Bool, false⟩
  | 5 => ⟨Int, 0⟩
  | 9 => ⟨ByteArray, ⟨#[]⟩⟩
  | 33 => ⟨List TFn, []⟩
  | 35 => ⟨TCode, ⟨[]⟩⟩
  | 39 => ⟨List TFn, []⟩
  | 41 => ⟨TCode, ⟨[]⟩⟩
  | 51 => ⟨List (List Int), []⟩
  | 54 => ⟨List Int, []⟩
  | 64 => ⟨List TShape, []⟩
  | 67 => ⟨TShape, ⟨0, [], []⟩⟩
  | 69 => ⟨List TIns, []⟩
  | 71 => ⟨TFn, ⟨⟨#[]⟩, [], 0, 0, []⟩⟩
  | 85 => ⟨List Int, []⟩
  | 93 => ⟨Int, 0⟩
  | 104 => ⟨List TIns, []⟩
  | 106 => ⟨TFn, ⟨⟨#[]⟩, [], 0, 0, []⟩⟩
  | 111 => ⟨TIns, ⟨0, 0, 0, ⟨#[]⟩⟩⟩
  | 121 => ⟨List Bool, []⟩
  | 143 => ⟨Bool, true⟩
  | 157 => ⟨TValue, ⟨0, 0, ⟨#[]⟩⟩⟩
  | 169 => ⟨Int, 0⟩
  | 171 => ⟨List ByteArray, []⟩
  | 175 => ⟨TIns, ⟨0, 0, 0, ⟨#[]⟩⟩⟩
  | _ => ⟨Unit, ()⟩
instance fam : Fam where
  Dn n := (base n).1
  dflt n := (base n).2
def mk2 (cs : List PV) : Option Int :=
  match cs with
  | [p0] => obind (cI .i64 p0) fun a0 => some (a0)
  | _ => none
def mk3 (cs : List PV) : Option Int :=
  match cs with
  | [p0] => obind (cI .i64 p0) fun a0 => some (a0)
  | _ => none
def mk4 (cs : List PV) : Option Bool :=
  match cs with
  | [p0] => obind (cB p0) fun a0 => some (a0)
  | _ => none
def mk5 (cs : List PV) : Option Int :=
  match cs with
  | [p0] => obind (cI .u8 p0) fun a0 => some (a0)
  | _ => none
def mk9 (cs : List PV) : Option ByteArray :=
  match cs with
  | [p0] => obind (cS p0) fun a0 => some (a0)
  | _ => none
def mk33 (cs : List PV) : Option (List TFn) :=
  match cs with
  | [p0] => obind (cF 106 p0) fun a0 => some (a0)
  | _ => none
def mk35 (cs : List PV) : Option TCode :=
  match cs with
  | [p0] => obind (cF 106 p0) fun a0 => some (⟨a0⟩)
  | _ => none
def mk39 (cs : List PV) : Option (List TFn) :=
  match cs with
  | [p0] => obind (cF 71 p0) fun a0 => some (a0)
  | _ => none
def mk41 (cs : List PV) : Option TCode :=
  match cs with
  | [p0] => obind (cF 71 p0) fun a0 => some (⟨a0⟩)
  | _ => none
def mk51 (cs : List PV) : Option (List (List Int)) :=
  match cs with
  | [p0] => obind (cF 54 p0) fun a0 => some (a0)
  | _ => none
def mk54 (cs : List PV) : Option (List Int) :=
  match cs with
  | [p0] => obind (cF 3 p0) fun a0 => some (a0)
  | _ => none
def mk64 (cs : List PV) : Option (List TShape) :=
  match cs with
  | [p0] => obind (cF 67 p0) fun a0 => some (a0)
  | _ => none
def mk67 (cs : List PV) : Option TShape :=
  match cs with
  | [p0, p1, p2] => obind (cI .i64 p0) fun a0 => obind (cF 3 p1) fun a1 => obind (cF 3 p2) fun a2 => some (⟨a0, a1, a2⟩)
  | _ => none
def mk69 (cs : List PV) : Option (List TIns) :=
  match cs with
  | [p0] => obind (cF 111 p0) fun a0 => some (a0)
  | _ => none
def mk71 (cs : List PV) : Option TFn :=
  match cs with
  | [p0, p1, p2, p3, p4] => obind (cS p0) fun a0 => obind (cF 3 p1) fun a1 => obind (cI .i64 p2) fun a2 => obind (cI .i64 p3) fun a3 => obind (cF 111 p4) fun a4 => some (⟨a0, a1, a2, a3, a4⟩)
  | _ => none
def mk85 (cs : List PV) : Option (List Int) :=
  match cs with
  | [p0] => obind (cF 5 p0) fun a0 => some (a0)
  | _ => none
def mk93 (cs : List PV) : Option Int :=
  match cs with
  | [p0] => obind (cI .u64 p0) fun a0 => some (a0)
  | _ => none
def mk104 (cs : List PV) : Option (List TIns) :=
  match cs with
  | [p0] => obind (cF 175 p0) fun a0 => some (a0)
  | _ => none
def mk106 (cs : List PV) : Option TFn :=
  match cs with
  | [p0, p1, p2, p3, p4] => obind (cS p0) fun a0 => obind (cF 3 p1) fun a1 => obind (cI .i64 p2) fun a2 => obind (cI .i64 p3) fun a3 => obind (cF 175 p4) fun a4 => some (⟨a0, a1, a2, a3, a4⟩)
  | _ => none
def mk111 (cs : List PV) : Option TIns :=
  match cs with
  | [p0, p1, p2, p3] => obind (cI .i64 p0) fun a0 => obind (cI .i64 p1) fun a1 => obind (cI .i64 p2) fun a2 => obind (cS p3) fun a3 => some (⟨a0, a1, a2, a3⟩)
  | _ => none
def mk121 (cs : List PV) : Option (List Bool) :=
  match cs with
  | [p0] => obind (cF 4 p0) fun a0 => some (a0)
  | _ => none
def mk143 (cs : List PV) : Option Bool :=
  match cs with
  | [p0] => obind (cE p0) fun a0 => some (a0)
  | _ => none
def mk157 (cs : List PV) : Option TValue :=
  match cs with
  | [p0, p1, p2] => obind (cI .i64 p0) fun a0 => obind (cI .i64 p1) fun a1 => obind (cS p2) fun a2 => some (⟨a0, a1, a2⟩)
  | _ => none
def mk169 (cs : List PV) : Option Int :=
  match cs with
  | [p0] => obind (cI .u64 p0) fun a0 => some (a0)
  | _ => none
def mk171 (cs : List PV) : Option (List ByteArray) :=
  match cs with
  | [p0] => obind (cF 9 p0) fun a0 => some (a0)
  | _ => none
def mk175 (cs : List PV) : Option TIns :=
  match cs with
  | [p0, p1, p2, p3] => obind (cI .i64 p0) fun a0 => obind (cI .i64 p1) fun a1 => obind (cI .i64 p2) fun a2 => obind (cS p3) fun a3 => some (⟨a0, a1, a2, a3⟩)
  | _ => none
def rowF : (T : Nat) → Option (TyRow T)
  | 2 => some ⟨1, fun (x : Int) => [.i .i64 (x)], mk2⟩
  | 3 => some ⟨1, fun (x : Int) => [.i .i64 (x)], mk3⟩
  | 4 => some ⟨1, fun (x : Bool) => [.b (x)], mk4⟩
  | 5 => some ⟨1, fun (x : Int) => [.i .u8 (x)], mk5⟩
  | 9 => some ⟨1, fun (x : ByteArray) => [.s (x)], mk9⟩
  | 33 => some ⟨1, fun (x : List TFn) => [.fl 106 (x)], mk33⟩
  | 35 => some ⟨1, fun (x : TCode) => [.fl 106 (x.gFns)], mk35⟩
  | 39 => some ⟨1, fun (x : List TFn) => [.fl 71 (x)], mk39⟩
  | 41 => some ⟨1, fun (x : TCode) => [.fl 71 (x.gFns)], mk41⟩
  | 51 => some ⟨1, fun (x : List (List Int)) => [.fl 54 (x)], mk51⟩
  | 54 => some ⟨1, fun (x : List Int) => [.fl 3 (x)], mk54⟩
  | 64 => some ⟨1, fun (x : List TShape) => [.fl 67 (x)], mk64⟩
  | 67 => some ⟨3, fun (x : TShape) => [.i .i64 (x.gState), .fl 3 (x.gSlots), .fl 3 (x.gStack)], mk67⟩
  | 69 => some ⟨1, fun (x : List TIns) => [.fl 111 (x)], mk69⟩
  | 71 => some ⟨5, fun (x : TFn) => [.s (x.gName), .fl 3 (x.gParams), .i .i64 (x.gResult), .i .i64 (x.gSlots), .fl 111 (x.gIns)], mk71⟩
  | 85 => some ⟨1, fun (x : List Int) => [.fl 5 (x)], mk85⟩
  | 93 => some ⟨1, fun (x : Int) => [.i .u64 (x)], mk93⟩
  | 104 => some ⟨1, fun (x : List TIns) => [.fl 175 (x)], mk104⟩
  | 106 => some ⟨5, fun (x : TFn) => [.s (x.gName), .fl 3 (x.gParams), .i .i64 (x.gResult), .i .i64 (x.gSlots), .fl 175 (x.gIns)], mk106⟩
  | 111 => some ⟨4, fun (x : TIns) => [.i .i64 (x.gOp), .i .i64 (x.gA), .i .i64 (x.gN), .s (x.gText)], mk111⟩
  | 121 => some ⟨1, fun (x : List Bool) => [.fl 4 (x)], mk121⟩
  | 143 => some ⟨1, fun (x : Bool) => [.ifc (x)], mk143⟩
  | 157 => some ⟨3, fun (x : TValue) => [.i .i64 (x.gType), .i .i64 (x.gN), .s (x.gText)], mk157⟩
  | 169 => some ⟨1, fun (x : Int) => [.i .u64 (x)], mk169⟩
  | 171 => some ⟨1, fun (x : List ByteArray) => [.fl 9 (x)], mk171⟩
  | 175 => some ⟨4, fun (x : TIns) => [.i .i64 (x.gOp), .i .i64 (x.gA), .i .i64 (x.gN), .s (x.gText)], mk175⟩
  | 1000001 => some ⟨256, fun (x : Unit) => [.i .u8 0, .i .u8 0, .i .u8 0, .i .u8 0, .i .u8 0, .i .u8 0, .i .u8 0, .i .u8 0, .i .u8 0, .i .u8 1, .i .u8 1, .i .u8 1, .i .u8 1, .i .u8 1, .i .u8 0, .i .u8 0, .i .u8 0, .i .u8 0, .i .u8 0, .i .u8 0, .i .u8 0, .i .u8 0, .i .u8 0, .i .u8 0, .i .u8 0, .i .u8 0, .i .u8 0, .i .u8 0, .i .u8 0, .i .u8 0, .i .u8 0, .i .u8 0, .i .u8 1, .i .u8 0, .i .u8 0, .i .u8 0, .i .u8 0, .i .u8 0, .i .u8 0, .i .u8 0, .i .u8 0, .i .u8 0, .i .u8 0, .i .u8 0, .i .u8 0, .i .u8 0, .i .u8 0, .i .u8 0, .i .u8 0, .i .u8 0, .i .u8 0, .i .u8 0, .i .u8 0, .i .u8 0, .i .u8 0, .i .u8 0, .i .u8 0, .i .u8 0, .i .u8 0, .i .u8 0, .i .u8 0, .i .u8 0, .i .u8 0, .i .u8 0, .i .u8 0, .i .u8 0, .i .u8 0, .i .u8 0, .i .u8 0, .i .u8 0, .i .u8 0, .i .u8 0, .i .u8 0, .i .u8 0, .i .u8 0, .i .u8 0, .i .u8 0, .i .u8 0, .i .u8 0, .i .u8 0, .i .u8 0, .i .u8 0, .i .u8 0, .i .u8 0, .i .u8 0, .i .u8 0, .i .u8 0, .i .u8 0, .i .u8 0, .i .u8 0, .i .u8 0, .i .u8 0, .i .u8 0, .i .u8 0, .i .u8 0, .i .u8 0, .i .u8 0, .i .u8 0, .i .u8 0, .i .u8 0, .i .u8 0, .i .u8 0, .i .u8 0, .i .u8 0, .i .u8 0, .i .u8 0, .i .u8 0, .i .u8 0, .i .u8 0, .i .u8 0, .i .u8 0, .i .u8 0, .i .u8 0, .i .u8 0, .i .u8 0, .i .u8 0, .i .u8 0, .i .u8 0, .i .u8 0, .i .u8 0, .i .u8 0, .i .u8 0, .i .u8 0, .i .u8 0, .i .u8 0, .i .u8 0, .i .u8 0, .i .u8 0, .i .u8 0, .i .u8 0, .i .u8 0, .i .u8 0, .i .u8 0, .i .u8 0, .i .u8 0, .i .u8 0, .i .u8 0, .i .u8 0, .i .u8 0, .i .u8 0, .i .u8 0, .i .u8 0, .i .u8 0, .i .u8 0, .i .u8 0, .i .u8 0, .i .u8 0, .i .u8 0, .i .u8 0, .i .u8 0, .i .u8 0, .i .u8 0, .i .u8 0, .i .u8 0, .i .u8 0, .i .u8 0, .i .u8 0, .i .u8 0, .i .u8 0, .i .u8 0, .i .u8 0, .i .u8 0, .i .u8 0, .i .u8 0, .i .u8 0, .i .u8 0, .i .u8 0, .i .u8 0, .i .u8 0, .i .u8 0, .i .u8 0, .i .u8 0, .i .u8 0, .i .u8 0, .i .u8 0, .i .u8 0, .i .u8 0, .i .u8 0, .i .u8 0, .i .u8 0, .i .u8 0, .i .u8 0, .i .u8 0, .i .u8 0, .i .u8 0, .i .u8 0, .i .u8 0, .i .u8 0, .i .u8 0, .i .u8 0, .i .u8 0, .i .u8 0, .i .u8 0, .i .u8 0, .i .u8 0, .i .u8 0, .i .u8 0, .i .u8 0, .i .u8 0, .i .u8 0, .i .u8 0, .i .u8 0, .i .u8 0, .i .u8 0, .i .u8 0, .i .u8 0, .i .u8 0, .i .u8 0, .i .u8 0, .i .u8 0, .i .u8 0, .i .u8 0, .i .u8 0, .i .u8 0, .i .u8 0, .i .u8 0, .i .u8 0, .i .u8 0, .i .u8 0, .i .u8 0, .i .u8 0, .i .u8 0, .i .u8 0, .i .u8 0, .i .u8 0, .i .u8 0, .i .u8 0, .i .u8 0, .i .u8 0, .i .u8 0, .i .u8 0, .i .u8 0, .i .u8 0, .i .u8 0, .i .u8 0, .i .u8 0, .i .u8 0, .i .u8 0, .i .u8 0, .i .u8 0, .i .u8 0, .i .u8 0, .i .u8 0, .i .u8 0, .i .u8 0, .i .u8 0, .i .u8 0, .i .u8 0, .i .u8 0, .i .u8 0, .i .u8 0, .i .u8 0, .i .u8 0, .i .u8 0, .i .u8 0, .i .u8 0], fun _ => none⟩
  | _ => none
def u8F : (T : Nat) → Option (Dn T → Int)
  | 5 => some fun (x : Int) => x
  | _ => none
def globF : Nat → Option (Sigma fun T => Dn T)
  | 0 => some ⟨54, ([0, 2, 1, 2, 2, 2, 10, 3, 2, 10, 2, 2, 10] : List Int)⟩
  | 1 => some ⟨1000001, ()⟩
  | 2 => some ⟨171, ([(⟨#[]⟩ : ByteArray), (⟨#[98, 111, 111, 108]⟩ : ByteArray), (⟨#[116, 101, 120, 116]⟩ : ByteArray), (⟨#[117, 56]⟩ : ByteArray), (⟨#[117, 49, 54]⟩ : ByteArray), (⟨#[117, 51, 50]⟩ : ByteArray), (⟨#[117, 54, 52]⟩ : ByteArray), (⟨#[105, 56]⟩ : ByteArray), (⟨#[105, 49, 54]⟩ : ByteArray), (⟨#[105, 51, 50]⟩ : ByteArray), (⟨#[105, 54, 52]⟩ : ByteArray)] : List ByteArray)⟩
  | _ => none
def ganyF : Nat → Option IntKind
  | _ => none
instance enc : Enc := encOf fam rowF globF ganyF u8F
theorem mk2_w {cs : List PV} {x : Int} (h : mk2 cs = some x) : Ws cs [.i .i64 (x)] := by
  unfold mk2 at h
  split at h
  · obtain ⟨a0, h0, h⟩ := ob h; have h := Option.some.inj h; subst h
    exact .cons (cI_w h0) (.nil)
  · simp at h
theorem mk3_w {cs : List PV} {x : Int} (h : mk3 cs = some x) : Ws cs [.i .i64 (x)] := by
  unfold mk3 at h
  split at h
  · obtain ⟨a0, h0, h⟩ := ob h; have h := Option.some.inj h; subst h
    exact .cons (cI_w h0) (.nil)
  · simp at h
theorem mk4_w {cs : List PV} {x : Bool} (h : mk4 cs = some x) : Ws cs [.b (x)] := by
  unfold mk4 at h
  split at h
  · obtain ⟨a0, h0, h⟩ := ob h; have h := Option.some.inj h; subst h
    exact .cons (cB_w h0) (.nil)
  · simp at h
theorem mk5_w {cs : List PV} {x : Int} (h : mk5 cs = some x) : Ws cs [.i .u8 (x)] := by
  unfold mk5 at h
  split at h
  · obtain ⟨a0, h0, h⟩ := ob h; have h := Option.some.inj h; subst h
    exact .cons (cI_w h0) (.nil)
  · simp at h
theorem mk9_w {cs : List PV} {x : ByteArray} (h : mk9 cs = some x) : Ws cs [.s (x)] := by
  unfold mk9 at h
  split at h
  · obtain ⟨a0, h0, h⟩ := ob h; have h := Option.some.inj h; subst h
    exact .cons (cS_w h0) (.nil)
  · simp at h
theorem mk33_w {cs : List PV} {x : List TFn} (h : mk33 cs = some x) : Ws cs [.fl 106 (x)] := by
  unfold mk33 at h
  split at h
  · obtain ⟨a0, h0, h⟩ := ob h; have h := Option.some.inj h; subst h
    exact .cons (cF_w h0) (.nil)
  · simp at h
theorem mk35_w {cs : List PV} {x : TCode} (h : mk35 cs = some x) : Ws cs [.fl 106 (x.gFns)] := by
  unfold mk35 at h
  split at h
  · obtain ⟨a0, h0, h⟩ := ob h; have h := Option.some.inj h; subst h
    exact .cons (cF_w h0) (.nil)
  · simp at h
theorem mk39_w {cs : List PV} {x : List TFn} (h : mk39 cs = some x) : Ws cs [.fl 71 (x)] := by
  unfold mk39 at h
  split at h
  · obtain ⟨a0, h0, h⟩ := ob h; have h := Option.some.inj h; subst h
    exact .cons (cF_w h0) (.nil)
  · simp at h
theorem mk41_w {cs : List PV} {x : TCode} (h : mk41 cs = some x) : Ws cs [.fl 71 (x.gFns)] := by
  unfold mk41 at h
  split at h
  · obtain ⟨a0, h0, h⟩ := ob h; have h := Option.some.inj h; subst h
    exact .cons (cF_w h0) (.nil)
  · simp at h
theorem mk51_w {cs : List PV} {x : List (List Int)} (h : mk51 cs = some x) : Ws cs [.fl 54 (x)] := by
  unfold mk51 at h
  split at h
  · obtain ⟨a0, h0, h⟩ := ob h; have h := Option.some.inj h; subst h
    exact .cons (cF_w h0) (.nil)
  · simp at h
theorem mk54_w {cs : List PV} {x : List Int} (h : mk54 cs = some x) : Ws cs [.fl 3 (x)] := by
  unfold mk54 at h
  split at h
  · obtain ⟨a0, h0, h⟩ := ob h; have h := Option.some.inj h; subst h
    exact .cons (cF_w h0) (.nil)
  · simp at h
theorem mk64_w {cs : List PV} {x : List TShape} (h : mk64 cs = some x) : Ws cs [.fl 67 (x)] := by
  unfold mk64 at h
  split at h
  · obtain ⟨a0, h0, h⟩ := ob h; have h := Option.some.inj h; subst h
    exact .cons (cF_w h0) (.nil)
  · simp at h
theorem mk67_w {cs : List PV} {x : TShape} (h : mk67 cs = some x) : Ws cs [.i .i64 (x.gState), .fl 3 (x.gSlots), .fl 3 (x.gStack)] := by
  unfold mk67 at h
  split at h
  · obtain ⟨a0, h0, h⟩ := ob h; obtain ⟨a1, h1, h⟩ := ob h; obtain ⟨a2, h2, h⟩ := ob h; have h := Option.some.inj h; subst h
    exact .cons (cI_w h0) (.cons (cF_w h1) (.cons (cF_w h2) (.nil)))
  · simp at h
theorem mk69_w {cs : List PV} {x : List TIns} (h : mk69 cs = some x) : Ws cs [.fl 111 (x)] := by
  unfold mk69 at h
  split at h
  · obtain ⟨a0, h0, h⟩ := ob h; have h := Option.some.inj h; subst h
    exact .cons (cF_w h0) (.nil)
  · simp at h
theorem mk71_w {cs : List PV} {x : TFn} (h : mk71 cs = some x) : Ws cs [.s (x.gName), .fl 3 (x.gParams), .i .i64 (x.gResult), .i .i64 (x.gSlots), .fl 111 (x.gIns)] := by
  unfold mk71 at h
  split at h
  · obtain ⟨a0, h0, h⟩ := ob h; obtain ⟨a1, h1, h⟩ := ob h; obtain ⟨a2, h2, h⟩ := ob h; obtain ⟨a3, h3, h⟩ := ob h; obtain ⟨a4, h4, h⟩ := ob h; have h := Option.some.inj h; subst h
    exact .cons (cS_w h0) (.cons (cF_w h1) (.cons (cI_w h2) (.cons (cI_w h3) (.cons (cF_w h4) (.nil)))))
  · simp at h
theorem mk85_w {cs : List PV} {x : List Int} (h : mk85 cs = some x) : Ws cs [.fl 5 (x)] := by
  unfold mk85 at h
  split at h
  · obtain ⟨a0, h0, h⟩ := ob h; have h := Option.some.inj h; subst h
    exact .cons (cF_w h0) (.nil)
  · simp at h
theorem mk93_w {cs : List PV} {x : Int} (h : mk93 cs = some x) : Ws cs [.i .u64 (x)] := by
  unfold mk93 at h
  split at h
  · obtain ⟨a0, h0, h⟩ := ob h; have h := Option.some.inj h; subst h
    exact .cons (cI_w h0) (.nil)
  · simp at h
theorem mk104_w {cs : List PV} {x : List TIns} (h : mk104 cs = some x) : Ws cs [.fl 175 (x)] := by
  unfold mk104 at h
  split at h
  · obtain ⟨a0, h0, h⟩ := ob h; have h := Option.some.inj h; subst h
    exact .cons (cF_w h0) (.nil)
  · simp at h
theorem mk106_w {cs : List PV} {x : TFn} (h : mk106 cs = some x) : Ws cs [.s (x.gName), .fl 3 (x.gParams), .i .i64 (x.gResult), .i .i64 (x.gSlots), .fl 175 (x.gIns)] := by
  unfold mk106 at h
  split at h
  · obtain ⟨a0, h0, h⟩ := ob h; obtain ⟨a1, h1, h⟩ := ob h; obtain ⟨a2, h2, h⟩ := ob h; obtain ⟨a3, h3, h⟩ := ob h; obtain ⟨a4, h4, h⟩ := ob h; have h := Option.some.inj h; subst h
    exact .cons (cS_w h0) (.cons (cF_w h1) (.cons (cI_w h2) (.cons (cI_w h3) (.cons (cF_w h4) (.nil)))))
  · simp at h
theorem mk111_w {cs : List PV} {x : TIns} (h : mk111 cs = some x) : Ws cs [.i .i64 (x.gOp), .i .i64 (x.gA), .i .i64 (x.gN), .s (x.gText)] := by
  unfold mk111 at h
  split at h
  · obtain ⟨a0, h0, h⟩ := ob h; obtain ⟨a1, h1, h⟩ := ob h; obtain ⟨a2, h2, h⟩ := ob h; obtain ⟨a3, h3, h⟩ := ob h; have h := Option.some.inj h; subst h
    exact .cons (cI_w h0) (.cons (cI_w h1) (.cons (cI_w h2) (.cons (cS_w h3) (.nil))))
  · simp at h
theorem mk121_w {cs : List PV} {x : List Bool} (h : mk121 cs = some x) : Ws cs [.fl 4 (x)] := by
  unfold mk121 at h
  split at h
  · obtain ⟨a0, h0, h⟩ := ob h; have h := Option.some.inj h; subst h
    exact .cons (cF_w h0) (.nil)
  · simp at h
theorem mk143_w {cs : List PV} {x : Bool} (h : mk143 cs = some x) : Ws cs [.ifc (x)] := by
  unfold mk143 at h
  split at h
  · obtain ⟨a0, h0, h⟩ := ob h; have h := Option.some.inj h; subst h
    exact .cons (cE_w h0) (.nil)
  · simp at h
theorem mk157_w {cs : List PV} {x : TValue} (h : mk157 cs = some x) : Ws cs [.i .i64 (x.gType), .i .i64 (x.gN), .s (x.gText)] := by
  unfold mk157 at h
  split at h
  · obtain ⟨a0, h0, h⟩ := ob h; obtain ⟨a1, h1, h⟩ := ob h; obtain ⟨a2, h2, h⟩ := ob h; have h := Option.some.inj h; subst h
    exact .cons (cI_w h0) (.cons (cI_w h1) (.cons (cS_w h2) (.nil)))
  · simp at h
theorem mk169_w {cs : List PV} {x : Int} (h : mk169 cs = some x) : Ws cs [.i .u64 (x)] := by
  unfold mk169 at h
  split at h
  · obtain ⟨a0, h0, h⟩ := ob h; have h := Option.some.inj h; subst h
    exact .cons (cI_w h0) (.nil)
  · simp at h
theorem mk171_w {cs : List PV} {x : List ByteArray} (h : mk171 cs = some x) : Ws cs [.fl 9 (x)] := by
  unfold mk171 at h
  split at h
  · obtain ⟨a0, h0, h⟩ := ob h; have h := Option.some.inj h; subst h
    exact .cons (cF_w h0) (.nil)
  · simp at h
theorem mk175_w {cs : List PV} {x : TIns} (h : mk175 cs = some x) : Ws cs [.i .i64 (x.gOp), .i .i64 (x.gA), .i .i64 (x.gN), .s (x.gText)] := by
  unfold mk175 at h
  split at h
  · obtain ⟨a0, h0, h⟩ := ob h; obtain ⟨a1, h1, h⟩ := ob h; obtain ⟨a2, h2, h⟩ := ob h; obtain ⟨a3, h3, h⟩ := ob h; have h := Option.some.inj h; subst h
    exact .cons (cI_w h0) (.cons (cI_w h1) (.cons (cI_w h2) (.cons (cS_w h3) (.nil))))
  · simp at h
theorem encOk : EncOk := by
  refine encOf_ok (fun T r h => ?_) (fun T f h => ?_)
  · revert r
    unfold rowF
    split
    · intro r h; have h := Option.some.inj h; subst h; exact ⟨fun x => rfl, fun x => rfl, fun x => rfl, fun cs x h => mk2_w h, fun h x => by first | rfl | exact absurd h (by decide)⟩
    · intro r h; have h := Option.some.inj h; subst h; exact ⟨fun x => rfl, fun x => rfl, fun x => rfl, fun cs x h => mk3_w h, fun h x => by first | rfl | exact absurd h (by decide)⟩
    · intro r h; have h := Option.some.inj h; subst h; exact ⟨fun x => rfl, fun x => rfl, fun x => rfl, fun cs x h => mk4_w h, fun h x => by first | rfl | exact absurd h (by decide)⟩
    · intro r h; have h := Option.some.inj h; subst h; exact ⟨fun x => rfl, fun x => rfl, fun x => rfl, fun cs x h => mk5_w h, fun h x => by first | rfl | exact absurd h (by decide)⟩
    · intro r h; have h := Option.some.inj h; subst h; exact ⟨fun x => rfl, fun x => rfl, fun x => rfl, fun cs x h => mk9_w h, fun h x => by first | rfl | exact absurd h (by decide)⟩
    · intro r h; have h := Option.some.inj h; subst h; exact ⟨fun x => rfl, fun x => rfl, fun x => rfl, fun cs x h => mk33_w h, fun h x => by first | rfl | exact absurd h (by decide)⟩
    · intro r h; have h := Option.some.inj h; subst h; exact ⟨fun x => rfl, fun x => rfl, fun x => rfl, fun cs x h => mk35_w h, fun h x => by first | rfl | exact absurd h (by decide)⟩
    · intro r h; have h := Option.some.inj h; subst h; exact ⟨fun x => rfl, fun x => rfl, fun x => rfl, fun cs x h => mk39_w h, fun h x => by first | rfl | exact absurd h (by decide)⟩
    · intro r h; have h := Option.some.inj h; subst h; exact ⟨fun x => rfl, fun x => rfl, fun x => rfl, fun cs x h => mk41_w h, fun h x => by first | rfl | exact absurd h (by decide)⟩
    · intro r h; have h := Option.some.inj h; subst h; exact ⟨fun x => rfl, fun x => rfl, fun x => rfl, fun cs x h => mk51_w h, fun h x => by first | rfl | exact absurd h (by decide)⟩
    · intro r h; have h := Option.some.inj h; subst h; exact ⟨fun x => rfl, fun x => rfl, fun x => rfl, fun cs x h => mk54_w h, fun h x => by first | rfl | exact absurd h (by decide)⟩
    · intro r h; have h := Option.some.inj h; subst h; exact ⟨fun x => rfl, fun x => rfl, fun x => rfl, fun cs x h => mk64_w h, fun h x => by first | rfl | exact absurd h (by decide)⟩
    · intro r h; have h := Option.some.inj h; subst h; exact ⟨fun x => rfl, fun x => rfl, fun x => rfl, fun cs x h => mk67_w h, fun h x => by first | rfl | exact absurd h (by decide)⟩
    · intro r h; have h := Option.some.inj h; subst h; exact ⟨fun x => rfl, fun x => rfl, fun x => rfl, fun cs x h => mk69_w h, fun h x => by first | rfl | exact absurd h (by decide)⟩
    · intro r h; have h := Option.some.inj h; subst h; exact ⟨fun x => rfl, fun x => rfl, fun x => rfl, fun cs x h => mk71_w h, fun h x => by first | rfl | exact absurd h (by decide)⟩
    · intro r h; have h := Option.some.inj h; subst h; exact ⟨fun x => rfl, fun x => rfl, fun x => rfl, fun cs x h => mk85_w h, fun h x => by first | rfl | exact absurd h (by decide)⟩
    · intro r h; have h := Option.some.inj h; subst h; exact ⟨fun x => rfl, fun x => rfl, fun x => rfl, fun cs x h => mk93_w h, fun h x => by first | rfl | exact absurd h (by decide)⟩
    · intro r h; have h := Option.some.inj h; subst h; exact ⟨fun x => rfl, fun x => rfl, fun x => rfl, fun cs x h => mk104_w h, fun h x => by first | rfl | exact absurd h (by decide)⟩
    · intro r h; have h := Option.some.inj h; subst h; exact ⟨fun x => rfl, fun x => rfl, fun x => rfl, fun cs x h => mk106_w h, fun h x => by first | rfl | exact absurd h (by decide)⟩
    · intro r h; have h := Option.some.inj h; subst h; exact ⟨fun x => rfl, fun x => rfl, fun x => rfl, fun cs x h => mk111_w h, fun h x => by first | rfl | exact absurd h (by decide)⟩
    · intro r h; have h := Option.some.inj h; subst h; exact ⟨fun x => rfl, fun x => rfl, fun x => rfl, fun cs x h => mk121_w h, fun h x => by first | rfl | exact absurd h (by decide)⟩
    · intro r h; have h := Option.some.inj h; subst h; exact ⟨fun x => rfl, fun x => rfl, fun x => rfl, fun cs x h => mk143_w h, fun h x => by first | rfl | exact absurd h (by decide)⟩
    · intro r h; have h := Option.some.inj h; subst h; exact ⟨fun x => rfl, fun x => rfl, fun x => rfl, fun cs x h => mk157_w h, fun h x => by first | rfl | exact absurd h (by decide)⟩
    · intro r h; have h := Option.some.inj h; subst h; exact ⟨fun x => rfl, fun x => rfl, fun x => rfl, fun cs x h => mk169_w h, fun h x => by first | rfl | exact absurd h (by decide)⟩
    · intro r h; have h := Option.some.inj h; subst h; exact ⟨fun x => rfl, fun x => rfl, fun x => rfl, fun cs x h => mk171_w h, fun h x => by first | rfl | exact absurd h (by decide)⟩
    · intro r h; have h := Option.some.inj h; subst h; exact ⟨fun x => rfl, fun x => rfl, fun x => rfl, fun cs x h => mk175_w h, fun h x => by first | rfl | exact absurd h (by decide)⟩
    · intro r h; have h := Option.some.inj h; subst h; exact ⟨fun x => rfl, fun x => rfl, fun x => rfl, fun cs x h => absurd h (by simp), fun h x => h⟩
    · intro r h; exact absurd h (by simp)
  · revert f
    unfold u8F
    split
    · intro f h; have h := Option.some.inj h; subst h; exact ⟨rfl, fun x => rfl, fun n => ⟨n, rfl⟩⟩
    · intro f h; exact absurd h (by simp)
def rows : List (Nat × Ent) := [(0, ⟨.other, 0, 1, none, [], false, [], false⟩),
  (2, ⟨.int .i64, 8, 1, some [.i .i64 0], [], false, [], false⟩),
  (3, ⟨.int .i64, 8, 1, some [.i .i64 0], [], false, [], false⟩),
  (4, ⟨.bool, 1, 1, some [.b false], [], false, [], false⟩),
  (5, ⟨.int .u8, 1, 1, some [.i .u8 0], [], false, [], false⟩),
  (9, ⟨.str, 16, 1, some [.s ⟨#[]⟩], [], false, [], false⟩),
  (33, ⟨.slice 106, 24, 1, some [.nl], [], false, [], false⟩),
  (35, ⟨.struct, 24, 1, some [.nl], [(0, 1)], false, [], false⟩),
  (37, ⟨.other, 0, 1, none, [], false, [], false⟩),
  (39, ⟨.slice 71, 24, 1, some [.nl], [], false, [], false⟩),
  (41, ⟨.struct, 24, 1, some [.nl], [(0, 1)], false, [], false⟩),
  (51, ⟨.slice 54, 24, 1, some [.nl], [], false, [], false⟩),
  (54, ⟨.slice 3, 24, 1, some [.nl], [], false, [], false⟩),
  (64, ⟨.slice 67, 24, 1, some [.nl], [], false, [], false⟩),
  (67, ⟨.struct, 56, 3, some [.i .i64 0, .nl, .nl], [(0, 1), (1, 1), (2, 1)], false, [3, 54, 54], false⟩),
  (69, ⟨.slice 111, 24, 1, some [.nl], [], false, [], false⟩),
  (71, ⟨.struct, 80, 5, some [.s ⟨#[]⟩, .nl, .i .i64 0, .i .i64 0, .nl], [(0, 1), (1, 1), (2, 1), (3, 1), (4, 1)], false, [], false⟩),
  (73, ⟨.other, 0, 1, none, [], false, [], false⟩),
  (85, ⟨.slice 5, 24, 1, some [.nl], [], false, [], false⟩),
  (93, ⟨.int .u64, 8, 1, some [.i .u64 0], [], false, [], false⟩),
  (96, ⟨.other, 0, 1, none, [], false, [], false⟩),
  (104, ⟨.slice 175, 24, 1, some [.nl], [], false, [], false⟩),
  (106, ⟨.struct, 80, 5, some [.s ⟨#[]⟩, .nl, .i .i64 0, .i .i64 0, .nl], [(0, 1), (1, 1), (2, 1), (3, 1), (4, 1)], false, [], false⟩),
  (111, ⟨.struct, 40, 4, some [.i .i64 0, .i .i64 0, .i .i64 0, .s ⟨#[]⟩], [(0, 1), (1, 1), (2, 1), (3, 1)], true, [], false⟩),
  (114, ⟨.other, 0, 1, none, [], false, [], false⟩),
  (116, ⟨.other, 0, 1, none, [], false, [], false⟩),
  (119, ⟨.map 4, 8, 1, some [.zo 1], [], false, [], false⟩),
  (121, ⟨.slice 4, 24, 1, some [.nl], [], false, [], false⟩),
  (136, ⟨.ptr 141, 8, 1, some [.np], [], false, [], false⟩),
  (137, ⟨.ptr 139, 8, 1, some [.np], [], false, [], false⟩),
  (139, ⟨.struct, 32, 2, some [.np, .nl], [(0, 1), (1, 1)], false, [], false⟩),
  (141, ⟨.struct, 32, 2, some [.np, .nl], [(0, 2)], false, [], true⟩),
  (143, ⟨.iface, 16, 1, some [.ifc true], [], false, [], false⟩),
  (144, ⟨.other, 0, 1, none, [], false, [], false⟩),
  (157, ⟨.struct, 32, 3, some [.i .i64 0, .i .i64 0, .s ⟨#[]⟩], [(0, 1), (1, 1), (2, 1)], true, [], false⟩),
  (164, ⟨.other, 8, 1, some [.zo 0], [], false, [], false⟩),
  (165, ⟨.other, 8, 1, some [.zo 0], [], false, [], false⟩),
  (166, ⟨.other, 8, 1, some [.zo 0], [], false, [], false⟩),
  (169, ⟨.int .u64, 8, 1, some [.i .u64 0], [], false, [], false⟩),
  (171, ⟨.slice 9, 24, 1, some [.nl], [], false, [], false⟩),
  (175, ⟨.struct, 40, 4, some [.i .i64 0, .i .i64 0, .i .i64 0, .s ⟨#[]⟩], [(0, 1), (1, 1), (2, 1), (3, 1)], true, [], false⟩),
  (177, ⟨.other, 0, 1, none, [], false, [], false⟩)]
theorem tab_ok : TabOk Go.Proofs.Tryd.prog (tabOf rows) ∧ ∀ t z, (tabOf rows).flat t = some z → FlatOk Go.Proofs.Tryd.prog t z := tabB_ok encOk (by kernel_rfl)
end Go.KM.W1
