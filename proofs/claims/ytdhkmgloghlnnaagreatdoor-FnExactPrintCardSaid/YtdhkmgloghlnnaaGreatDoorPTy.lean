/- The tables of the law's functions. Conditions: none. -/
import Derived.Test.YtdhkmgloghlnnaaGreatDoorKmX
import Derived.KernelRfl
import Derived.Test.YtdhkmgloghlnnaaGreatDoorProg
namespace Go.KM.P1
open Go Go.KM
open Go.KM.Fam (Dn dflt)
open Go.KM.Enc (cells sz mkE glob gany u8)
set_option autoImplicit false
set_option linter.unusedVariables false
set_option maxRecDepth 100000
structure TNode where
  gKind : Int
  gOp : Int
  gType : Int
  gN : Int
  gText : ByteArray
  gKids : Int
def TNode.z : TNode := ⟨0, 0, 0, 0, ⟨#[]⟩, 0⟩
structure TTree where
  gNodes : List TNode
def TTree.z : TTree := ⟨[]⟩
structure TL2Pen where
  gt : TTree
  gkids : List (List Int)
def TL2Pen.z : TL2Pen := ⟨⟨[]⟩, []⟩
structure TNode_ where
  gNode : TNode
  gkids : List (Option TNode_)
  gnum : Int
def TNode_.z : TNode_ := ⟨⟨0, 0, 0, 0, ⟨#[]⟩, 0⟩, [], 0⟩
structure TValue where
  gType : Int
  gN : Int
  gText : ByteArray
def TValue.z : TValue := ⟨0, 0, ⟨#[]⟩⟩
def base : Nat → Sigma fun α : Type => α
  | 2 => ⟨Int, 0⟩
  | 3 => ⟨Int, 0⟩
  | 4 => ⟨Bool, false⟩
  | 5 => ⟨Int, 0⟩
  | 9 => ⟨ByteArray, ⟨#[]⟩⟩
  | 22 => ⟨List TNode, []⟩
  | 24 => ⟨TTree, ⟨[]⟩⟩
  | 27 => ⟨List TNode, []⟩
  | 29 => ⟨TTree, ⟨[]⟩⟩
  | 35 => ⟨List (List Int), []⟩
  | 40 => ⟨TL2Pen, ⟨⟨[]⟩, []⟩⟩
  | 41 => ⟨List Int, []⟩
  | 42 => ⟨List Int, []⟩
  | 45 => ⟨Option TNode_, none⟩
  | 51 => ⟨TNode, ⟨0, 0, 0, 0, ⟨#[]⟩, 0⟩⟩
  | 52 => ⟨List (Option TNode_), []⟩
  | 54 => ⟨TNode_, ⟨⟨0, 0, 0, 0, ⟨#[]⟩, 0⟩, [], 0⟩⟩
  | 55 => ⟨List ByteArray, []⟩
  | 57 => ⟨Bool, true⟩
  | 66 => ⟨TNode, ⟨0, 0, 0, 0, ⟨#[]⟩, 0⟩⟩
  | 80 => ⟨Int, 0⟩
  | 97 => ⟨TValue, ⟨0, 0, ⟨#[]⟩⟩⟩
  | 100 => ⟨Int, 0⟩
  | _ => ⟨Unit, ()⟩
instance fam : Fam where
  Dn n := (base n).1
  dflt n := (base n).2
def mk2 (cs : List PV) : Option Int :=
  match cs with
  | [p0] => obind (cI .i64 p0) fun a0 => some (a0)
  | _ => none
def mk3 (cs : List PV) : Option Int :=
  match cs with
  | [p0] => obind (cI .i64 p0) fun a0 => some (a0)
  | _ => none
def mk4 (cs : List PV) : Option Bool :=
  match cs with
  | [p0] => obind (cB p0) fun a0 => some (a0)
  | _ => none
def mk5 (cs : List PV) : Option Int :=
  match cs with
  | [p0] => obind (cI .u8 p0) fun a0 => some (a0)
  | _ => none
def mk9 (cs : List PV) : Option ByteArray :=
  match cs with
  | [p0] => obind (cS p0) fun a0 => some (a0)
  | _ => none
def mk22 (cs : List PV) : Option (List TNode) :=
  match cs with
  | [p0] => obind (cF 66 p0) fun a0 => some (a0)
  | _ => none
def mk24 (cs : List PV) : Option TTree :=
  match cs with
  | [p0] => obind (cF 66 p0) fun a0 => some (⟨a0⟩)
  | _ => none
def mk27 (cs : List PV) : Option (List TNode) :=
  match cs with
  | [p0] => obind (cF 51 p0) fun a0 => some (a0)
  | _ => none
def mk29 (cs : List PV) : Option TTree :=
  match cs with
  | [p0] => obind (cF 51 p0) fun a0 => some (⟨a0⟩)
  | _ => none
def mk35 (cs : List PV) : Option (List (List Int)) :=
  match cs with
  | [p0] => obind (cF 42 p0) fun a0 => some (a0)
  | _ => none
def mk40 (cs : List PV) : Option TL2Pen :=
  match cs with
  | [p0, p1] => obind (cF 51 p0) fun a0 => obind (cF 42 p1) fun a1 => some (⟨⟨a0⟩, a1⟩)
  | _ => none
def mk41 (cs : List PV) : Option (List Int) :=
  match cs with
  | [p0] => obind (cF 5 p0) fun a0 => some (a0)
  | _ => none
def mk42 (cs : List PV) : Option (List Int) :=
  match cs with
  | [p0] => obind (cF 3 p0) fun a0 => some (a0)
  | _ => none
def mk45 (cs : List PV) : Option (Option TNode_) :=
  match cs with
  | [p0] => obind (cP 54 p0) fun a0 => some (a0)
  | _ => none
def mk51 (cs : List PV) : Option TNode :=
  match cs with
  | [p0, p1, p2, p3, p4, p5] => obind (cI .i64 p0) fun a0 => obind (cI .i64 p1) fun a1 => obind (cI .i64 p2) fun a2 => obind (cI .i64 p3) fun a3 => obind (cS p4) fun a4 => obind (cI .i64 p5) fun a5 => some (⟨a0, a1, a2, a3, a4, a5⟩)
  | _ => none
def mk52 (cs : List PV) : Option (List (Option TNode_)) :=
  match cs with
  | [p0] => obind (cF 45 p0) fun a0 => some (a0)
  | _ => none
def mk54 (cs : List PV) : Option TNode_ :=
  match cs with
  | [p0, p1, p2, p3, p4, p5, p6, p7] => obind (cI .i64 p0) fun a0 => obind (cI .i64 p1) fun a1 => obind (cI .i64 p2) fun a2 => obind (cI .i64 p3) fun a3 => obind (cS p4) fun a4 => obind (cI .i64 p5) fun a5 => obind (cF 45 p6) fun a6 => obind (cI .i64 p7) fun a7 => some (⟨⟨a0, a1, a2, a3, a4, a5⟩, a6, a7⟩)
  | _ => none
def mk55 (cs : List PV) : Option (List ByteArray) :=
  match cs with
  | [p0] => obind (cF 9 p0) fun a0 => some (a0)
  | _ => none
def mk57 (cs : List PV) : Option Bool :=
  match cs with
  | [p0] => obind (cE p0) fun a0 => some (a0)
  | _ => none
def mk66 (cs : List PV) : Option TNode :=
  match cs with
  | [p0, p1, p2, p3, p4, p5] => obind (cI .i64 p0) fun a0 => obind (cI .i64 p1) fun a1 => obind (cI .i64 p2) fun a2 => obind (cI .i64 p3) fun a3 => obind (cS p4) fun a4 => obind (cI .i64 p5) fun a5 => some (⟨a0, a1, a2, a3, a4, a5⟩)
  | _ => none
def mk80 (cs : List PV) : Option Int :=
  match cs with
  | [p0] => obind (cI .u64 p0) fun a0 => some (a0)
  | _ => none
def mk97 (cs : List PV) : Option TValue :=
  match cs with
  | [p0, p1, p2] => obind (cI .i64 p0) fun a0 => obind (cI .i64 p1) fun a1 => obind (cS p2) fun a2 => some (⟨a0, a1, a2⟩)
  | _ => none
def mk100 (cs : List PV) : Option Int :=
  match cs with
  | [p0] => obind (cI .u64 p0) fun a0 => some (a0)
  | _ => none
def rowF : (T : Nat) → Option (TyRow T)
  | 2 => some ⟨1, fun (x : Int) => [.i .i64 (x)], mk2⟩
  | 3 => some ⟨1, fun (x : Int) => [.i .i64 (x)], mk3⟩
  | 4 => some ⟨1, fun (x : Bool) => [.b (x)], mk4⟩
  | 5 => some ⟨1, fun (x : Int) => [.i .u8 (x)], mk5⟩
  | 9 => some ⟨1, fun (x : ByteArray) => [.s (x)], mk9⟩
  | 22 => some ⟨1, fun (x : List TNode) => [.fl 66 (x)], mk22⟩
  | 24 => some ⟨1, fun (x : TTree) => [.fl 66 (x.gNodes)], mk24⟩
  | 27 => some ⟨1, fun (x : List TNode) => [.fl 51 (x)], mk27⟩
  | 29 => some ⟨1, fun (x : TTree) => [.fl 51 (x.gNodes)], mk29⟩
  | 35 => some ⟨1, fun (x : List (List Int)) => [.fl 42 (x)], mk35⟩
  | 40 => some ⟨2, fun (x : TL2Pen) => [.fl 51 (x.gt.gNodes), .fl 42 (x.gkids)], mk40⟩
  | 41 => some ⟨1, fun (x : List Int) => [.fl 5 (x)], mk41⟩
  | 42 => some ⟨1, fun (x : List Int) => [.fl 3 (x)], mk42⟩
  | 45 => some ⟨1, fun (x : Option TNode_) => [.fp 54 (x)], mk45⟩
  | 51 => some ⟨6, fun (x : TNode) => [.i .i64 (x.gKind), .i .i64 (x.gOp), .i .i64 (x.gType), .i .i64 (x.gN), .s (x.gText), .i .i64 (x.gKids)], mk51⟩
  | 52 => some ⟨1, fun (x : List (Option TNode_)) => [.fl 45 (x)], mk52⟩
  | 54 => some ⟨8, fun (x : TNode_) => [.i .i64 (x.gNode.gKind), .i .i64 (x.gNode.gOp), .i .i64 (x.gNode.gType), .i .i64 (x.gNode.gN), .s (x.gNode.gText), .i .i64 (x.gNode.gKids), .fl 45 (x.gkids), .i .i64 (x.gnum)], mk54⟩
  | 55 => some ⟨1, fun (x : List ByteArray) => [.fl 9 (x)], mk55⟩
  | 57 => some ⟨1, fun (x : Bool) => [.ifc (x)], mk57⟩
  | 66 => some ⟨6, fun (x : TNode) => [.i .i64 (x.gKind), .i .i64 (x.gOp), .i .i64 (x.gType), .i .i64 (x.gN), .s (x.gText), .i .i64 (x.gKids)], mk66⟩
  | 80 => some ⟨1, fun (x : Int) => [.i .u64 (x)], mk80⟩
  | 97 => some ⟨3, fun (x : TValue) => [.i .i64 (x.gType), .i .i64 (x.gN), .s (x.gText)], mk97⟩
  | 100 => some ⟨1, fun (x : Int) => [.i .u64 (x)], mk100⟩
  | 1000004 => some ⟨20, fun (x : Unit) => [.i .u64 1, .i .u64 10, .i .u64 100, .i .u64 1000, .i .u64 10000, .i .u64 100000, .i .u64 1000000, .i .u64 10000000, .i .u64 100000000, .i .u64 1000000000, .i .u64 10000000000, .i .u64 100000000000, .i .u64 1000000000000, .i .u64 10000000000000, .i .u64 100000000000000, .i .u64 1000000000000000, .i .u64 10000000000000000, .i .u64 100000000000000000, .i .u64 1000000000000000000, .i .u64 10000000000000000000], fun _ => none⟩
  | 1000005 => some ⟨256, fun (x : Unit) => [.i .u8 0, .i .u8 0, .i .u8 0, .i .u8 0, .i .u8 0, .i .u8 0, .i .u8 0, .i .u8 0, .i .u8 0, .i .u8 1, .i .u8 1, .i .u8 1, .i .u8 1, .i .u8 1, .i .u8 0, .i .u8 0, .i .u8 0, .i .u8 0, .i .u8 0, .i .u8 0, .i .u8 0, .i .u8 0, .i .u8 0, .i .u8 0, .i .u8 0, .i .u8 0, .i .u8 0, .i .u8 0, .i .u8 0, .i .u8 0, .i .u8 0, .i .u8 0, .i .u8 1, .i .u8 0, .i .u8 0, .i .u8 0, .i .u8 0, .i .u8 0, .i .u8 0, .i .u8 0, .i .u8 0, .i .u8 0, .i .u8 0, .i .u8 0, .i .u8 0, .i .u8 0, .i .u8 0, .i .u8 0, .i .u8 0, .i .u8 0, .i .u8 0, .i .u8 0, .i .u8 0, .i .u8 0, .i .u8 0, .i .u8 0, .i .u8 0, .i .u8 0, .i .u8 0, .i .u8 0, .i .u8 0, .i .u8 0, .i .u8 0, .i .u8 0, .i .u8 0, .i .u8 0, .i .u8 0, .i .u8 0, .i .u8 0, .i .u8 0, .i .u8 0, .i .u8 0, .i .u8 0, .i .u8 0, .i .u8 0, .i .u8 0, .i .u8 0, .i .u8 0, .i .u8 0, .i .u8 0, .i .u8 0, .i .u8 0, .i .u8 0, .i .u8 0, .i .u8 0, .i .u8 0, .i .u8 0, .i .u8 0, .i .u8 0, .i .u8 0, .i .u8 0, .i .u8 0, .i .u8 0, .i .u8 0, .i .u8 0, .i .u8 0, .i .u8 0, .i .u8 0, .i .u8 0, .i .u8 0, .i .u8 0, .i .u8 0, .i .u8 0, .i .u8 0, .i .u8 0, .i .u8 0, .i .u8 0, .i .u8 0, .i .u8 0, .i .u8 0, .i .u8 0, .i .u8 0, .i .u8 0, .i .u8 0, .i .u8 0, .i .u8 0, .i .u8 0, .i .u8 0, .i .u8 0, .i .u8 0, .i .u8 0, .i .u8 0, .i .u8 0, .i .u8 0, .i .u8 0, .i .u8 0, .i .u8 0, .i .u8 0, .i .u8 0, .i .u8 0, .i .u8 0, .i .u8 0, .i .u8 0, .i .u8 0, .i .u8 0, .i .u8 0, .i .u8 0, .i .u8 0, .i .u8 0, .i .u8 0, .i .u8 0, .i .u8 0, .i .u8 0, .i .u8 0, .i .u8 0, .i .u8 0, .i .u8 0, .i .u8 0, .i .u8 0, .i .u8 0, .i .u8 0, .i .u8 0, .i .u8 0, .i .u8 0, .i .u8 0, .i .u8 0, .i .u8 0, .i .u8 0, .i .u8 0, .i .u8 0, .i .u8 0, .i .u8 0, .i .u8 0, .i .u8 0, .i .u8 0, .i .u8 0, .i .u8 0, .i .u8 0, .i .u8 0, .i .u8 0, .i .u8 0, .i .u8 0, .i .u8 0, .i .u8 0, .i .u8 0, .i .u8 0, .i .u8 0, .i .u8 0, .i .u8 0, .i .u8 0, .i .u8 0, .i .u8 0, .i .u8 0, .i .u8 0, .i .u8 0, .i .u8 0, .i .u8 0, .i .u8 0, .i .u8 0, .i .u8 0, .i .u8 0, .i .u8 0, .i .u8 0, .i .u8 0, .i .u8 0, .i .u8 0, .i .u8 0, .i .u8 0, .i .u8 0, .i .u8 0, .i .u8 0, .i .u8 0, .i .u8 0, .i .u8 0, .i .u8 0, .i .u8 0, .i .u8 0, .i .u8 0, .i .u8 0, .i .u8 0, .i .u8 0, .i .u8 0, .i .u8 0, .i .u8 0, .i .u8 0, .i .u8 0, .i .u8 0, .i .u8 0, .i .u8 0, .i .u8 0, .i .u8 0, .i .u8 0, .i .u8 0, .i .u8 0, .i .u8 0, .i .u8 0, .i .u8 0, .i .u8 0, .i .u8 0, .i .u8 0, .i .u8 0, .i .u8 0, .i .u8 0, .i .u8 0, .i .u8 0, .i .u8 0, .i .u8 0, .i .u8 0, .i .u8 0, .i .u8 0, .i .u8 0, .i .u8 0, .i .u8 0, .i .u8 0, .i .u8 0, .i .u8 0, .i .u8 0, .i .u8 0, .i .u8 0, .i .u8 0, .i .u8 0, .i .u8 0, .i .u8 0, .i .u8 0, .i .u8 0, .i .u8 0], fun _ => none⟩
  | _ => none
def u8F : (T : Nat) → Option (Dn T → Int)
  | 5 => some fun (x : Int) => x
  | _ => none
def globF : Nat → Option (Sigma fun T => Dn T)
  | 0 => some ⟨55, ([(⟨#[]⟩ : ByteArray), (⟨#[98, 111, 111, 108]⟩ : ByteArray), (⟨#[116, 101, 120, 116]⟩ : ByteArray), (⟨#[117, 56]⟩ : ByteArray), (⟨#[117, 49, 54]⟩ : ByteArray), (⟨#[117, 51, 50]⟩ : ByteArray), (⟨#[117, 54, 52]⟩ : ByteArray), (⟨#[105, 56]⟩ : ByteArray), (⟨#[105, 49, 54]⟩ : ByteArray), (⟨#[105, 51, 50]⟩ : ByteArray), (⟨#[105, 54, 52]⟩ : ByteArray)] : List ByteArray)⟩
  | 1 => some ⟨55, ([(⟨#[]⟩ : ByteArray), (⟨#[124, 124]⟩ : ByteArray), (⟨#[38, 38]⟩ : ByteArray), (⟨#[61, 61]⟩ : ByteArray), (⟨#[33, 61]⟩ : ByteArray), (⟨#[60]⟩ : ByteArray), (⟨#[60, 61]⟩ : ByteArray), (⟨#[62]⟩ : ByteArray), (⟨#[62, 61]⟩ : ByteArray), (⟨#[43]⟩ : ByteArray), (⟨#[45]⟩ : ByteArray), (⟨#[124]⟩ : ByteArray), (⟨#[94]⟩ : ByteArray), (⟨#[42]⟩ : ByteArray), (⟨#[47]⟩ : ByteArray), (⟨#[37]⟩ : ByteArray), (⟨#[38]⟩ : ByteArray), (⟨#[60, 60]⟩ : ByteArray), (⟨#[62, 62]⟩ : ByteArray)] : List ByteArray)⟩
  | 2 => some ⟨55, ([(⟨#[]⟩ : ByteArray), (⟨#[114, 101, 97, 100]⟩ : ByteArray), (⟨#[104, 97, 115]⟩ : ByteArray), (⟨#[108, 105, 115, 116]⟩ : ByteArray), (⟨#[116, 111, 111, 108]⟩ : ByteArray), (⟨#[97, 114, 103]⟩ : ByteArray), (⟨#[108, 101, 110]⟩ : ByteArray), (⟨#[97, 116]⟩ : ByteArray), (⟨#[99, 117, 116]⟩ : ByteArray), (⟨#[102, 105, 110, 100]⟩ : ByteArray), (⟨#[99, 104, 114]⟩ : ByteArray), (⟨#[100, 101, 99]⟩ : ByteArray), (⟨#[110, 117, 109]⟩ : ByteArray)] : List ByteArray)⟩
  | 4 => some ⟨1000004, ()⟩
  | 5 => some ⟨1000005, ()⟩
  | _ => none
def ganyF : Nat → Option IntKind
  | _ => none
instance enc : Enc := encOf fam rowF globF ganyF u8F
theorem mk2_w {cs : List PV} {x : Int} (h : mk2 cs = some x) : Ws cs [.i .i64 (x)] := by
  unfold mk2 at h
  split at h
  · obtain ⟨a0, h0, h⟩ := ob h; have h := Option.some.inj h; subst h
    exact .cons (cI_w h0) (.nil)
  · simp at h
theorem mk3_w {cs : List PV} {x : Int} (h : mk3 cs = some x) : Ws cs [.i .i64 (x)] := by
  unfold mk3 at h
  split at h
  · obtain ⟨a0, h0, h⟩ := ob h; have h := Option.some.inj h; subst h
    exact .cons (cI_w h0) (.nil)
  · simp at h
theorem mk4_w {cs : List PV} {x : Bool} (h : mk4 cs = some x) : Ws cs [.b (x)] := by
  unfold mk4 at h
  split at h
  · obtain ⟨a0, h0, h⟩ := ob h; have h := Option.some.inj h; subst h
    exact .cons (cB_w h0) (.nil)
  · simp at h
theorem mk5_w {cs : List PV} {x : Int} (h : mk5 cs = some x) : Ws cs [.i .u8 (x)] := by
  unfold mk5 at h
  split at h
  · obtain ⟨a0, h0, h⟩ := ob h; have h := Option.some.inj h; subst h
    exact .cons (cI_w h0) (.nil)
  · simp at h
theorem mk9_w {cs : List PV} {x : ByteArray} (h : mk9 cs = some x) : Ws cs [.s (x)] := by
  unfold mk9 at h
  split at h
  · obtain ⟨a0, h0, h⟩ := ob h; have h := Option.some.inj h; subst h
    exact .cons (cS_w h0) (.nil)
  · simp at h
theorem mk22_w {cs : List PV} {x : List TNode} (h : mk22 cs = some x) : Ws cs [.fl 66 (x)] := by
  unfold mk22 at h
  split at h
  · obtain ⟨a0, h0, h⟩ := ob h; have h := Option.some.inj h; subst h
    exact .cons (cF_w h0) (.nil)
  · simp at h
theorem mk24_w {cs : List PV} {x : TTree} (h : mk24 cs = some x) : Ws cs [.fl 66 (x.gNodes)] := by
  unfold mk24 at h
  split at h
  · obtain ⟨a0, h0, h⟩ := ob h; have h := Option.some.inj h; subst h
    exact .cons (cF_w h0) (.nil)
  · simp at h
theorem mk27_w {cs : List PV} {x : List TNode} (h : mk27 cs = some x) : Ws cs [.fl 51 (x)] := by
  unfold mk27 at h
  split at h
  · obtain ⟨a0, h0, h⟩ := ob h; have h := Option.some.inj h; subst h
    exact .cons (cF_w h0) (.nil)
  · simp at h
theorem mk29_w {cs : List PV} {x : TTree} (h : mk29 cs = some x) : Ws cs [.fl 51 (x.gNodes)] := by
  unfold mk29 at h
  split at h
  · obtain ⟨a0, h0, h⟩ := ob h; have h := Option.some.inj h; subst h
    exact .cons (cF_w h0) (.nil)
  · simp at h
theorem mk35_w {cs : List PV} {x : List (List Int)} (h : mk35 cs = some x) : Ws cs [.fl 42 (x)] := by
  unfold mk35 at h
  split at h
  · obtain ⟨a0, h0, h⟩ := ob h; have h := Option.some.inj h; subst h
    exact .cons (cF_w h0) (.nil)
  · simp at h
theorem mk40_w {cs : List PV} {x : TL2Pen} (h : mk40 cs = some x) : Ws cs [.fl 51 (x.gt.gNodes), .fl 42 (x.gkids)] := by
  unfold mk40 at h
  split at h
  · obtain ⟨a0, h0, h⟩ := ob h; obtain ⟨a1, h1, h⟩ := ob h; have h := Option.some.inj h; subst h
    exact .cons (cF_w h0) (.cons (cF_w h1) (.nil))
  · simp at h
theorem mk41_w {cs : List PV} {x : List Int} (h : mk41 cs = some x) : Ws cs [.fl 5 (x)] := by
  unfold mk41 at h
  split at h
  · obtain ⟨a0, h0, h⟩ := ob h; have h := Option.some.inj h; subst h
    exact .cons (cF_w h0) (.nil)
  · simp at h
theorem mk42_w {cs : List PV} {x : List Int} (h : mk42 cs = some x) : Ws cs [.fl 3 (x)] := by
  unfold mk42 at h
  split at h
  · obtain ⟨a0, h0, h⟩ := ob h; have h := Option.some.inj h; subst h
    exact .cons (cF_w h0) (.nil)
  · simp at h
theorem mk45_w {cs : List PV} {x : Option TNode_} (h : mk45 cs = some x) : Ws cs [.fp 54 (x)] := by
  unfold mk45 at h
  split at h
  · obtain ⟨a0, h0, h⟩ := ob h; have h := Option.some.inj h; subst h
    exact .cons (cP_w h0) (.nil)
  · simp at h
theorem mk51_w {cs : List PV} {x : TNode} (h : mk51 cs = some x) : Ws cs [.i .i64 (x.gKind), .i .i64 (x.gOp), .i .i64 (x.gType), .i .i64 (x.gN), .s (x.gText), .i .i64 (x.gKids)] := by
  unfold mk51 at h
  split at h
  · obtain ⟨a0, h0, h⟩ := ob h; obtain ⟨a1, h1, h⟩ := ob h; obtain ⟨a2, h2, h⟩ := ob h; obtain ⟨a3, h3, h⟩ := ob h; obtain ⟨a4, h4, h⟩ := ob h; obtain ⟨a5, h5, h⟩ := ob h; have h := Option.some.inj h; subst h
    exact .cons (cI_w h0) (.cons (cI_w h1) (.cons (cI_w h2) (.cons (cI_w h3) (.cons (cS_w h4) (.cons (cI_w h5) (.nil))))))
  · simp at h
theorem mk52_w {cs : List PV} {x : List (Option TNode_)} (h : mk52 cs = some x) : Ws cs [.fl 45 (x)] := by
  unfold mk52 at h
  split at h
  · obtain ⟨a0, h0, h⟩ := ob h; have h := Option.some.inj h; subst h
    exact .cons (cF_w h0) (.nil)
  · simp at h
theorem mk54_w {cs : List PV} {x : TNode_} (h : mk54 cs = some x) : Ws cs [.i .i64 (x.gNode.gKind), .i .i64 (x.gNode.gOp), .i .i64 (x.gNode.gType), .i .i64 (x.gNode.gN), .s (x.gNode.gText), .i .i64 (x.gNode.gKids), .fl 45 (x.gkids), .i .i64 (x.gnum)] := by
  unfold mk54 at h
  split at h
  · obtain ⟨a0, h0, h⟩ := ob h; obtain ⟨a1, h1, h⟩ := ob h; obtain ⟨a2, h2, h⟩ := ob h; obtain ⟨a3, h3, h⟩ := ob h; obtain ⟨a4, h4, h⟩ := ob h; obtain ⟨a5, h5, h⟩ := ob h; obtain ⟨a6, h6, h⟩ := ob h; obtain ⟨a7, h7, h⟩ := ob h; have h := Option.some.inj h; subst h
    exact .cons (cI_w h0) (.cons (cI_w h1) (.cons (cI_w h2) (.cons (cI_w h3) (.cons (cS_w h4) (.cons (cI_w h5) (.cons (cF_w h6) (.cons (cI_w h7) (.nil))))))))
  · simp at h
theorem mk55_w {cs : List PV} {x : List ByteArray} (h : mk55 cs = some x) : Ws cs [.fl 9 (x)] := by
  unfold mk55 at h
  split at h
  · obtain ⟨a0, h0, h⟩ := ob h; have h := Option.some.inj h; subst h
    exact .cons (cF_w h0) (.nil)
  · simp at h
theorem mk57_w {cs : List PV} {x : Bool} (h : mk57 cs = some x) : Ws cs [.ifc (x)] := by
  unfold mk57 at h
  split at h
  · obtain ⟨a0, h0, h⟩ := ob h; have h := Option.some.inj h; subst h
    exact .cons (cE_w h0) (.nil)
  · simp at h
theorem mk66_w {cs : List PV} {x : TNode} (h : mk66 cs = some x) : Ws cs [.i .i64 (x.gKind), .i .i64 (x.gOp), .i .i64 (x.gType), .i .i64 (x.gN), .s (x.gText), .i .i64 (x.gKids)] := by
  unfold mk66 at h
  split at h
  · obtain ⟨a0, h0, h⟩ := ob h; obtain ⟨a1, h1, h⟩ := ob h; obtain ⟨a2, h2, h⟩ := ob h; obtain ⟨a3, h3, h⟩ := ob h; obtain ⟨a4, h4, h⟩ := ob h; obtain ⟨a5, h5, h⟩ := ob h; have h := Option.some.inj h; subst h
    exact .cons (cI_w h0) (.cons (cI_w h1) (.cons (cI_w h2) (.cons (cI_w h3) (.cons (cS_w h4) (.cons (cI_w h5) (.nil))))))
  · simp at h
theorem mk80_w {cs : List PV} {x : Int} (h : mk80 cs = some x) : Ws cs [.i .u64 (x)] := by
  unfold mk80 at h
  split at h
  · obtain ⟨a0, h0, h⟩ := ob h; have h := Option.some.inj h; subst h
    exact .cons (cI_w h0) (.nil)
  · simp at h
theorem mk97_w {cs : List PV} {x : TValue} (h : mk97 cs = some x) : Ws cs [.i .i64 (x.gType), .i .i64 (x.gN), .s (x.gText)] := by
  unfold mk97 at h
  split at h
  · obtain ⟨a0, h0, h⟩ := ob h; obtain ⟨a1, h1, h⟩ := ob h; obtain ⟨a2, h2, h⟩ := ob h; have h := Option.some.inj h; subst h
    exact .cons (cI_w h0) (.cons (cI_w h1) (.cons (cS_w h2) (.nil)))
  · simp at h
theorem mk100_w {cs : List PV} {x : Int} (h : mk100 cs = some x) : Ws cs [.i .u64 (x)] := by
  unfold mk100 at h
  split at h
  · obtain ⟨a0, h0, h⟩ := ob h; have h := Option.some.inj h; subst h
    exact .cons (cI_w h0) (.nil)
  · simp at h
theorem encOk : EncOk := by
  refine encOf_ok (fun T r h => ?_) (fun T f h => ?_)
  · revert r
    unfold rowF
    split
    · intro r h; have h := Option.some.inj h; subst h; exact ⟨fun x => rfl, fun x => rfl, fun x => rfl, fun cs x h => mk2_w h, fun h x => by first | rfl | exact absurd h (by decide)⟩
    · intro r h; have h := Option.some.inj h; subst h; exact ⟨fun x => rfl, fun x => rfl, fun x => rfl, fun cs x h => mk3_w h, fun h x => by first | rfl | exact absurd h (by decide)⟩
    · intro r h; have h := Option.some.inj h; subst h; exact ⟨fun x => rfl, fun x => rfl, fun x => rfl, fun cs x h => mk4_w h, fun h x => by first | rfl | exact absurd h (by decide)⟩
    · intro r h; have h := Option.some.inj h; subst h; exact ⟨fun x => rfl, fun x => rfl, fun x => rfl, fun cs x h => mk5_w h, fun h x => by first | rfl | exact absurd h (by decide)⟩
    · intro r h; have h := Option.some.inj h; subst h; exact ⟨fun x => rfl, fun x => rfl, fun x => rfl, fun cs x h => mk9_w h, fun h x => by first | rfl | exact absurd h (by decide)⟩
    · intro r h; have h := Option.some.inj h; subst h; exact ⟨fun x => rfl, fun x => rfl, fun x => rfl, fun cs x h => mk22_w h, fun h x => by first | rfl | exact absurd h (by decide)⟩
    · intro r h; have h := Option.some.inj h; subst h; exact ⟨fun x => rfl, fun x => rfl, fun x => rfl, fun cs x h => mk24_w h, fun h x => by first | rfl | exact absurd h (by decide)⟩
    · intro r h; have h := Option.some.inj h; subst h; exact ⟨fun x => rfl, fun x => rfl, fun x => rfl, fun cs x h => mk27_w h, fun h x => by first | rfl | exact absurd h (by decide)⟩
    · intro r h; have h := Option.some.inj h; subst h; exact ⟨fun x => rfl, fun x => rfl, fun x => rfl, fun cs x h => mk29_w h, fun h x => by first | rfl | exact absurd h (by decide)⟩
    · intro r h; have h := Option.some.inj h; subst h; exact ⟨fun x => rfl, fun x => rfl, fun x => rfl, fun cs x h => mk35_w h, fun h x => by first | rfl | exact absurd h (by decide)⟩
    · intro r h; have h := Option.some.inj h; subst h; exact ⟨fun x => rfl, fun x => rfl, fun x => rfl, fun cs x h => mk40_w h, fun h x => by first | rfl | exact absurd h (by decide)⟩
    · intro r h; have h := Option.some.inj h; subst h; exact ⟨fun x => rfl, fun x => rfl, fun x => rfl, fun cs x h => mk41_w h, fun h x => by first | rfl | exact absurd h (by decide)⟩
    · intro r h; have h := Option.some.inj h; subst h; exact ⟨fun x => rfl, fun x => rfl, fun x => rfl, fun cs x h => mk42_w h, fun h x => by first | rfl | exact absurd h (by decide)⟩
    · intro r h; have h := Option.some.inj h; subst h; exact ⟨fun x => rfl, fun x => rfl, fun x => rfl, fun cs x h => mk45_w h, fun h x => by first | rfl | exact absurd h (by decide)⟩
    · intro r h; have h := Option.some.inj h; subst h; exact ⟨fun x => rfl, fun x => rfl, fun x => rfl, fun cs x h => mk51_w h, fun h x => by first | rfl | exact absurd h (by decide)⟩
    · intro r h; have h := Option.some.inj h; subst h; exact ⟨fun x => rfl, fun x => rfl, fun x => rfl, fun cs x h => mk52_w h, fun h x => by first | rfl | exact absurd h (by decide)⟩
    · intro r h; have h := Option.some.inj h; subst h; exact ⟨fun x => rfl, fun x => rfl, fun x => rfl, fun cs x h => mk54_w h, fun h x => by first | rfl | exact absurd h (by decide)⟩
    · intro r h; have h := Option.some.inj h; subst h; exact ⟨fun x => rfl, fun x => rfl, fun x => rfl, fun cs x h => mk55_w h, fun h x => by first | rfl | exact absurd h (by decide)⟩
    · intro r h; have h := Option.some.inj h; subst h; exact ⟨fun x => rfl, fun x => rfl, fun x => rfl, fun cs x h => mk57_w h, fun h x => by first | rfl | exact absurd h (by decide)⟩
    · intro r h; have h := Option.some.inj h; subst h; exact ⟨fun x => rfl, fun x => rfl, fun x => rfl, fun cs x h => mk66_w h, fun h x => by first | rfl | exact absurd h (by decide)⟩
    · intro r h; have h := Option.some.inj h; subst h; exact ⟨fun x => rfl, fun x => rfl, fun x => rfl, fun cs x h => mk80_w h, fun h x => by first | rfl | exact absurd h (by decide)⟩
    · intro r h; have h := Option.some.inj h; subst h; exact ⟨fun x => rfl, fun x => rfl, fun x => rfl, fun cs x h => mk97_w h, fun h x => by first | rfl | exact absurd h (by decide)⟩
    · intro r h; have h := Option.some.inj h; subst h; exact ⟨fun x => rfl, fun x => rfl, fun x => rfl, fun cs x h => mk100_w h, fun h x => by first | rfl | exact absurd h (by decide)⟩
    · intro r h; have h := Option.some.inj h; subst h; exact ⟨fun x => rfl, fun x => rfl, fun x => rfl, fun cs x h => absurd h (by simp), fun h x => h⟩
    · intro r h; have h := Option.some.inj h; subst h; exact ⟨fun x => rfl, fun x => rfl, fun x => rfl, fun cs x h => absurd h (by simp), fun h x => h⟩
    · intro r h; exact absurd h (by simp)
  · revert f
    unfold u8F
    split
    · intro f h; have h := Option.some.inj h; subst h; exact ⟨rfl, fun x => rfl, fun n => ⟨n, rfl⟩⟩
    · intro f h; exact absurd h (by simp)
def rows : List (Nat × Ent) := [(0, ⟨.other, 0, 1, none, [], false, [], false, 0⟩),
  (2, ⟨.int .i64, 8, 1, some [.i .i64 0], [], false, [], false, 0⟩),
  (3, ⟨.int .i64, 8, 1, some [.i .i64 0], [], false, [], false, 0⟩),
  (4, ⟨.bool, 1, 1, some [.b false], [], false, [], false, 0⟩),
  (5, ⟨.int .u8, 1, 1, some [.i .u8 0], [], false, [], false, 0⟩),
  (9, ⟨.str, 16, 1, some [.s ⟨#[]⟩], [], false, [], false, 0⟩),
  (22, ⟨.slice 66, 24, 1, some [.nl], [], false, [], false, 0⟩),
  (24, ⟨.struct, 24, 1, some [.nl], [(0, 1)], false, [], false, 0⟩),
  (27, ⟨.slice 51, 24, 1, some [.nl], [], false, [], false, 0⟩),
  (29, ⟨.struct, 24, 1, some [.nl], [(0, 1)], false, [], false, 0⟩),
  (35, ⟨.slice 42, 24, 1, some [.nl], [], false, [], false, 0⟩),
  (36, ⟨.other, 0, 1, none, [], false, [], false, 0⟩),
  (38, ⟨.ptr 40, 8, 1, some [.np], [], false, [], false, 0⟩),
  (40, ⟨.struct, 48, 2, some [.nl, .nl], [(0, 1), (1, 1)], false, [], false, 0⟩),
  (41, ⟨.slice 5, 24, 1, some [.nl], [], false, [], false, 0⟩),
  (42, ⟨.slice 3, 24, 1, some [.nl], [], false, [], false, 0⟩),
  (45, ⟨.ptr 54, 8, 1, some [.np], [], false, [], false, 0⟩),
  (47, ⟨.ptr 49, 8, 1, some [.np], [], false, [], false, 0⟩),
  (49, ⟨.struct, 32, 2, some [.np, .nl], [(0, 1), (1, 1)], false, [], true, 5⟩),
  (51, ⟨.struct, 56, 6, some [.i .i64 0, .i .i64 0, .i .i64 0, .i .i64 0, .s ⟨#[]⟩, .i .i64 0], [(0, 1), (1, 1), (2, 1), (3, 1), (4, 1), (5, 1)], true, [], false, 0⟩),
  (52, ⟨.slice 45, 24, 1, some [.nl], [], false, [], false, 0⟩),
  (54, ⟨.struct, 88, 8, some [.i .i64 0, .i .i64 0, .i .i64 0, .i .i64 0, .s ⟨#[]⟩, .i .i64 0, .nl, .i .i64 0], [(0, 6), (6, 1), (7, 1)], false, [], false, 0⟩),
  (55, ⟨.slice 9, 24, 1, some [.nl], [], false, [], false, 0⟩),
  (57, ⟨.iface, 16, 1, some [.ifc true], [], false, [], false, 0⟩),
  (58, ⟨.other, 0, 1, none, [], false, [], false, 0⟩),
  (63, ⟨.other, 8, 1, some [.zo 0], [], false, [], false, 0⟩),
  (66, ⟨.struct, 56, 6, some [.i .i64 0, .i .i64 0, .i .i64 0, .i .i64 0, .s ⟨#[]⟩, .i .i64 0], [(0, 1), (1, 1), (2, 1), (3, 1), (4, 1), (5, 1)], true, [], false, 0⟩),
  (71, ⟨.other, 8, 1, some [.zo 0], [], false, [], false, 0⟩),
  (73, ⟨.other, 8, 1, some [.zo 0], [], false, [], false, 0⟩),
  (74, ⟨.other, 8, 1, some [.zo 0], [], false, [], false, 0⟩),
  (77, ⟨.other, 0, 1, none, [], false, [], false, 0⟩),
  (80, ⟨.int .u64, 8, 1, some [.i .u64 0], [], false, [], false, 0⟩),
  (83, ⟨.other, 0, 1, none, [], false, [], false, 0⟩),
  (88, ⟨.other, 8, 1, some [.zo 0], [], false, [], false, 0⟩),
  (97, ⟨.struct, 32, 3, some [.i .i64 0, .i .i64 0, .s ⟨#[]⟩], [(0, 1), (1, 1), (2, 1)], true, [], false, 0⟩),
  (100, ⟨.int .u64, 8, 1, some [.i .u64 0], [], false, [], false, 0⟩)]
theorem tab_ok : TabOk Go.Proofs.Tryz.prog (tabOf rows) ∧ ∀ t z, (tabOf rows).flat t = some z → FlatOk Go.Proofs.Tryz.prog t z := tabB_ok encOk (by kernel_rfl)
end Go.KM.P1
