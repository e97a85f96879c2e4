/- The tables of the law's functions. Conditions: none. -/
import Derived.Test.YtdhkmgloghlnnaaDoorKmX
import Derived.KernelRfl
import Derived.Test.YtdhkmgloghlnnaaDoorProg
namespace Go.KM.T1
open Go Go.KM
open Go.KM.Fam (Dn dflt)
open Go.KM.Enc (cells sz mkE glob gany u8)
set_option autoImplicit false
set_option linter.unusedVariables false
set_option maxRecDepth 100000
structure TNode where
  gKind : Int
  gOp : Int
  gType : Int
  gN : Int
  gText : ByteArray
  gKids : Int
def TNode.z : TNode := ⟨0, 0, 0, 0, ⟨#[]⟩, 0⟩
structure TTree where
  gNodes : List TNode
def TTree.z : TTree := ⟨[]⟩
structure TValue where
  gType : Int
  gN : Int
  gText : ByteArray
def TValue.z : TValue := ⟨0, 0, ⟨#[]⟩⟩
structure TNode_ where
  gNode : TNode
  gkids : List (Option TNode_)
  gnum : Int
def TNode_.z : TNode_ := ⟨⟨0, 0, 0, 0, ⟨#[]⟩, 0⟩, [], 0⟩
def base : Nat → Sigma fun α : Type => α
  | 2 => ⟨Int, 0⟩
  | 3 => ⟨Int, 0⟩
  | 4 => ⟨Bool, false⟩
  | 5 => ⟨Int, 0⟩
  | 9 => ⟨ByteArray, ⟨#[]⟩⟩
  | 22 => ⟨List TNode, []⟩
  | 24 => ⟨TTree, ⟨[]⟩⟩
  | 27 => ⟨List TNode, []⟩
  | 29 => ⟨TTree, ⟨[]⟩⟩
  | 51 => ⟨List (List Int), []⟩
  | 54 => ⟨List Int, []⟩
  | 56 => ⟨TNode, ⟨0, 0, 0, 0, ⟨#[]⟩, 0⟩⟩
  | 60 => ⟨Option TNode_, none⟩
  | 88 => ⟨TNode, ⟨0, 0, 0, 0, ⟨#[]⟩, 0⟩⟩
  | 93 => ⟨Int, 0⟩
  | 99 => ⟨List (Option TNode_), []⟩
  | 101 => ⟨TNode_, ⟨⟨0, 0, 0, 0, ⟨#[]⟩, 0⟩, [], 0⟩⟩
  | 157 => ⟨TValue, ⟨0, 0, ⟨#[]⟩⟩⟩
  | 169 => ⟨Int, 0⟩
  | 171 => ⟨List ByteArray, []⟩
  | _ => ⟨Unit, ()⟩
instance fam : Fam where
  Dn n := (base n).1
  dflt n := (base n).2
def mk2 (cs : List PV) : Option Int :=
  match cs with
  | [p0] => obind (cI .i64 p0) fun a0 => some (a0)
  | _ => none
def mk3 (cs : List PV) : Option Int :=
  match cs with
  | [p0] => obind (cI .i64 p0) fun a0 => some (a0)
  | _ => none
def mk4 (cs : List PV) : Option Bool :=
  match cs with
  | [p0] => obind (cB p0) fun a0 => some (a0)
  | _ => none
def mk5 (cs : List PV) : Option Int :=
  match cs with
  | [p0] => obind (cI .u8 p0) fun a0 => some (a0)
  | _ => none
def mk9 (cs : List PV) : Option ByteArray :=
  match cs with
  | [p0] => obind (cS p0) fun a0 => some (a0)
  | _ => none
def mk22 (cs : List PV) : Option (List TNode) :=
  match cs with
  | [p0] => obind (cF 88 p0) fun a0 => some (a0)
  | _ => none
def mk24 (cs : List PV) : Option TTree :=
  match cs with
  | [p0] => obind (cF 88 p0) fun a0 => some (⟨a0⟩)
  | _ => none
def mk27 (cs : List PV) : Option (List TNode) :=
  match cs with
  | [p0] => obind (cF 56 p0) fun a0 => some (a0)
  | _ => none
def mk29 (cs : List PV) : Option TTree :=
  match cs with
  | [p0] => obind (cF 56 p0) fun a0 => some (⟨a0⟩)
  | _ => none
def mk51 (cs : List PV) : Option (List (List Int)) :=
  match cs with
  | [p0] => obind (cF 54 p0) fun a0 => some (a0)
  | _ => none
def mk54 (cs : List PV) : Option (List Int) :=
  match cs with
  | [p0] => obind (cF 3 p0) fun a0 => some (a0)
  | _ => none
def mk56 (cs : List PV) : Option TNode :=
  match cs with
  | [p0, p1, p2, p3, p4, p5] => obind (cI .i64 p0) fun a0 => obind (cI .i64 p1) fun a1 => obind (cI .i64 p2) fun a2 => obind (cI .i64 p3) fun a3 => obind (cS p4) fun a4 => obind (cI .i64 p5) fun a5 => some (⟨a0, a1, a2, a3, a4, a5⟩)
  | _ => none
def mk60 (cs : List PV) : Option (Option TNode_) :=
  match cs with
  | [p0] => obind (cP 101 p0) fun a0 => some (a0)
  | _ => none
def mk88 (cs : List PV) : Option TNode :=
  match cs with
  | [p0, p1, p2, p3, p4, p5] => obind (cI .i64 p0) fun a0 => obind (cI .i64 p1) fun a1 => obind (cI .i64 p2) fun a2 => obind (cI .i64 p3) fun a3 => obind (cS p4) fun a4 => obind (cI .i64 p5) fun a5 => some (⟨a0, a1, a2, a3, a4, a5⟩)
  | _ => none
def mk93 (cs : List PV) : Option Int :=
  match cs with
  | [p0] => obind (cI .u64 p0) fun a0 => some (a0)
  | _ => none
def mk99 (cs : List PV) : Option (List (Option TNode_)) :=
  match cs with
  | [p0] => obind (cF 60 p0) fun a0 => some (a0)
  | _ => none
def mk101 (cs : List PV) : Option TNode_ :=
  match cs with
  | [p0, p1, p2, p3, p4, p5, p6, p7] => obind (cI .i64 p0) fun a0 => obind (cI .i64 p1) fun a1 => obind (cI .i64 p2) fun a2 => obind (cI .i64 p3) fun a3 => obind (cS p4) fun a4 => obind (cI .i64 p5) fun a5 => obind (cF 60 p6) fun a6 => obind (cI .i64 p7) fun a7 => some (⟨⟨a0, a1, a2, a3, a4, a5⟩, a6, a7⟩)
  | _ => none
def mk157 (cs : List PV) : Option TValue :=
  match cs with
  | [p0, p1, p2] => obind (cI .i64 p0) fun a0 => obind (cI .i64 p1) fun a1 => obind (cS p2) fun a2 => some (⟨a0, a1, a2⟩)
  | _ => none
def mk169 (cs : List PV) : Option Int :=
  match cs with
  | [p0] => obind (cI .u64 p0) fun a0 => some (a0)
  | _ => none
def mk171 (cs : List PV) : Option (List ByteArray) :=
  match cs with
  | [p0] => obind (cF 9 p0) fun a0 => some (a0)
  | _ => none
def rowF : (T : Nat) → Option (TyRow T)
  | 2 => some ⟨1, fun (x : Int) => [.i .i64 (x)], mk2⟩
  | 3 => some ⟨1, fun (x : Int) => [.i .i64 (x)], mk3⟩
  | 4 => some ⟨1, fun (x : Bool) => [.b (x)], mk4⟩
  | 5 => some ⟨1, fun (x : Int) => [.i .u8 (x)], mk5⟩
  | 9 => some ⟨1, fun (x : ByteArray) => [.s (x)], mk9⟩
  | 22 => some ⟨1, fun (x : List TNode) => [.fl 88 (x)], mk22⟩
  | 24 => some ⟨1, fun (x : TTree) => [.fl 88 (x.gNodes)], mk24⟩
  | 27 => some ⟨1, fun (x : List TNode) => [.fl 56 (x)], mk27⟩
  | 29 => some ⟨1, fun (x : TTree) => [.fl 56 (x.gNodes)], mk29⟩
  | 51 => some ⟨1, fun (x : List (List Int)) => [.fl 54 (x)], mk51⟩
  | 54 => some ⟨1, fun (x : List Int) => [.fl 3 (x)], mk54⟩
  | 56 => some ⟨6, fun (x : TNode) => [.i .i64 (x.gKind), .i .i64 (x.gOp), .i .i64 (x.gType), .i .i64 (x.gN), .s (x.gText), .i .i64 (x.gKids)], mk56⟩
  | 60 => some ⟨1, fun (x : Option TNode_) => [.fp 101 (x)], mk60⟩
  | 88 => some ⟨6, fun (x : TNode) => [.i .i64 (x.gKind), .i .i64 (x.gOp), .i .i64 (x.gType), .i .i64 (x.gN), .s (x.gText), .i .i64 (x.gKids)], mk88⟩
  | 93 => some ⟨1, fun (x : Int) => [.i .u64 (x)], mk93⟩
  | 99 => some ⟨1, fun (x : List (Option TNode_)) => [.fl 60 (x)], mk99⟩
  | 101 => some ⟨8, fun (x : TNode_) => [.i .i64 (x.gNode.gKind), .i .i64 (x.gNode.gOp), .i .i64 (x.gNode.gType), .i .i64 (x.gNode.gN), .s (x.gNode.gText), .i .i64 (x.gNode.gKids), .fl 60 (x.gkids), .i .i64 (x.gnum)], mk101⟩
  | 157 => some ⟨3, fun (x : TValue) => [.i .i64 (x.gType), .i .i64 (x.gN), .s (x.gText)], mk157⟩
  | 169 => some ⟨1, fun (x : Int) => [.i .u64 (x)], mk169⟩
  | 171 => some ⟨1, fun (x : List ByteArray) => [.fl 9 (x)], mk171⟩
  | 1000001 => some ⟨256, fun (x : Unit) => [.i .u8 0, .i .u8 0, .i .u8 0, .i .u8 0, .i .u8 0, .i .u8 0, .i .u8 0, .i .u8 0, .i .u8 0, .i .u8 1, .i .u8 1, .i .u8 1, .i .u8 1, .i .u8 1, .i .u8 0, .i .u8 0, .i .u8 0, .i .u8 0, .i .u8 0, .i .u8 0, .i .u8 0, .i .u8 0, .i .u8 0, .i .u8 0, .i .u8 0, .i .u8 0, .i .u8 0, .i .u8 0, .i .u8 0, .i .u8 0, .i .u8 0, .i .u8 0, .i .u8 1, .i .u8 0, .i .u8 0, .i .u8 0, .i .u8 0, .i .u8 0, .i .u8 0, .i .u8 0, .i .u8 0, .i .u8 0, .i .u8 0, .i .u8 0, .i .u8 0, .i .u8 0, .i .u8 0, .i .u8 0, .i .u8 0, .i .u8 0, .i .u8 0, .i .u8 0, .i .u8 0, .i .u8 0, .i .u8 0, .i .u8 0, .i .u8 0, .i .u8 0, .i .u8 0, .i .u8 0, .i .u8 0, .i .u8 0, .i .u8 0, .i .u8 0, .i .u8 0, .i .u8 0, .i .u8 0, .i .u8 0, .i .u8 0, .i .u8 0, .i .u8 0, .i .u8 0, .i .u8 0, .i .u8 0, .i .u8 0, .i .u8 0, .i .u8 0, .i .u8 0, .i .u8 0, .i .u8 0, .i .u8 0, .i .u8 0, .i .u8 0, .i .u8 0, .i .u8 0, .i .u8 0, .i .u8 0, .i .u8 0, .i .u8 0, .i .u8 0, .i .u8 0, .i .u8 0, .i .u8 0, .i .u8 0, .i .u8 0, .i .u8 0, .i .u8 0, .i .u8 0, .i .u8 0, .i .u8 0, .i .u8 0, .i .u8 0, .i .u8 0, .i .u8 0, .i .u8 0, .i .u8 0, .i .u8 0, .i .u8 0, .i .u8 0, .i .u8 0, .i .u8 0, .i .u8 0, .i .u8 0, .i .u8 0, .i .u8 0, .i .u8 0, .i .u8 0, .i .u8 0, .i .u8 0, .i .u8 0, .i .u8 0, .i .u8 0, .i .u8 0, .i .u8 0, .i .u8 0, .i .u8 0, .i .u8 0, .i .u8 0, .i .u8 0, .i .u8 0, .i .u8 0, .i .u8 0, .i .u8 0, .i .u8 0, .i .u8 0, .i .u8 0, .i .u8 0, .i .u8 0, .i .u8 0, .i .u8 0, .i .u8 0, .i .u8 0, .i .u8 0, .i .u8 0, .i .u8 0, .i .u8 0, .i .u8 0, .i .u8 0, .i .u8 0, .i .u8 0, .i .u8 0, .i .u8 0, .i .u8 0, .i .u8 0, .i .u8 0, .i .u8 0, .i .u8 0, .i .u8 0, .i .u8 0, .i .u8 0, .i .u8 0, .i .u8 0, .i .u8 0, .i .u8 0, .i .u8 0, .i .u8 0, .i .u8 0, .i .u8 0, .i .u8 0, .i .u8 0, .i .u8 0, .i .u8 0, .i .u8 0, .i .u8 0, .i .u8 0, .i .u8 0, .i .u8 0, .i .u8 0, .i .u8 0, .i .u8 0, .i .u8 0, .i .u8 0, .i .u8 0, .i .u8 0, .i .u8 0, .i .u8 0, .i .u8 0, .i .u8 0, .i .u8 0, .i .u8 0, .i .u8 0, .i .u8 0, .i .u8 0, .i .u8 0, .i .u8 0, .i .u8 0, .i .u8 0, .i .u8 0, .i .u8 0, .i .u8 0, .i .u8 0, .i .u8 0, .i .u8 0, .i .u8 0, .i .u8 0, .i .u8 0, .i .u8 0, .i .u8 0, .i .u8 0, .i .u8 0, .i .u8 0, .i .u8 0, .i .u8 0, .i .u8 0, .i .u8 0, .i .u8 0, .i .u8 0, .i .u8 0, .i .u8 0, .i .u8 0, .i .u8 0, .i .u8 0, .i .u8 0, .i .u8 0, .i .u8 0, .i .u8 0, .i .u8 0, .i .u8 0, .i .u8 0, .i .u8 0, .i .u8 0, .i .u8 0, .i .u8 0, .i .u8 0, .i .u8 0, .i .u8 0, .i .u8 0, .i .u8 0, .i .u8 0, .i .u8 0, .i .u8 0, .i .u8 0, .i .u8 0, .i .u8 0, .i .u8 0, .i .u8 0, .i .u8 0, .i .u8 0, .i .u8 0, .i .u8 0, .i .u8 0, .i .u8 0, .i .u8 0, .i .u8 0, .i .u8 0, .i .u8 0], fun _ => none⟩
  | _ => none
def u8F : (T : Nat) → Option (Dn T → Int)
  | 5 => some fun (x : Int) => x
  | _ => none
def globF : Nat → Option (Sigma fun T => Dn T)
  | 1 => some ⟨1000001, ()⟩
  | 2 => some ⟨171, ([(⟨#[]⟩ : ByteArray), (⟨#[98, 111, 111, 108]⟩ : ByteArray), (⟨#[116, 101, 120, 116]⟩ : ByteArray), (⟨#[117, 56]⟩ : ByteArray), (⟨#[117, 49, 54]⟩ : ByteArray), (⟨#[117, 51, 50]⟩ : ByteArray), (⟨#[117, 54, 52]⟩ : ByteArray), (⟨#[105, 56]⟩ : ByteArray), (⟨#[105, 49, 54]⟩ : ByteArray), (⟨#[105, 51, 50]⟩ : ByteArray), (⟨#[105, 54, 52]⟩ : ByteArray)] : List ByteArray)⟩
  | _ => none
def ganyF : Nat → Option IntKind
  | _ => none
instance enc : Enc := encOf fam rowF globF ganyF u8F
theorem mk2_w {cs : List PV} {x : Int} (h : mk2 cs = some x) : Ws cs [.i .i64 (x)] := by
  unfold mk2 at h
  split at h
  · obtain ⟨a0, h0, h⟩ := ob h; have h := Option.some.inj h; subst h
    exact .cons (cI_w h0) (.nil)
  · simp at h
theorem mk3_w {cs : List PV} {x : Int} (h : mk3 cs = some x) : Ws cs [.i .i64 (x)] := by
  unfold mk3 at h
  split at h
  · obtain ⟨a0, h0, h⟩ := ob h; have h := Option.some.inj h; subst h
    exact .cons (cI_w h0) (.nil)
  · simp at h
theorem mk4_w {cs : List PV} {x : Bool} (h : mk4 cs = some x) : Ws cs [.b (x)] := by
  unfold mk4 at h
  split at h
  · obtain ⟨a0, h0, h⟩ := ob h; have h := Option.some.inj h; subst h
    exact .cons (cB_w h0) (.nil)
  · simp at h
theorem mk5_w {cs : List PV} {x : Int} (h : mk5 cs = some x) : Ws cs [.i .u8 (x)] := by
  unfold mk5 at h
  split at h
  · obtain ⟨a0, h0, h⟩ := ob h; have h := Option.some.inj h; subst h
    exact .cons (cI_w h0) (.nil)
  · simp at h
theorem mk9_w {cs : List PV} {x : ByteArray} (h : mk9 cs = some x) : Ws cs [.s (x)] := by
  unfold mk9 at h
  split at h
  · obtain ⟨a0, h0, h⟩ := ob h; have h := Option.some.inj h; subst h
    exact .cons (cS_w h0) (.nil)
  · simp at h
theorem mk22_w {cs : List PV} {x : List TNode} (h : mk22 cs = some x) : Ws cs [.fl 88 (x)] := by
  unfold mk22 at h
  split at h
  · obtain ⟨a0, h0, h⟩ := ob h; have h := Option.some.inj h; subst h
    exact .cons (cF_w h0) (.nil)
  · simp at h
theorem mk24_w {cs : List PV} {x : TTree} (h : mk24 cs = some x) : Ws cs [.fl 88 (x.gNodes)] := by
  unfold mk24 at h
  split at h
  · obtain ⟨a0, h0, h⟩ := ob h; have h := Option.some.inj h; subst h
    exact .cons (cF_w h0) (.nil)
  · simp at h
theorem mk27_w {cs : List PV} {x : List TNode} (h : mk27 cs = some x) : Ws cs [.fl 56 (x)] := by
  unfold mk27 at h
  split at h
  · obtain ⟨a0, h0, h⟩ := ob h; have h := Option.some.inj h; subst h
    exact .cons (cF_w h0) (.nil)
  · simp at h
theorem mk29_w {cs : List PV} {x : TTree} (h : mk29 cs = some x) : Ws cs [.fl 56 (x.gNodes)] := by
  unfold mk29 at h
  split at h
  · obtain ⟨a0, h0, h⟩ := ob h; have h := Option.some.inj h; subst h
    exact .cons (cF_w h0) (.nil)
  · simp at h
theorem mk51_w {cs : List PV} {x : List (List Int)} (h : mk51 cs = some x) : Ws cs [.fl 54 (x)] := by
  unfold mk51 at h
  split at h
  · obtain ⟨a0, h0, h⟩ := ob h; have h := Option.some.inj h; subst h
    exact .cons (cF_w h0) (.nil)
  · simp at h
theorem mk54_w {cs : List PV} {x : List Int} (h : mk54 cs = some x) : Ws cs [.fl 3 (x)] := by
  unfold mk54 at h
  split at h
  · obtain ⟨a0, h0, h⟩ := ob h; have h := Option.some.inj h; subst h
    exact .cons (cF_w h0) (.nil)
  · simp at h
theorem mk56_w {cs : List PV} {x : TNode} (h : mk56 cs = some x) : Ws cs [.i .i64 (x.gKind), .i .i64 (x.gOp), .i .i64 (x.gType), .i .i64 (x.gN), .s (x.gText), .i .i64 (x.gKids)] := by
  unfold mk56 at h
  split at h
  · obtain ⟨a0, h0, h⟩ := ob h; obtain ⟨a1, h1, h⟩ := ob h; obtain ⟨a2, h2, h⟩ := ob h; obtain ⟨a3, h3, h⟩ := ob h; obtain ⟨a4, h4, h⟩ := ob h; obtain ⟨a5, h5, h⟩ := ob h; have h := Option.some.inj h; subst h
    exact .cons (cI_w h0) (.cons (cI_w h1) (.cons (cI_w h2) (.cons (cI_w h3) (.cons (cS_w h4) (.cons (cI_w h5) (.nil))))))
  · simp at h
theorem mk60_w {cs : List PV} {x : Option TNode_} (h : mk60 cs = some x) : Ws cs [.fp 101 (x)] := by
  unfold mk60 at h
  split at h
  · obtain ⟨a0, h0, h⟩ := ob h; have h := Option.some.inj h; subst h
    exact .cons (cP_w h0) (.nil)
  · simp at h
theorem mk88_w {cs : List PV} {x : TNode} (h : mk88 cs = some x) : Ws cs [.i .i64 (x.gKind), .i .i64 (x.gOp), .i .i64 (x.gType), .i .i64 (x.gN), .s (x.gText), .i .i64 (x.gKids)] := by
  unfold mk88 at h
  split at h
  · obtain ⟨a0, h0, h⟩ := ob h; obtain ⟨a1, h1, h⟩ := ob h; obtain ⟨a2, h2, h⟩ := ob h; obtain ⟨a3, h3, h⟩ := ob h; obtain ⟨a4, h4, h⟩ := ob h; obtain ⟨a5, h5, h⟩ := ob h; have h := Option.some.inj h; subst h
    exact .cons (cI_w h0) (.cons (cI_w h1) (.cons (cI_w h2) (.cons (cI_w h3) (.cons (cS_w h4) (.cons (cI_w h5) (.nil))))))
  · simp at h
theorem mk93_w {cs : List PV} {x : Int} (h : mk93 cs = some x) : Ws cs [.i .u64 (x)] := by
  unfold mk93 at h
  split at h
  · obtain ⟨a0, h0, h⟩ := ob h; have h := Option.some.inj h; subst h
    exact .cons (cI_w h0) (.nil)
  · simp at h
theorem mk99_w {cs : List PV} {x : List (Option TNode_)} (h : mk99 cs = some x) : Ws cs [.fl 60 (x)] := by
  unfold mk99 at h
  split at h
  · obtain ⟨a0, h0, h⟩ := ob h; have h := Option.some.inj h; subst h
    exact .cons (cF_w h0) (.nil)
  · simp at h
theorem mk101_w {cs : List PV} {x : TNode_} (h : mk101 cs = some x) : Ws cs [.i .i64 (x.gNode.gKind), .i .i64 (x.gNode.gOp), .i .i64 (x.gNode.gType), .i .i64 (x.gNode.gN), .s (x.gNode.gText), .i .i64 (x.gNode.gKids), .fl 60 (x.gkids), .i .i64 (x.gnum)] := by
  unfold mk101 at h
  split at h
  · obtain ⟨a0, h0, h⟩ := ob h; obtain ⟨a1, h1, h⟩ := ob h; obtain ⟨a2, h2, h⟩ := ob h; obtain ⟨a3, h3, h⟩ := ob h; obtain ⟨a4, h4, h⟩ := ob h; obtain ⟨a5, h5, h⟩ := ob h; obtain ⟨a6, h6, h⟩ := ob h; obtain ⟨a7, h7, h⟩ := ob h; have h := Option.some.inj h; subst h
    exact .cons (cI_w h0) (.cons (cI_w h1) (.cons (cI_w h2) (.cons (cI_w h3) (.cons (cS_w h4) (.cons (cI_w h5) (.cons (cF_w h6) (.cons (cI_w h7) (.nil))))))))
  · simp at h
theorem mk157_w {cs : List PV} {x : TValue} (h : mk157 cs = some x) : Ws cs [.i .i64 (x.gType), .i .i64 (x.gN), .s (x.gText)] := by
  unfold mk157 at h
  split at h
  · obtain ⟨a0, h0, h⟩ := ob h; obtain ⟨a1, h1, h⟩ := ob h; obtain ⟨a2, h2, h⟩ := ob h; have h := Option.some.inj h; subst h
    exact .cons (cI_w h0) (.cons (cI_w h1) (.cons (cS_w h2) (.nil)))
  · simp at h
theorem mk169_w {cs : List PV} {x : Int} (h : mk169 cs = some x) : Ws cs [.i .u64 (x)] := by
  unfold mk169 at h
  split at h
  · obtain ⟨a0, h0, h⟩ := ob h; have h := Option.some.inj h; subst h
    exact .cons (cI_w h0) (.nil)
  · simp at h
theorem mk171_w {cs : List PV} {x : List ByteArray} (h : mk171 cs = some x) : Ws cs [.fl 9 (x)] := by
  unfold mk171 at h
  split at h
  · obtain ⟨a0, h0, h⟩ := ob h; have h := Option.some.inj h; subst h
    exact .cons (cF_w h0) (.nil)
  · simp at h
theorem encOk : EncOk := by
  refine encOf_ok (fun T r h => ?_) (fun T f h => ?_)
  · revert r
    unfold rowF
    split
    · intro r h; have h := Option.some.inj h; subst h; exact ⟨fun x => rfl, fun x => rfl, fun x => rfl, fun cs x h => mk2_w h⟩
    · intro r h; have h := Option.some.inj h; subst h; exact ⟨fun x => rfl, fun x => rfl, fun x => rfl, fun cs x h => mk3_w h⟩
    · intro r h; have h := Option.some.inj h; subst h; exact ⟨fun x => rfl, fun x => rfl, fun x => rfl, fun cs x h => mk4_w h⟩
    · intro r h; have h := Option.some.inj h; subst h; exact ⟨fun x => rfl, fun x => rfl, fun x => rfl, fun cs x h => mk5_w h⟩
    · intro r h; have h := Option.some.inj h; subst h; exact ⟨fun x => rfl, fun x => rfl, fun x => rfl, fun cs x h => mk9_w h⟩
    · intro r h; have h := Option.some.inj h; subst h; exact ⟨fun x => rfl, fun x => rfl, fun x => rfl, fun cs x h => mk22_w h⟩
    · intro r h; have h := Option.some.inj h; subst h; exact ⟨fun x => rfl, fun x => rfl, fun x => rfl, fun cs x h => mk24_w h⟩
    · intro r h; have h := Option.some.inj h; subst h; exact ⟨fun x => rfl, fun x => rfl, fun x => rfl, fun cs x h => mk27_w h⟩
    · intro r h; have h := Option.some.inj h; subst h; exact ⟨fun x => rfl, fun x => rfl, fun x => rfl, fun cs x h => mk29_w h⟩
    · intro r h; have h := Option.some.inj h; subst h; exact ⟨fun x => rfl, fun x => rfl, fun x => rfl, fun cs x h => mk51_w h⟩
    · intro r h; have h := Option.some.inj h; subst h; exact ⟨fun x => rfl, fun x => rfl, fun x => rfl, fun cs x h => mk54_w h⟩
    · intro r h; have h := Option.some.inj h; subst h; exact ⟨fun x => rfl, fun x => rfl, fun x => rfl, fun cs x h => mk56_w h⟩
    · intro r h; have h := Option.some.inj h; subst h; exact ⟨fun x => rfl, fun x => rfl, fun x => rfl, fun cs x h => mk60_w h⟩
    · intro r h; have h := Option.some.inj h; subst h; exact ⟨fun x => rfl, fun x => rfl, fun x => rfl, fun cs x h => mk88_w h⟩
    · intro r h; have h := Option.some.inj h; subst h; exact ⟨fun x => rfl, fun x => rfl, fun x => rfl, fun cs x h => mk93_w h⟩
    · intro r h; have h := Option.some.inj h; subst h; exact ⟨fun x => rfl, fun x => rfl, fun x => rfl, fun cs x h => mk99_w h⟩
    · intro r h; have h := Option.some.inj h; subst h; exact ⟨fun x => rfl, fun x => rfl, fun x => rfl, fun cs x h => mk101_w h⟩
    · intro r h; have h := Option.some.inj h; subst h; exact ⟨fun x => rfl, fun x => rfl, fun x => rfl, fun cs x h => mk157_w h⟩
    · intro r h; have h := Option.some.inj h; subst h; exact ⟨fun x => rfl, fun x => rfl, fun x => rfl, fun cs x h => mk169_w h⟩
    · intro r h; have h := Option.some.inj h; subst h; exact ⟨fun x => rfl, fun x => rfl, fun x => rfl, fun cs x h => mk171_w h⟩
    · intro r h; have h := Option.some.inj h; subst h; exact ⟨fun x => rfl, fun x => rfl, fun x => rfl, fun cs x h => absurd h (by simp)⟩
    · intro r h; exact absurd h (by simp)
  · revert f
    unfold u8F
    split
    · intro f h; have h := Option.some.inj h; subst h; exact ⟨rfl, fun x => rfl⟩
    · intro f h; exact absurd h (by simp)
def rows : List (Nat × Ent) := [(0, ⟨.other, 0, 1, none, [], false⟩),
  (2, ⟨.int .i64, 8, 1, some [.i .i64 0], [], false⟩),
  (3, ⟨.int .i64, 8, 1, some [.i .i64 0], [], false⟩),
  (4, ⟨.bool, 1, 1, some [.b false], [], false⟩),
  (5, ⟨.int .u8, 1, 1, some [.i .u8 0], [], false⟩),
  (9, ⟨.str, 16, 1, some [.s ⟨#[]⟩], [], false⟩),
  (22, ⟨.slice 88, 24, 1, some [.nl], [], false⟩),
  (24, ⟨.struct, 24, 1, some [.nl], [(0, 1)], false⟩),
  (27, ⟨.slice 56, 24, 1, some [.nl], [], false⟩),
  (29, ⟨.struct, 24, 1, some [.nl], [(0, 1)], false⟩),
  (51, ⟨.slice 54, 24, 1, some [.nl], [], false⟩),
  (52, ⟨.other, 0, 1, none, [], false⟩),
  (54, ⟨.slice 3, 24, 1, some [.nl], [], false⟩),
  (56, ⟨.struct, 56, 6, some [.i .i64 0, .i .i64 0, .i .i64 0, .i .i64 0, .s ⟨#[]⟩, .i .i64 0], [(0, 1), (1, 1), (2, 1), (3, 1), (4, 1), (5, 1)], true⟩),
  (60, ⟨.ptr 101, 8, 1, some [.np], [], false⟩),
  (88, ⟨.struct, 56, 6, some [.i .i64 0, .i .i64 0, .i .i64 0, .i .i64 0, .s ⟨#[]⟩, .i .i64 0], [(0, 1), (1, 1), (2, 1), (3, 1), (4, 1), (5, 1)], true⟩),
  (89, ⟨.other, 0, 1, none, [], false⟩),
  (91, ⟨.other, 8, 1, none, [], false⟩),
  (93, ⟨.int .u64, 8, 1, some [.i .u64 0], [], false⟩),
  (96, ⟨.other, 0, 1, none, [], false⟩),
  (99, ⟨.slice 60, 24, 1, some [.nl], [], false⟩),
  (101, ⟨.struct, 88, 8, some [.i .i64 0, .i .i64 0, .i .i64 0, .i .i64 0, .s ⟨#[]⟩, .i .i64 0, .nl, .i .i64 0], [(0, 6), (6, 1), (7, 1)], false⟩),
  (157, ⟨.struct, 32, 3, some [.i .i64 0, .i .i64 0, .s ⟨#[]⟩], [(0, 1), (1, 1), (2, 1)], true⟩),
  (169, ⟨.int .u64, 8, 1, some [.i .u64 0], [], false⟩),
  (171, ⟨.slice 9, 24, 1, some [.nl], [], false⟩)]
theorem tab_ok : TabOk Go.Proofs.Tryd.prog (tabOf rows) ∧ ∀ t z, (tabOf rows).flat t = some z → FlatOk Go.Proofs.Tryd.prog t z := tabB_ok encOk (by kernel_rfl)
end Go.KM.T1
