/- The tables of the law's functions. Conditions: none. -/
import Derived.Test.YtgjcobbngimleaaDoorKmX
import Derived.KernelRfl
import Derived.Test.YtgjcobbngimleaaDoorProg
namespace Go.KM.S1
open Go Go.KM
open Go.KM.Fam (Dn dflt)
open Go.KM.Enc (cells sz mkE glob gany u8)
set_option autoImplicit false
set_option linter.unusedVariables false
set_option maxRecDepth 100000
structure TToken where
  gKind : Int
  gText : ByteArray
  gType : Int
  gN : Int
  gAt : Int
def TToken.z : TToken := ⟨0, ⟨#[]⟩, 0, 0, 0⟩
structure TFault where
  gCode : Int
  gAt : Int
def TFault.z : TFault := ⟨0, 0⟩
def base : Nat → Sigma fun α : Type => α
  | 2 => ⟨Int, 0⟩
  | 3 => ⟨Int, 0⟩
  | 4 => ⟨Bool, false⟩
  | 5 => ⟨Int, 0⟩
  | 9 => ⟨ByteArray, ⟨#[]⟩⟩
  | 33 => ⟨List Int, []⟩
  | 41 => ⟨List TToken, []⟩
  | 43 => ⟨TFault, ⟨0, 0⟩⟩
  | 65 => ⟨Bool, true⟩
  | 74 => ⟨Int, 0⟩
  | 77 => ⟨Int, 0⟩
  | 86 => ⟨TToken, ⟨0, ⟨#[]⟩, 0, 0, 0⟩⟩
  | 108 => ⟨List ByteArray, []⟩
  | _ => ⟨Unit, ()⟩
instance fam : Fam where
  Dn n := (base n).1
  dflt n := (base n).2
def mk2 (cs : List PV) : Option Int :=
  match cs with
  | [p0] => obind (cI .i64 p0) fun a0 => some (a0)
  | _ => none
def mk3 (cs : List PV) : Option Int :=
  match cs with
  | [p0] => obind (cI .i64 p0) fun a0 => some (a0)
  | _ => none
def mk4 (cs : List PV) : Option Bool :=
  match cs with
  | [p0] => obind (cB p0) fun a0 => some (a0)
  | _ => none
def mk5 (cs : List PV) : Option Int :=
  match cs with
  | [p0] => obind (cI .u8 p0) fun a0 => some (a0)
  | _ => none
def mk9 (cs : List PV) : Option ByteArray :=
  match cs with
  | [p0] => obind (cS p0) fun a0 => some (a0)
  | _ => none
def mk33 (cs : List PV) : Option (List Int) :=
  match cs with
  | [p0] => obind (cF 5 p0) fun a0 => some (a0)
  | _ => none
def mk41 (cs : List PV) : Option (List TToken) :=
  match cs with
  | [p0] => obind (cF 86 p0) fun a0 => some (a0)
  | _ => none
def mk43 (cs : List PV) : Option TFault :=
  match cs with
  | [p0, p1] => obind (cI .i64 p0) fun a0 => obind (cI .i64 p1) fun a1 => some (⟨a0, a1⟩)
  | _ => none
def mk65 (cs : List PV) : Option Bool :=
  match cs with
  | [p0] => obind (cE p0) fun a0 => some (a0)
  | _ => none
def mk74 (cs : List PV) : Option Int :=
  match cs with
  | [p0] => obind (cI .u64 p0) fun a0 => some (a0)
  | _ => none
def mk77 (cs : List PV) : Option Int :=
  match cs with
  | [p0] => obind (cI .u64 p0) fun a0 => some (a0)
  | _ => none
def mk86 (cs : List PV) : Option TToken :=
  match cs with
  | [p0, p1, p2, p3, p4] => obind (cI .i64 p0) fun a0 => obind (cS p1) fun a1 => obind (cI .i64 p2) fun a2 => obind (cI .i64 p3) fun a3 => obind (cI .i64 p4) fun a4 => some (⟨a0, a1, a2, a3, a4⟩)
  | _ => none
def mk108 (cs : List PV) : Option (List ByteArray) :=
  match cs with
  | [p0] => obind (cF 9 p0) fun a0 => some (a0)
  | _ => none
def rowF : (T : Nat) → Option (TyRow T)
  | 2 => some ⟨1, fun (x : Int) => [.i .i64 (x)], mk2⟩
  | 3 => some ⟨1, fun (x : Int) => [.i .i64 (x)], mk3⟩
  | 4 => some ⟨1, fun (x : Bool) => [.b (x)], mk4⟩
  | 5 => some ⟨1, fun (x : Int) => [.i .u8 (x)], mk5⟩
  | 9 => some ⟨1, fun (x : ByteArray) => [.s (x)], mk9⟩
  | 33 => some ⟨1, fun (x : List Int) => [.fl 5 (x)], mk33⟩
  | 41 => some ⟨1, fun (x : List TToken) => [.fl 86 (x)], mk41⟩
  | 43 => some ⟨2, fun (x : TFault) => [.i .i64 (x.gCode), .i .i64 (x.gAt)], mk43⟩
  | 65 => some ⟨1, fun (x : Bool) => [.ifc (x)], mk65⟩
  | 74 => some ⟨1, fun (x : Int) => [.i .u64 (x)], mk74⟩
  | 77 => some ⟨1, fun (x : Int) => [.i .u64 (x)], mk77⟩
  | 86 => some ⟨5, fun (x : TToken) => [.i .i64 (x.gKind), .s (x.gText), .i .i64 (x.gType), .i .i64 (x.gN), .i .i64 (x.gAt)], mk86⟩
  | 108 => some ⟨1, fun (x : List ByteArray) => [.fl 9 (x)], mk108⟩
  | 1000003 => some ⟨1, fun (x : Unit) => [.ifc false], fun _ => none⟩
  | 1000004 => some ⟨1, fun (x : Unit) => [.ifc false], fun _ => none⟩
  | 1000006 => some ⟨256, fun (x : Unit) => [.i .u8 0, .i .u8 0, .i .u8 0, .i .u8 0, .i .u8 0, .i .u8 0, .i .u8 0, .i .u8 0, .i .u8 0, .i .u8 1, .i .u8 1, .i .u8 1, .i .u8 1, .i .u8 1, .i .u8 0, .i .u8 0, .i .u8 0, .i .u8 0, .i .u8 0, .i .u8 0, .i .u8 0, .i .u8 0, .i .u8 0, .i .u8 0, .i .u8 0, .i .u8 0, .i .u8 0, .i .u8 0, .i .u8 0, .i .u8 0, .i .u8 0, .i .u8 0, .i .u8 1, .i .u8 0, .i .u8 0, .i .u8 0, .i .u8 0, .i .u8 0, .i .u8 0, .i .u8 0, .i .u8 0, .i .u8 0, .i .u8 0, .i .u8 0, .i .u8 0, .i .u8 0, .i .u8 0, .i .u8 0, .i .u8 0, .i .u8 0, .i .u8 0, .i .u8 0, .i .u8 0, .i .u8 0, .i .u8 0, .i .u8 0, .i .u8 0, .i .u8 0, .i .u8 0, .i .u8 0, .i .u8 0, .i .u8 0, .i .u8 0, .i .u8 0, .i .u8 0, .i .u8 0, .i .u8 0, .i .u8 0, .i .u8 0, .i .u8 0, .i .u8 0, .i .u8 0, .i .u8 0, .i .u8 0, .i .u8 0, .i .u8 0, .i .u8 0, .i .u8 0, .i .u8 0, .i .u8 0, .i .u8 0, .i .u8 0, .i .u8 0, .i .u8 0, .i .u8 0, .i .u8 0, .i .u8 0, .i .u8 0, .i .u8 0, .i .u8 0, .i .u8 0, .i .u8 0, .i .u8 0, .i .u8 0, .i .u8 0, .i .u8 0, .i .u8 0, .i .u8 0, .i .u8 0, .i .u8 0, .i .u8 0, .i .u8 0, .i .u8 0, .i .u8 0, .i .u8 0, .i .u8 0, .i .u8 0, .i .u8 0, .i .u8 0, .i .u8 0, .i .u8 0, .i .u8 0, .i .u8 0, .i .u8 0, .i .u8 0, .i .u8 0, .i .u8 0, .i .u8 0, .i .u8 0, .i .u8 0, .i .u8 0, .i .u8 0, .i .u8 0, .i .u8 0, .i .u8 0, .i .u8 0, .i .u8 0, .i .u8 0, .i .u8 0, .i .u8 0, .i .u8 0, .i .u8 0, .i .u8 0, .i .u8 0, .i .u8 0, .i .u8 0, .i .u8 0, .i .u8 0, .i .u8 0, .i .u8 0, .i .u8 0, .i .u8 0, .i .u8 0, .i .u8 0, .i .u8 0, .i .u8 0, .i .u8 0, .i .u8 0, .i .u8 0, .i .u8 0, .i .u8 0, .i .u8 0, .i .u8 0, .i .u8 0, .i .u8 0, .i .u8 0, .i .u8 0, .i .u8 0, .i .u8 0, .i .u8 0, .i .u8 0, .i .u8 0, .i .u8 0, .i .u8 0, .i .u8 0, .i .u8 0, .i .u8 0, .i .u8 0, .i .u8 0, .i .u8 0, .i .u8 0, .i .u8 0, .i .u8 0, .i .u8 0, .i .u8 0, .i .u8 0, .i .u8 0, .i .u8 0, .i .u8 0, .i .u8 0, .i .u8 0, .i .u8 0, .i .u8 0, .i .u8 0, .i .u8 0, .i .u8 0, .i .u8 0, .i .u8 0, .i .u8 0, .i .u8 0, .i .u8 0, .i .u8 0, .i .u8 0, .i .u8 0, .i .u8 0, .i .u8 0, .i .u8 0, .i .u8 0, .i .u8 0, .i .u8 0, .i .u8 0, .i .u8 0, .i .u8 0, .i .u8 0, .i .u8 0, .i .u8 0, .i .u8 0, .i .u8 0, .i .u8 0, .i .u8 0, .i .u8 0, .i .u8 0, .i .u8 0, .i .u8 0, .i .u8 0, .i .u8 0, .i .u8 0, .i .u8 0, .i .u8 0, .i .u8 0, .i .u8 0, .i .u8 0, .i .u8 0, .i .u8 0, .i .u8 0, .i .u8 0, .i .u8 0, .i .u8 0, .i .u8 0, .i .u8 0, .i .u8 0, .i .u8 0, .i .u8 0, .i .u8 0, .i .u8 0, .i .u8 0, .i .u8 0, .i .u8 0, .i .u8 0, .i .u8 0, .i .u8 0, .i .u8 0, .i .u8 0, .i .u8 0, .i .u8 0, .i .u8 0, .i .u8 0, .i .u8 0, .i .u8 0, .i .u8 0, .i .u8 0, .i .u8 0, .i .u8 0, .i .u8 0, .i .u8 0, .i .u8 0], fun _ => none⟩
  | _ => none
def u8F : (T : Nat) → Option (Dn T → Int)
  | 5 => some fun (x : Int) => x
  | _ => none
def globF : Nat → Option (Sigma fun T => Dn T)
  | 1 => some ⟨108, ([(⟨#[45, 62]⟩ : ByteArray), (⟨#[61, 61]⟩ : ByteArray), (⟨#[33, 61]⟩ : ByteArray), (⟨#[60, 61]⟩ : ByteArray), (⟨#[62, 61]⟩ : ByteArray), (⟨#[60, 60]⟩ : ByteArray), (⟨#[62, 62]⟩ : ByteArray), (⟨#[38, 38]⟩ : ByteArray), (⟨#[124, 124]⟩ : ByteArray), (⟨#[40]⟩ : ByteArray), (⟨#[41]⟩ : ByteArray), (⟨#[123]⟩ : ByteArray), (⟨#[125]⟩ : ByteArray), (⟨#[44]⟩ : ByteArray), (⟨#[59]⟩ : ByteArray), (⟨#[61]⟩ : ByteArray), (⟨#[60]⟩ : ByteArray), (⟨#[62]⟩ : ByteArray), (⟨#[43]⟩ : ByteArray), (⟨#[45]⟩ : ByteArray), (⟨#[42]⟩ : ByteArray), (⟨#[47]⟩ : ByteArray), (⟨#[37]⟩ : ByteArray), (⟨#[38]⟩ : ByteArray), (⟨#[124]⟩ : ByteArray), (⟨#[94]⟩ : ByteArray), (⟨#[33]⟩ : ByteArray), (⟨#[126]⟩ : ByteArray)] : List ByteArray)⟩
  | 3 => some ⟨1000003, ()⟩
  | 4 => some ⟨1000004, ()⟩
  | 6 => some ⟨1000006, ()⟩
  | 7 => some ⟨108, ([(⟨#[]⟩ : ByteArray), (⟨#[98, 111, 111, 108]⟩ : ByteArray), (⟨#[116, 101, 120, 116]⟩ : ByteArray), (⟨#[117, 56]⟩ : ByteArray), (⟨#[117, 49, 54]⟩ : ByteArray), (⟨#[117, 51, 50]⟩ : ByteArray), (⟨#[117, 54, 52]⟩ : ByteArray), (⟨#[105, 56]⟩ : ByteArray), (⟨#[105, 49, 54]⟩ : ByteArray), (⟨#[105, 51, 50]⟩ : ByteArray), (⟨#[105, 54, 52]⟩ : ByteArray)] : List ByteArray)⟩
  | _ => none
def ganyF : Nat → Option IntKind
  | _ => none
instance enc : Enc := encOf fam rowF globF ganyF u8F
theorem mk2_w {cs : List PV} {x : Int} (h : mk2 cs = some x) : Ws cs [.i .i64 (x)] := by
  unfold mk2 at h
  split at h
  · obtain ⟨a0, h0, h⟩ := ob h; have h := Option.some.inj h; subst h
    exact .cons (cI_w h0) (.nil)
  · simp at h
theorem mk3_w {cs : List PV} {x : Int} (h : mk3 cs = some x) : Ws cs [.i .i64 (x)] := by
  unfold mk3 at h
  split at h
  · obtain ⟨a0, h0, h⟩ := ob h; have h := Option.some.inj h; subst h
    exact .cons (cI_w h0) (.nil)
  · simp at h
theorem mk4_w {cs : List PV} {x : Bool} (h : mk4 cs = some x) : Ws cs [.b (x)] := by
  unfold mk4 at h
  split at h
  · obtain ⟨a0, h0, h⟩ := ob h; have h := Option.some.inj h; subst h
    exact .cons (cB_w h0) (.nil)
  · simp at h
theorem mk5_w {cs : List PV} {x : Int} (h : mk5 cs = some x) : Ws cs [.i .u8 (x)] := by
  unfold mk5 at h
  split at h
  · obtain ⟨a0, h0, h⟩ := ob h; have h := Option.some.inj h; subst h
    exact .cons (cI_w h0) (.nil)
  · simp at h
theorem mk9_w {cs : List PV} {x : ByteArray} (h : mk9 cs = some x) : Ws cs [.s (x)] := by
  unfold mk9 at h
  split at h
  · obtain ⟨a0, h0, h⟩ := ob h; have h := Option.some.inj h; subst h
    exact .cons (cS_w h0) (.nil)
  · simp at h
theorem mk33_w {cs : List PV} {x : List Int} (h : mk33 cs = some x) : Ws cs [.fl 5 (x)] := by
  unfold mk33 at h
  split at h
  · obtain ⟨a0, h0, h⟩ := ob h; have h := Option.some.inj h; subst h
    exact .cons (cF_w h0) (.nil)
  · simp at h
theorem mk41_w {cs : List PV} {x : List TToken} (h : mk41 cs = some x) : Ws cs [.fl 86 (x)] := by
  unfold mk41 at h
  split at h
  · obtain ⟨a0, h0, h⟩ := ob h; have h := Option.some.inj h; subst h
    exact .cons (cF_w h0) (.nil)
  · simp at h
theorem mk43_w {cs : List PV} {x : TFault} (h : mk43 cs = some x) : Ws cs [.i .i64 (x.gCode), .i .i64 (x.gAt)] := by
  unfold mk43 at h
  split at h
  · obtain ⟨a0, h0, h⟩ := ob h; obtain ⟨a1, h1, h⟩ := ob h; have h := Option.some.inj h; subst h
    exact .cons (cI_w h0) (.cons (cI_w h1) (.nil))
  · simp at h
theorem mk65_w {cs : List PV} {x : Bool} (h : mk65 cs = some x) : Ws cs [.ifc (x)] := by
  unfold mk65 at h
  split at h
  · obtain ⟨a0, h0, h⟩ := ob h; have h := Option.some.inj h; subst h
    exact .cons (cE_w h0) (.nil)
  · simp at h
theorem mk74_w {cs : List PV} {x : Int} (h : mk74 cs = some x) : Ws cs [.i .u64 (x)] := by
  unfold mk74 at h
  split at h
  · obtain ⟨a0, h0, h⟩ := ob h; have h := Option.some.inj h; subst h
    exact .cons (cI_w h0) (.nil)
  · simp at h
theorem mk77_w {cs : List PV} {x : Int} (h : mk77 cs = some x) : Ws cs [.i .u64 (x)] := by
  unfold mk77 at h
  split at h
  · obtain ⟨a0, h0, h⟩ := ob h; have h := Option.some.inj h; subst h
    exact .cons (cI_w h0) (.nil)
  · simp at h
theorem mk86_w {cs : List PV} {x : TToken} (h : mk86 cs = some x) : Ws cs [.i .i64 (x.gKind), .s (x.gText), .i .i64 (x.gType), .i .i64 (x.gN), .i .i64 (x.gAt)] := by
  unfold mk86 at h
  split at h
  · obtain ⟨a0, h0, h⟩ := ob h; obtain ⟨a1, h1, h⟩ := ob h; obtain ⟨a2, h2, h⟩ := ob h; obtain ⟨a3, h3, h⟩ := ob h; obtain ⟨a4, h4, h⟩ := ob h; have h := Option.some.inj h; subst h
    exact .cons (cI_w h0) (.cons (cS_w h1) (.cons (cI_w h2) (.cons (cI_w h3) (.cons (cI_w h4) (.nil)))))
  · simp at h
theorem mk108_w {cs : List PV} {x : List ByteArray} (h : mk108 cs = some x) : Ws cs [.fl 9 (x)] := by
  unfold mk108 at h
  split at h
  · obtain ⟨a0, h0, h⟩ := ob h; have h := Option.some.inj h; subst h
    exact .cons (cF_w h0) (.nil)
  · simp at h
theorem encOk : EncOk := by
  refine encOf_ok (fun T r h => ?_) (fun T f h => ?_)
  · revert r
    unfold rowF
    split
    · intro r h; have h := Option.some.inj h; subst h; exact ⟨fun x => rfl, fun x => rfl, fun x => rfl, fun cs x h => mk2_w h⟩
    · intro r h; have h := Option.some.inj h; subst h; exact ⟨fun x => rfl, fun x => rfl, fun x => rfl, fun cs x h => mk3_w h⟩
    · intro r h; have h := Option.some.inj h; subst h; exact ⟨fun x => rfl, fun x => rfl, fun x => rfl, fun cs x h => mk4_w h⟩
    · intro r h; have h := Option.some.inj h; subst h; exact ⟨fun x => rfl, fun x => rfl, fun x => rfl, fun cs x h => mk5_w h⟩
    · intro r h; have h := Option.some.inj h; subst h; exact ⟨fun x => rfl, fun x => rfl, fun x => rfl, fun cs x h => mk9_w h⟩
    · intro r h; have h := Option.some.inj h; subst h; exact ⟨fun x => rfl, fun x => rfl, fun x => rfl, fun cs x h => mk33_w h⟩
    · intro r h; have h := Option.some.inj h; subst h; exact ⟨fun x => rfl, fun x => rfl, fun x => rfl, fun cs x h => mk41_w h⟩
    · intro r h; have h := Option.some.inj h; subst h; exact ⟨fun x => rfl, fun x => rfl, fun x => rfl, fun cs x h => mk43_w h⟩
    · intro r h; have h := Option.some.inj h; subst h; exact ⟨fun x => rfl, fun x => rfl, fun x => rfl, fun cs x h => mk65_w h⟩
    · intro r h; have h := Option.some.inj h; subst h; exact ⟨fun x => rfl, fun x => rfl, fun x => rfl, fun cs x h => mk74_w h⟩
    · intro r h; have h := Option.some.inj h; subst h; exact ⟨fun x => rfl, fun x => rfl, fun x => rfl, fun cs x h => mk77_w h⟩
    · intro r h; have h := Option.some.inj h; subst h; exact ⟨fun x => rfl, fun x => rfl, fun x => rfl, fun cs x h => mk86_w h⟩
    · intro r h; have h := Option.some.inj h; subst h; exact ⟨fun x => rfl, fun x => rfl, fun x => rfl, fun cs x h => mk108_w h⟩
    · intro r h; have h := Option.some.inj h; subst h; exact ⟨fun x => rfl, fun x => rfl, fun x => rfl, fun cs x h => absurd h (by simp)⟩
    · intro r h; have h := Option.some.inj h; subst h; exact ⟨fun x => rfl, fun x => rfl, fun x => rfl, fun cs x h => absurd h (by simp)⟩
    · intro r h; have h := Option.some.inj h; subst h; exact ⟨fun x => rfl, fun x => rfl, fun x => rfl, fun cs x h => absurd h (by simp)⟩
    · intro r h; exact absurd h (by simp)
  · revert f
    unfold u8F
    split
    · intro f h; have h := Option.some.inj h; subst h; exact ⟨rfl, fun x => rfl⟩
    · intro f h; exact absurd h (by simp)
def rows : List (Nat × Ent) := [(0, ⟨.other, 0, 1, none, [], false⟩),
  (2, ⟨.int .i64, 8, 1, some [.i .i64 0], [], false⟩),
  (3, ⟨.int .i64, 8, 1, some [.i .i64 0], [], false⟩),
  (4, ⟨.bool, 1, 1, some [.b false], [], false⟩),
  (5, ⟨.int .u8, 1, 1, some [.i .u8 0], [], false⟩),
  (9, ⟨.str, 16, 1, some [.s ⟨#[]⟩], [], false⟩),
  (33, ⟨.slice 5, 24, 1, some [.nl], [], false⟩),
  (41, ⟨.slice 86, 24, 1, some [.nl], [], false⟩),
  (43, ⟨.struct, 16, 2, some [.i .i64 0, .i .i64 0], [(0, 1), (1, 1)], true⟩),
  (44, ⟨.other, 0, 1, none, [], false⟩),
  (65, ⟨.iface, 16, 1, some [.ifc true], [], false⟩),
  (74, ⟨.int .u64, 8, 1, some [.i .u64 0], [], false⟩),
  (77, ⟨.int .u64, 8, 1, some [.i .u64 0], [], false⟩),
  (86, ⟨.struct, 48, 5, some [.i .i64 0, .s ⟨#[]⟩, .i .i64 0, .i .i64 0, .i .i64 0], [(0, 1), (1, 1), (2, 1), (3, 1), (4, 1)], true⟩),
  (87, ⟨.other, 0, 1, none, [], false⟩),
  (104, ⟨.other, 0, 1, none, [], false⟩),
  (106, ⟨.other, 0, 1, none, [], false⟩),
  (108, ⟨.slice 9, 24, 1, some [.nl], [], false⟩),
  (110, ⟨.other, 0, 1, none, [], false⟩),
  (112, ⟨.other, 0, 1, none, [], false⟩),
  (117, ⟨.other, 0, 1, none, [], false⟩),
  (131, ⟨.other, 0, 1, none, [], false⟩)]
theorem tab_ok : TabOk Go.Proofs.Tryd.prog (tabOf rows) ∧ ∀ t z, (tabOf rows).flat t = some z → FlatOk Go.Proofs.Tryd.prog t z := tabB_ok encOk (by kernel_rfl)
end Go.KM.S1
