/- The tables of the law's functions. Conditions: none. -/
import Derived.Test.YtgjcobbngimleaaDoorKmX
import Derived.KernelRfl
import Derived.Test.YtgjcobbngimleaaDoorProg
namespace Go.KM.V1
open Go Go.KM
open Go.KM.Fam (Dn dflt)
open Go.KM.Enc (cells sz mkE glob gany u8)
set_option autoImplicit false
set_option linter.unusedVariables false
set_option maxRecDepth 100000
structure TValue where
  gType : Int
  gN : Int
  gText : ByteArray
def TValue.z : TValue := ⟨0, 0, ⟨#[]⟩⟩
structure TL1Rd where
  gb : List Int
  gp : Int
def TL1Rd.z : TL1Rd := ⟨[], 0⟩
def base : Nat → Sigma fun α : Type => α
  | 2 => ⟨Int, 0⟩
  | 3 => ⟨Int, 0⟩
  | 4 => ⟨Bool, false⟩
  | 5 => ⟨Int, 0⟩
  | 9 => ⟨ByteArray, ⟨#[]⟩⟩
  | 25 => ⟨TValue, ⟨0, 0, ⟨#[]⟩⟩⟩
  | 28 => ⟨List TValue, []⟩
  | 33 => ⟨List Int, []⟩
  | 52 => ⟨List Int, []⟩
  | 65 => ⟨Bool, true⟩
  | 74 => ⟨Int, 0⟩
  | 76 => ⟨List Int, []⟩
  | 77 => ⟨Int, 0⟩
  | 96 => ⟨List (List Int), []⟩
  | 100 => ⟨TL1Rd, ⟨[], 0⟩⟩
  | 108 => ⟨List ByteArray, []⟩
  | _ => ⟨Unit, ()⟩
instance fam : Fam where
  Dn n := (base n).1
  dflt n := (base n).2
def mk2 (cs : List PV) : Option Int :=
  match cs with
  | [p0] => obind (cI .i64 p0) fun a0 => some (a0)
  | _ => none
def mk3 (cs : List PV) : Option Int :=
  match cs with
  | [p0] => obind (cI .i64 p0) fun a0 => some (a0)
  | _ => none
def mk4 (cs : List PV) : Option Bool :=
  match cs with
  | [p0] => obind (cB p0) fun a0 => some (a0)
  | _ => none
def mk5 (cs : List PV) : Option Int :=
  match cs with
  | [p0] => obind (cI .u8 p0) fun a0 => some (a0)
  | _ => none
def mk9 (cs : List PV) : Option ByteArray :=
  match cs with
  | [p0] => obind (cS p0) fun a0 => some (a0)
  | _ => none
def mk25 (cs : List PV) : Option TValue :=
  match cs with
  | [p0, p1, p2] => obind (cI .i64 p0) fun a0 => obind (cI .i64 p1) fun a1 => obind (cS p2) fun a2 => some (⟨a0, a1, a2⟩)
  | _ => none
def mk28 (cs : List PV) : Option (List TValue) :=
  match cs with
  | [p0] => obind (cF 25 p0) fun a0 => some (a0)
  | _ => none
def mk33 (cs : List PV) : Option (List Int) :=
  match cs with
  | [p0] => obind (cF 5 p0) fun a0 => some (a0)
  | _ => none
def mk52 (cs : List PV) : Option (List Int) :=
  match cs with
  | [p0] => obind (cF 3 p0) fun a0 => some (a0)
  | _ => none
def mk65 (cs : List PV) : Option Bool :=
  match cs with
  | [p0] => obind (cE p0) fun a0 => some (a0)
  | _ => none
def mk74 (cs : List PV) : Option Int :=
  match cs with
  | [p0] => obind (cI .u64 p0) fun a0 => some (a0)
  | _ => none
def mk76 (cs : List PV) : Option (List Int) :=
  match cs with
  | [p0] => obind (cF 2 p0) fun a0 => some (a0)
  | _ => none
def mk77 (cs : List PV) : Option Int :=
  match cs with
  | [p0] => obind (cI .u64 p0) fun a0 => some (a0)
  | _ => none
def mk96 (cs : List PV) : Option (List (List Int)) :=
  match cs with
  | [p0] => obind (cF 52 p0) fun a0 => some (a0)
  | _ => none
def mk100 (cs : List PV) : Option TL1Rd :=
  match cs with
  | [p0, p1] => obind (cF 5 p0) fun a0 => obind (cI .i64 p1) fun a1 => some (⟨a0, a1⟩)
  | _ => none
def mk108 (cs : List PV) : Option (List ByteArray) :=
  match cs with
  | [p0] => obind (cF 9 p0) fun a0 => some (a0)
  | _ => none
def rowF : (T : Nat) → Option (TyRow T)
  | 2 => some ⟨1, fun (x : Int) => [.i .i64 (x)], mk2⟩
  | 3 => some ⟨1, fun (x : Int) => [.i .i64 (x)], mk3⟩
  | 4 => some ⟨1, fun (x : Bool) => [.b (x)], mk4⟩
  | 5 => some ⟨1, fun (x : Int) => [.i .u8 (x)], mk5⟩
  | 9 => some ⟨1, fun (x : ByteArray) => [.s (x)], mk9⟩
  | 25 => some ⟨3, fun (x : TValue) => [.i .i64 (x.gType), .i .i64 (x.gN), .s (x.gText)], mk25⟩
  | 28 => some ⟨1, fun (x : List TValue) => [.fl 25 (x)], mk28⟩
  | 33 => some ⟨1, fun (x : List Int) => [.fl 5 (x)], mk33⟩
  | 52 => some ⟨1, fun (x : List Int) => [.fl 3 (x)], mk52⟩
  | 65 => some ⟨1, fun (x : Bool) => [.ifc (x)], mk65⟩
  | 74 => some ⟨1, fun (x : Int) => [.i .u64 (x)], mk74⟩
  | 76 => some ⟨1, fun (x : List Int) => [.fl 2 (x)], mk76⟩
  | 77 => some ⟨1, fun (x : Int) => [.i .u64 (x)], mk77⟩
  | 96 => some ⟨1, fun (x : List (List Int)) => [.fl 52 (x)], mk96⟩
  | 100 => some ⟨2, fun (x : TL1Rd) => [.fl 5 (x.gb), .i .i64 (x.gp)], mk100⟩
  | 108 => some ⟨1, fun (x : List ByteArray) => [.fl 9 (x)], mk108⟩
  | 1000003 => some ⟨1, fun (x : Unit) => [.ifc false], fun _ => none⟩
  | 1000004 => some ⟨1, fun (x : Unit) => [.ifc false], fun _ => none⟩
  | 1000005 => some ⟨20, fun (x : Unit) => [.i .u64 1, .i .u64 10, .i .u64 100, .i .u64 1000, .i .u64 10000, .i .u64 100000, .i .u64 1000000, .i .u64 10000000, .i .u64 100000000, .i .u64 1000000000, .i .u64 10000000000, .i .u64 100000000000, .i .u64 1000000000000, .i .u64 10000000000000, .i .u64 100000000000000, .i .u64 1000000000000000, .i .u64 10000000000000000, .i .u64 100000000000000000, .i .u64 1000000000000000000, .i .u64 10000000000000000000], fun _ => none⟩
  | _ => none
def u8F : (T : Nat) → Option (Dn T → Int)
  | 5 => some fun (x : Int) => x
  | _ => none
def globF : Nat → Option (Sigma fun T => Dn T)
  | 0 => some ⟨52, ([0, 2, 1, 2, 2, 2, 10, 3, 2, 10, 2, 2, 10] : List Int)⟩
  | 3 => some ⟨1000003, ()⟩
  | 4 => some ⟨1000004, ()⟩
  | 5 => some ⟨1000005, ()⟩
  | _ => none
def ganyF : Nat → Option IntKind
  | 2 => some .i64
  | _ => none
instance enc : Enc := encOf fam rowF globF ganyF u8F
theorem mk2_w {cs : List PV} {x : Int} (h : mk2 cs = some x) : Ws cs [.i .i64 (x)] := by
  unfold mk2 at h
  split at h
  · obtain ⟨a0, h0, h⟩ := ob h; have h := Option.some.inj h; subst h
    exact .cons (cI_w h0) (.nil)
  · simp at h
theorem mk3_w {cs : List PV} {x : Int} (h : mk3 cs = some x) : Ws cs [.i .i64 (x)] := by
  unfold mk3 at h
  split at h
  · obtain ⟨a0, h0, h⟩ := ob h; have h := Option.some.inj h; subst h
    exact .cons (cI_w h0) (.nil)
  · simp at h
theorem mk4_w {cs : List PV} {x : Bool} (h : mk4 cs = some x) : Ws cs [.b (x)] := by
  unfold mk4 at h
  split at h
  · obtain ⟨a0, h0, h⟩ := ob h; have h := Option.some.inj h; subst h
    exact .cons (cB_w h0) (.nil)
  · simp at h
theorem mk5_w {cs : List PV} {x : Int} (h : mk5 cs = some x) : Ws cs [.i .u8 (x)] := by
  unfold mk5 at h
  split at h
  · obtain ⟨a0, h0, h⟩ := ob h; have h := Option.some.inj h; subst h
    exact .cons (cI_w h0) (.nil)
  · simp at h
theorem mk9_w {cs : List PV} {x : ByteArray} (h : mk9 cs = some x) : Ws cs [.s (x)] := by
  unfold mk9 at h
  split at h
  · obtain ⟨a0, h0, h⟩ := ob h; have h := Option.some.inj h; subst h
    exact .cons (cS_w h0) (.nil)
  · simp at h
theorem mk25_w {cs : List PV} {x : TValue} (h : mk25 cs = some x) : Ws cs [.i .i64 (x.gType), .i .i64 (x.gN), .s (x.gText)] := by
  unfold mk25 at h
  split at h
  · obtain ⟨a0, h0, h⟩ := ob h; obtain ⟨a1, h1, h⟩ := ob h; obtain ⟨a2, h2, h⟩ := ob h; have h := Option.some.inj h; subst h
    exact .cons (cI_w h0) (.cons (cI_w h1) (.cons (cS_w h2) (.nil)))
  · simp at h
theorem mk28_w {cs : List PV} {x : List TValue} (h : mk28 cs = some x) : Ws cs [.fl 25 (x)] := by
  unfold mk28 at h
  split at h
  · obtain ⟨a0, h0, h⟩ := ob h; have h := Option.some.inj h; subst h
    exact .cons (cF_w h0) (.nil)
  · simp at h
theorem mk33_w {cs : List PV} {x : List Int} (h : mk33 cs = some x) : Ws cs [.fl 5 (x)] := by
  unfold mk33 at h
  split at h
  · obtain ⟨a0, h0, h⟩ := ob h; have h := Option.some.inj h; subst h
    exact .cons (cF_w h0) (.nil)
  · simp at h
theorem mk52_w {cs : List PV} {x : List Int} (h : mk52 cs = some x) : Ws cs [.fl 3 (x)] := by
  unfold mk52 at h
  split at h
  · obtain ⟨a0, h0, h⟩ := ob h; have h := Option.some.inj h; subst h
    exact .cons (cF_w h0) (.nil)
  · simp at h
theorem mk65_w {cs : List PV} {x : Bool} (h : mk65 cs = some x) : Ws cs [.ifc (x)] := by
  unfold mk65 at h
  split at h
  · obtain ⟨a0, h0, h⟩ := ob h; have h := Option.some.inj h; subst h
    exact .cons (cE_w h0) (.nil)
  · simp at h
theorem mk74_w {cs : List PV} {x : Int} (h : mk74 cs = some x) : Ws cs [.i .u64 (x)] := by
  unfold mk74 at h
  split at h
  · obtain ⟨a0, h0, h⟩ := ob h; have h := Option.some.inj h; subst h
    exact .cons (cI_w h0) (.nil)
  · simp at h
theorem mk76_w {cs : List PV} {x : List Int} (h : mk76 cs = some x) : Ws cs [.fl 2 (x)] := by
  unfold mk76 at h
  split at h
  · obtain ⟨a0, h0, h⟩ := ob h; have h := Option.some.inj h; subst h
    exact .cons (cF_w h0) (.nil)
  · simp at h
theorem mk77_w {cs : List PV} {x : Int} (h : mk77 cs = some x) : Ws cs [.i .u64 (x)] := by
  unfold mk77 at h
  split at h
  · obtain ⟨a0, h0, h⟩ := ob h; have h := Option.some.inj h; subst h
    exact .cons (cI_w h0) (.nil)
  · simp at h
theorem mk96_w {cs : List PV} {x : List (List Int)} (h : mk96 cs = some x) : Ws cs [.fl 52 (x)] := by
  unfold mk96 at h
  split at h
  · obtain ⟨a0, h0, h⟩ := ob h; have h := Option.some.inj h; subst h
    exact .cons (cF_w h0) (.nil)
  · simp at h
theorem mk100_w {cs : List PV} {x : TL1Rd} (h : mk100 cs = some x) : Ws cs [.fl 5 (x.gb), .i .i64 (x.gp)] := by
  unfold mk100 at h
  split at h
  · obtain ⟨a0, h0, h⟩ := ob h; obtain ⟨a1, h1, h⟩ := ob h; have h := Option.some.inj h; subst h
    exact .cons (cF_w h0) (.cons (cI_w h1) (.nil))
  · simp at h
theorem mk108_w {cs : List PV} {x : List ByteArray} (h : mk108 cs = some x) : Ws cs [.fl 9 (x)] := by
  unfold mk108 at h
  split at h
  · obtain ⟨a0, h0, h⟩ := ob h; have h := Option.some.inj h; subst h
    exact .cons (cF_w h0) (.nil)
  · simp at h
theorem encOk : EncOk := by
  refine encOf_ok (fun T r h => ?_) (fun T f h => ?_)
  · revert r
    unfold rowF
    split
    · intro r h; have h := Option.some.inj h; subst h; exact ⟨fun x => rfl, fun x => rfl, fun x => rfl, fun cs x h => mk2_w h⟩
    · intro r h; have h := Option.some.inj h; subst h; exact ⟨fun x => rfl, fun x => rfl, fun x => rfl, fun cs x h => mk3_w h⟩
    · intro r h; have h := Option.some.inj h; subst h; exact ⟨fun x => rfl, fun x => rfl, fun x => rfl, fun cs x h => mk4_w h⟩
    · intro r h; have h := Option.some.inj h; subst h; exact ⟨fun x => rfl, fun x => rfl, fun x => rfl, fun cs x h => mk5_w h⟩
    · intro r h; have h := Option.some.inj h; subst h; exact ⟨fun x => rfl, fun x => rfl, fun x => rfl, fun cs x h => mk9_w h⟩
    · intro r h; have h := Option.some.inj h; subst h; exact ⟨fun x => rfl, fun x => rfl, fun x => rfl, fun cs x h => mk25_w h⟩
    · intro r h; have h := Option.some.inj h; subst h; exact ⟨fun x => rfl, fun x => rfl, fun x => rfl, fun cs x h => mk28_w h⟩
    · intro r h; have h := Option.some.inj h; subst h; exact ⟨fun x => rfl, fun x => rfl, fun x => rfl, fun cs x h => mk33_w h⟩
    · intro r h; have h := Option.some.inj h; subst h; exact ⟨fun x => rfl, fun x => rfl, fun x => rfl, fun cs x h => mk52_w h⟩
    · intro r h; have h := Option.some.inj h; subst h; exact ⟨fun x => rfl, fun x => rfl, fun x => rfl, fun cs x h => mk65_w h⟩
    · intro r h; have h := Option.some.inj h; subst h; exact ⟨fun x => rfl, fun x => rfl, fun x => rfl, fun cs x h => mk74_w h⟩
    · intro r h; have h := Option.some.inj h; subst h; exact ⟨fun x => rfl, fun x => rfl, fun x => rfl, fun cs x h => mk76_w h⟩
    · intro r h; have h := Option.some.inj h; subst h; exact ⟨fun x => rfl, fun x => rfl, fun x => rfl, fun cs x h => mk77_w h⟩
    · intro r h; have h := Option.some.inj h; subst h; exact ⟨fun x => rfl, fun x => rfl, fun x => rfl, fun cs x h => mk96_w h⟩
    · intro r h; have h := Option.some.inj h; subst h; exact ⟨fun x => rfl, fun x => rfl, fun x => rfl, fun cs x h => mk100_w h⟩
    · intro r h; have h := Option.some.inj h; subst h; exact ⟨fun x => rfl, fun x => rfl, fun x => rfl, fun cs x h => mk108_w h⟩
    · intro r h; have h := Option.some.inj h; subst h; exact ⟨fun x => rfl, fun x => rfl, fun x => rfl, fun cs x h => absurd h (by simp)⟩
    · intro r h; have h := Option.some.inj h; subst h; exact ⟨fun x => rfl, fun x => rfl, fun x => rfl, fun cs x h => absurd h (by simp)⟩
    · intro r h; have h := Option.some.inj h; subst h; exact ⟨fun x => rfl, fun x => rfl, fun x => rfl, fun cs x h => absurd h (by simp)⟩
    · intro r h; exact absurd h (by simp)
  · revert f
    unfold u8F
    split
    · intro f h; have h := Option.some.inj h; subst h; exact ⟨rfl, fun x => rfl⟩
    · intro f h; exact absurd h (by simp)
def rows : List (Nat × Ent) := [(0, ⟨.other, 0, 1, none, [], false⟩),
  (2, ⟨.int .i64, 8, 1, some [.i .i64 0], [], false⟩),
  (3, ⟨.int .i64, 8, 1, some [.i .i64 0], [], false⟩),
  (4, ⟨.bool, 1, 1, some [.b false], [], false⟩),
  (5, ⟨.int .u8, 1, 1, some [.i .u8 0], [], false⟩),
  (9, ⟨.str, 16, 1, some [.s ⟨#[]⟩], [], false⟩),
  (25, ⟨.struct, 32, 3, some [.i .i64 0, .i .i64 0, .s ⟨#[]⟩], [(0, 1), (1, 1), (2, 1)], true⟩),
  (26, ⟨.other, 0, 1, none, [], false⟩),
  (28, ⟨.slice 25, 24, 1, some [.nl], [], false⟩),
  (33, ⟨.slice 5, 24, 1, some [.nl], [], false⟩),
  (34, ⟨.other, 0, 1, none, [], false⟩),
  (52, ⟨.slice 3, 24, 1, some [.nl], [], false⟩),
  (65, ⟨.iface, 16, 1, some [.ifc true], [], false⟩),
  (66, ⟨.other, 0, 1, none, [], false⟩),
  (69, ⟨.ptr 100, 8, 1, some [.np], [], false⟩),
  (74, ⟨.int .u64, 8, 1, some [.i .u64 0], [], false⟩),
  (76, ⟨.slice 2, 24, 1, some [.nl], [], false⟩),
  (77, ⟨.int .u64, 8, 1, some [.i .u64 0], [], false⟩),
  (96, ⟨.slice 52, 24, 1, some [.nl], [], false⟩),
  (100, ⟨.struct, 32, 2, some [.nl, .i .i64 0], [(0, 1), (1, 1)], false⟩),
  (108, ⟨.slice 9, 24, 1, some [.nl], [], false⟩)]
theorem tab_ok : TabOk Go.Proofs.Tryd.prog (tabOf rows) ∧ ∀ t z, (tabOf rows).flat t = some z → FlatOk Go.Proofs.Tryd.prog t z := tabB_ok encOk (by kernel_rfl)
end Go.KM.V1
