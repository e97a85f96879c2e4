/- The tables of the law's functions. Conditions: none. -/
import Derived.Test.YtgjcobbngimleaaKmX
import Derived.KernelRfl
import Derived.Test.YtgjcobbngimleaaProg
namespace Go.KM.L1
open Go Go.KM
open Go.KM.Fam (Dn dflt)
open Go.KM.Enc (cells sz mkE glob gany u8)
set_option autoImplicit false
set_option linter.unusedVariables false
set_option maxRecDepth 100000
structure TFile where
  gName : ByteArray
  gText : ByteArray
def TFile.z : TFile := ⟨⟨#[]⟩, ⟨#[]⟩⟩
structure TPlace where
  gFiles : List TFile
def TPlace.z : TPlace := ⟨[]⟩
def base : Nat → Sigma fun α : Type => α
  | 3 => ⟨Int, 0⟩
  | 4 => ⟨Bool, false⟩
  | 5 => ⟨Int, 0⟩
  | 9 => ⟨ByteArray, ⟨#[]⟩⟩
  | 22 => ⟨List TFile, []⟩
  | 24 => ⟨TPlace, ⟨[]⟩⟩
  | 27 => ⟨List TFile, []⟩
  | 29 => ⟨TPlace, ⟨[]⟩⟩
  | 39 => ⟨List Int, []⟩
  | 47 => ⟨TFile, ⟨⟨#[]⟩, ⟨#[]⟩⟩⟩
  | 51 => ⟨TFile, ⟨⟨#[]⟩, ⟨#[]⟩⟩⟩
  | 82 => ⟨Int, 0⟩
  | _ => ⟨Unit, ()⟩
instance fam : Fam where
  Dn n := (base n).1
  dflt n := (base n).2
def mk3 (cs : List PV) : Option Int :=
  match cs with
  | [p0] => obind (cI .i64 p0) fun a0 => some (a0)
  | _ => none
def mk4 (cs : List PV) : Option Bool :=
  match cs with
  | [p0] => obind (cB p0) fun a0 => some (a0)
  | _ => none
def mk5 (cs : List PV) : Option Int :=
  match cs with
  | [p0] => obind (cI .u8 p0) fun a0 => some (a0)
  | _ => none
def mk9 (cs : List PV) : Option ByteArray :=
  match cs with
  | [p0] => obind (cS p0) fun a0 => some (a0)
  | _ => none
def mk22 (cs : List PV) : Option (List TFile) :=
  match cs with
  | [p0] => obind (cF 51 p0) fun a0 => some (a0)
  | _ => none
def mk24 (cs : List PV) : Option TPlace :=
  match cs with
  | [p0] => obind (cF 51 p0) fun a0 => some (⟨a0⟩)
  | _ => none
def mk27 (cs : List PV) : Option (List TFile) :=
  match cs with
  | [p0] => obind (cF 47 p0) fun a0 => some (a0)
  | _ => none
def mk29 (cs : List PV) : Option TPlace :=
  match cs with
  | [p0] => obind (cF 47 p0) fun a0 => some (⟨a0⟩)
  | _ => none
def mk39 (cs : List PV) : Option (List Int) :=
  match cs with
  | [p0] => obind (cF 5 p0) fun a0 => some (a0)
  | _ => none
def mk47 (cs : List PV) : Option TFile :=
  match cs with
  | [p0, p1] => obind (cS p0) fun a0 => obind (cS p1) fun a1 => some (⟨a0, a1⟩)
  | _ => none
def mk51 (cs : List PV) : Option TFile :=
  match cs with
  | [p0, p1] => obind (cS p0) fun a0 => obind (cS p1) fun a1 => some (⟨a0, a1⟩)
  | _ => none
def mk82 (cs : List PV) : Option Int :=
  match cs with
  | [p0] => obind (cI .u64 p0) fun a0 => some (a0)
  | _ => none
def rowF : (T : Nat) → Option (TyRow T)
  | 3 => some ⟨1, fun (x : Int) => [.i .i64 (x)], mk3⟩
  | 4 => some ⟨1, fun (x : Bool) => [.b (x)], mk4⟩
  | 5 => some ⟨1, fun (x : Int) => [.i .u8 (x)], mk5⟩
  | 9 => some ⟨1, fun (x : ByteArray) => [.s (x)], mk9⟩
  | 22 => some ⟨1, fun (x : List TFile) => [.fl 51 (x)], mk22⟩
  | 24 => some ⟨1, fun (x : TPlace) => [.fl 51 (x.gFiles)], mk24⟩
  | 27 => some ⟨1, fun (x : List TFile) => [.fl 47 (x)], mk27⟩
  | 29 => some ⟨1, fun (x : TPlace) => [.fl 47 (x.gFiles)], mk29⟩
  | 39 => some ⟨1, fun (x : List Int) => [.fl 5 (x)], mk39⟩
  | 47 => some ⟨2, fun (x : TFile) => [.s (x.gName), .s (x.gText)], mk47⟩
  | 51 => some ⟨2, fun (x : TFile) => [.s (x.gName), .s (x.gText)], mk51⟩
  | 82 => some ⟨1, fun (x : Int) => [.i .u64 (x)], mk82⟩
  | _ => none
def u8F : (T : Nat) → Option (Dn T → Int)
  | 5 => some fun (x : Int) => x
  | _ => none
def globF : Nat → Option (Sigma fun T => Dn T)
  | _ => none
def ganyF : Nat → Option IntKind
  | _ => none
instance enc : Enc := encOf fam rowF globF ganyF u8F
theorem mk3_w {cs : List PV} {x : Int} (h : mk3 cs = some x) : Ws cs [.i .i64 (x)] := by
  unfold mk3 at h
  split at h
  · obtain ⟨a0, h0, h⟩ := ob h; have h := Option.some.inj h; subst h
    exact .cons (cI_w h0) (.nil)
  · simp at h
theorem mk4_w {cs : List PV} {x : Bool} (h : mk4 cs = some x) : Ws cs [.b (x)] := by
  unfold mk4 at h
  split at h
  · obtain ⟨a0, h0, h⟩ := ob h; have h := Option.some.inj h; subst h
    exact .cons (cB_w h0) (.nil)
  · simp at h
theorem mk5_w {cs : List PV} {x : Int} (h : mk5 cs = some x) : Ws cs [.i .u8 (x)] := by
  unfold mk5 at h
  split at h
  · obtain ⟨a0, h0, h⟩ := ob h; have h := Option.some.inj h; subst h
    exact .cons (cI_w h0) (.nil)
  · simp at h
theorem mk9_w {cs : List PV} {x : ByteArray} (h : mk9 cs = some x) : Ws cs [.s (x)] := by
  unfold mk9 at h
  split at h
  · obtain ⟨a0, h0, h⟩ := ob h; have h := Option.some.inj h; subst h
    exact .cons (cS_w h0) (.nil)
  · simp at h
theorem mk22_w {cs : List PV} {x : List TFile} (h : mk22 cs = some x) : Ws cs [.fl 51 (x)] := by
  unfold mk22 at h
  split at h
  · obtain ⟨a0, h0, h⟩ := ob h; have h := Option.some.inj h; subst h
    exact .cons (cF_w h0) (.nil)
  · simp at h
theorem mk24_w {cs : List PV} {x : TPlace} (h : mk24 cs = some x) : Ws cs [.fl 51 (x.gFiles)] := by
  unfold mk24 at h
  split at h
  · obtain ⟨a0, h0, h⟩ := ob h; have h := Option.some.inj h; subst h
    exact .cons (cF_w h0) (.nil)
  · simp at h
theorem mk27_w {cs : List PV} {x : List TFile} (h : mk27 cs = some x) : Ws cs [.fl 47 (x)] := by
  unfold mk27 at h
  split at h
  · obtain ⟨a0, h0, h⟩ := ob h; have h := Option.some.inj h; subst h
    exact .cons (cF_w h0) (.nil)
  · simp at h
theorem mk29_w {cs : List PV} {x : TPlace} (h : mk29 cs = some x) : Ws cs [.fl 47 (x.gFiles)] := by
  unfold mk29 at h
  split at h
  · obtain ⟨a0, h0, h⟩ := ob h; have h := Option.some.inj h; subst h
    exact .cons (cF_w h0) (.nil)
  · simp at h
theorem mk39_w {cs : List PV} {x : List Int} (h : mk39 cs = some x) : Ws cs [.fl 5 (x)] := by
  unfold mk39 at h
  split at h
  · obtain ⟨a0, h0, h⟩ := ob h; have h := Option.some.inj h; subst h
    exact .cons (cF_w h0) (.nil)
  · simp at h
theorem mk47_w {cs : List PV} {x : TFile} (h : mk47 cs = some x) : Ws cs [.s (x.gName), .s (x.gText)] := by
  unfold mk47 at h
  split at h
  · obtain ⟨a0, h0, h⟩ := ob h; obtain ⟨a1, h1, h⟩ := ob h; have h := Option.some.inj h; subst h
    exact .cons (cS_w h0) (.cons (cS_w h1) (.nil))
  · simp at h
theorem mk51_w {cs : List PV} {x : TFile} (h : mk51 cs = some x) : Ws cs [.s (x.gName), .s (x.gText)] := by
  unfold mk51 at h
  split at h
  · obtain ⟨a0, h0, h⟩ := ob h; obtain ⟨a1, h1, h⟩ := ob h; have h := Option.some.inj h; subst h
    exact .cons (cS_w h0) (.cons (cS_w h1) (.nil))
  · simp at h
theorem mk82_w {cs : List PV} {x : Int} (h : mk82 cs = some x) : Ws cs [.i .u64 (x)] := by
  unfold mk82 at h
  split at h
  · obtain ⟨a0, h0, h⟩ := ob h; have h := Option.some.inj h; subst h
    exact .cons (cI_w h0) (.nil)
  · simp at h
theorem encOk : EncOk := by
  refine encOf_ok (fun T r h => ?_) (fun T f h => ?_)
  · revert r
    unfold rowF
    split
    · intro r h; have h := Option.some.inj h; subst h; exact ⟨fun x => rfl, fun x => rfl, fun x => rfl, fun cs x h => mk3_w h, fun h x => by first | rfl | exact absurd h (by decide)⟩
    · intro r h; have h := Option.some.inj h; subst h; exact ⟨fun x => rfl, fun x => rfl, fun x => rfl, fun cs x h => mk4_w h, fun h x => by first | rfl | exact absurd h (by decide)⟩
    · intro r h; have h := Option.some.inj h; subst h; exact ⟨fun x => rfl, fun x => rfl, fun x => rfl, fun cs x h => mk5_w h, fun h x => by first | rfl | exact absurd h (by decide)⟩
    · intro r h; have h := Option.some.inj h; subst h; exact ⟨fun x => rfl, fun x => rfl, fun x => rfl, fun cs x h => mk9_w h, fun h x => by first | rfl | exact absurd h (by decide)⟩
    · intro r h; have h := Option.some.inj h; subst h; exact ⟨fun x => rfl, fun x => rfl, fun x => rfl, fun cs x h => mk22_w h, fun h x => by first | rfl | exact absurd h (by decide)⟩
    · intro r h; have h := Option.some.inj h; subst h; exact ⟨fun x => rfl, fun x => rfl, fun x => rfl, fun cs x h => mk24_w h, fun h x => by first | rfl | exact absurd h (by decide)⟩
    · intro r h; have h := Option.some.inj h; subst h; exact ⟨fun x => rfl, fun x => rfl, fun x => rfl, fun cs x h => mk27_w h, fun h x => by first | rfl | exact absurd h (by decide)⟩
    · intro r h; have h := Option.some.inj h; subst h; exact ⟨fun x => rfl, fun x => rfl, fun x => rfl, fun cs x h => mk29_w h, fun h x => by first | rfl | exact absurd h (by decide)⟩
    · intro r h; have h := Option.some.inj h; subst h; exact ⟨fun x => rfl, fun x => rfl, fun x => rfl, fun cs x h => mk39_w h, fun h x => by first | rfl | exact absurd h (by decide)⟩
    · intro r h; have h := Option.some.inj h; subst h; exact ⟨fun x => rfl, fun x => rfl, fun x => rfl, fun cs x h => mk47_w h, fun h x => by first | rfl | exact absurd h (by decide)⟩
    · intro r h; have h := Option.some.inj h; subst h; exact ⟨fun x => rfl, fun x => rfl, fun x => rfl, fun cs x h => mk51_w h, fun h x => by first | rfl | exact absurd h (by decide)⟩
    · intro r h; have h := Option.some.inj h; subst h; exact ⟨fun x => rfl, fun x => rfl, fun x => rfl, fun cs x h => mk82_w h, fun h x => by first | rfl | exact absurd h (by decide)⟩
    · intro r h; exact absurd h (by simp)
  · revert f
    unfold u8F
    split
    · intro f h; have h := Option.some.inj h; subst h; exact ⟨rfl, fun x => rfl⟩
    · intro f h; exact absurd h (by simp)
def rows : List (Nat × Ent) := [(0, ⟨.other, 0, 1, none, [], false⟩),
  (3, ⟨.int .i64, 8, 1, some [.i .i64 0], [], false⟩),
  (4, ⟨.bool, 1, 1, some [.b false], [], false⟩),
  (5, ⟨.int .u8, 1, 1, some [.i .u8 0], [], false⟩),
  (9, ⟨.str, 16, 1, some [.s ⟨#[]⟩], [], false⟩),
  (22, ⟨.slice 51, 24, 1, some [.nl], [], false⟩),
  (24, ⟨.struct, 24, 1, some [.nl], [(0, 1)], false⟩),
  (27, ⟨.slice 47, 24, 1, some [.nl], [], false⟩),
  (29, ⟨.struct, 24, 1, some [.nl], [(0, 1)], false⟩),
  (30, ⟨.other, 0, 1, none, [], false⟩),
  (39, ⟨.slice 5, 24, 1, some [.nl], [], false⟩),
  (47, ⟨.struct, 32, 2, some [.s ⟨#[]⟩, .s ⟨#[]⟩], [(0, 1), (1, 1)], true⟩),
  (51, ⟨.struct, 32, 2, some [.s ⟨#[]⟩, .s ⟨#[]⟩], [(0, 1), (1, 1)], true⟩),
  (78, ⟨.other, 8, 1, none, [], false⟩),
  (82, ⟨.int .u64, 8, 1, some [.i .u64 0], [], false⟩)]
theorem tab_ok : TabOk Go.Proofs.Try.prog (tabOf rows) ∧ ∀ t z, (tabOf rows).flat t = some z → FlatOk Go.Proofs.Try.prog t z := tabB_ok encOk (by kernel_rfl)
end Go.KM.L1
