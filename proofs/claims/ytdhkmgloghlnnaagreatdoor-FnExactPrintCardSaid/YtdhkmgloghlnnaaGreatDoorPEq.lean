/- The equations of the law's functions. Conditions: none. -/
import Derived.Test.YtdhkmgloghlnnaaGreatDoorPSg
namespace Go.KM.P1
open Go Go.KM
open Go.KM.Fam (Dn dflt)
open Go.KM.Enc (cells sz mkE glob gany u8)
set_option autoImplicit false
set_option linter.unusedVariables false
set_option maxRecDepth 100000
def WL0 : List ByteArray := [⟨#[]⟩, ⟨#[98, 111, 111, 108]⟩, ⟨#[116, 101, 120, 116]⟩, ⟨#[117, 56]⟩, ⟨#[117, 49, 54]⟩, ⟨#[117, 51, 50]⟩, ⟨#[117, 54, 52]⟩, ⟨#[105, 56]⟩, ⟨#[105, 49, 54]⟩, ⟨#[105, 51, 50]⟩, ⟨#[105, 54, 52]⟩]
def WL1 : List ByteArray := [⟨#[]⟩, ⟨#[124, 124]⟩, ⟨#[38, 38]⟩, ⟨#[61, 61]⟩, ⟨#[33, 61]⟩, ⟨#[60]⟩, ⟨#[60, 61]⟩, ⟨#[62]⟩, ⟨#[62, 61]⟩, ⟨#[43]⟩, ⟨#[45]⟩, ⟨#[124]⟩, ⟨#[94]⟩, ⟨#[42]⟩, ⟨#[47]⟩, ⟨#[37]⟩, ⟨#[38]⟩, ⟨#[60, 60]⟩, ⟨#[62, 62]⟩]
def WL2 : List ByteArray := [⟨#[]⟩, ⟨#[114, 101, 97, 100]⟩, ⟨#[104, 97, 115]⟩, ⟨#[108, 105, 115, 116]⟩, ⟨#[116, 111, 111, 108]⟩, ⟨#[97, 114, 103]⟩, ⟨#[108, 101, 110]⟩, ⟨#[97, 116]⟩, ⟨#[99, 117, 116]⟩, ⟨#[102, 105, 110, 100]⟩, ⟨#[99, 104, 114]⟩, ⟨#[100, 101, 99]⟩, ⟨#[110, 117, 109]⟩]
def WL3 : List ByteArray := [⟨#[]⟩, ⟨#[45]⟩, ⟨#[33]⟩, ⟨#[126]⟩]
theorem L.szNode_eq (a : TNode) (left : Int) : L.szNode a left =
 bif decide (IntKind.i64.wrap (left - (↑a.gText.size : Int)) < 0) then
 some (-1)
 else
 some (IntKind.i64.wrap (left - (↑a.gText.size : Int))) :=
 (fnA_eq 21 [PV.st (cells 66 a), PV.i IntKind.i64 left] rfl).trans (by kernel_rfl)
noncomputable def L.szNodeS.l244 (a : List TNode) (left : Int) (i : Int) : Option Int := Y.runA 9 (fun ct c => at_ ct [true, true, true, false, true, false, false] c) ⟨[(0, .fl 66 a), (1, .i IntKind.i64 left), (5, .i IntKind.i64 i)], [], [], [], []⟩
theorem L.szNodeS_eq (a : List TNode) (left : Int) : L.szNodeS a left =
 bif decide (IntKind.i64.wrap (left - (↑a.length : Int)) < 0) then
 some (-1)
 else
 L.szNodeS.l244 a (IntKind.i64.wrap (left - (↑a.length : Int))) 0 :=
 (fnA_eq 9 [PV.fl 66 a, PV.i IntKind.i64 left] rfl).trans (by kernel_rfl)
theorem L.szNodeS.l244_eq (a : List TNode) (left : Int) (i : Int) : L.szNodeS.l244 a left i =
 bif decide (i < (↑a.length : Int)) then
 bif inB i a.length then
 (L.szNode (a.getD i.toNat TNode.z) left).bind fun r0 =>
 bif decide (r0 < 0) then
 some (-1)
 else
 L.szNodeS.l244 a r0 (IntKind.i64.wrap (i + 1))
 else
 none
 else
 some left :=
 (runA_eq 9 _ _).trans (by kernel_rfl)
theorem L.szTree_eq (a : TTree) (left : Int) : L.szTree a left =
 (L.szNodeS a.gNodes left).bind fun r0 =>
 bif decide (r0 < 0) then
 some (-1)
 else
 some r0 :=
 (fnA_eq 4 [PV.st (cells 24 a), PV.i IntKind.i64 left] rfl).trans (by kernel_rfl)
theorem L.toNode_eq (a : TNode) : L.toNode a =
 some a :=
 (fnA_eq 26 [PV.st (cells 66 a)] rfl).trans (by kernel_rfl)
noncomputable def L.toNodeS.l116 (a : List TNode) (out : List TNode) (i : Int) : Option (List TNode) := Y.runA 13 (fun ct c => at_ ct [true, true, false, true, false, false] c) ⟨[(0, .fl 66 a), (3, .ol 51 out), (4, .i IntKind.i64 i)], [], [], [], []⟩
theorem L.toNodeS_eq (a : List TNode) : L.toNodeS a =
 bif decide (0 ≤ (↑a.length : Int)) && (↑a.length : Int) == (↑a.length : Int) && room a.length 56 then
 L.toNodeS.l116 a (List.replicate a.length (TNode.mk 0 0 0 0 ((⟨#[]⟩ : ByteArray)) 0)) 0
 else
 none :=
 (fnA_eq 13 [PV.fl 66 a] rfl).trans (by kernel_rfl)
theorem L.toNodeS.l116_eq (a : List TNode) (out : List TNode) (i : Int) : L.toNodeS.l116 a out i =
 bif decide (i < (↑a.length : Int)) then
 bif inB i a.length then
 (L.toNode (a.getD i.toNat TNode.z)).bind fun r0 =>
 bif inB i out.length then
 L.toNodeS.l116 a (out.set i.toNat (TNode.mk r0.gKind r0.gOp r0.gType r0.gN r0.gText r0.gKids)) (IntKind.i64.wrap (i + 1))
 else
 none
 else
 none
 else
 some out :=
 (runA_eq 13 _ _).trans (by kernel_rfl)
theorem L.toTree_eq (a : TTree) : L.toTree a =
 (L.toNodeS a.gNodes).bind fun r0 =>
 some (⟨r0⟩ : TTree) :=
 (fnA_eq 6 [PV.st (cells 24 a)] rfl).trans (by kernel_rfl)
noncomputable def R.l2Kids.l1012 (n : Int) (out : List (List Int)) (open_ : List Int) (i : Int) (t : TTree) : Option ((List (List Int) × Bool)) := Y.runA 11 (fun ct c => at_ ct [true, true, true, true, true, false, true, false, false] c) ⟨[(1, .ad (.loc 1) 0), (4, .i IntKind.i64 n), (5, .ol 42 out), (6, .ol 3 open_), (7, .i IntKind.i64 i)], [(1, cells 29 t)], [], [], []⟩
theorem R.l2Kids_eq (t : TTree) : R.l2Kids t =
 bif decide ((↑t.gNodes.length : Int) < 1) then
 some ([], false)
 else
 bif decide ((↑t.gNodes.length : Int) > 12001) then
 some ([], false)
 else
 R.l2Kids.l1012 (↑t.gNodes.length : Int) ([]) ([]) 0 t :=
 (fnA_eq 11 [PV.st (cells 29 t)] rfl).trans (by kernel_rfl)
theorem R.l2Kids.l1012_eq (n : Int) (out : List (List Int)) (open_ : List Int) (i : Int) (t : TTree) : R.l2Kids.l1012 n out open_ i t =
 bif decide (i < n) then
 bif inB i t.gNodes.length then
 bif decide ((t.gNodes.getD i.toNat TNode.z).gKids < 0) then
 some ([], false)
 else
 bif decide ((t.gNodes.getD i.toNat TNode.z).gKids > (↑open_.length : Int)) then
 some ([], false)
 else
 bif inS (IntKind.i64.wrap ((↑open_.length : Int) - (t.gNodes.getD i.toNat TNode.z).gKids)) (↑open_.length : Int) open_.length then
 bif room (0 + (sub open_ (IntKind.i64.wrap ((↑open_.length : Int) - (t.gNodes.getD i.toNat TNode.z).gKids)) (↑open_.length : Int)).length) 8 then
 bif room (out.length + [sub open_ (IntKind.i64.wrap ((↑open_.length : Int) - (t.gNodes.getD i.toNat TNode.z).gKids)) (↑open_.length : Int)].length) 24 then
 bif inS 0 (IntKind.i64.wrap ((↑open_.length : Int) - (t.gNodes.getD i.toNat TNode.z).gKids)) open_.length then
 bif room ((List.take (IntKind.i64.wrap ((↑open_.length : Int) - (t.gNodes.getD i.toNat TNode.z).gKids)).toNat open_).length + [i].length) 8 then
 R.l2Kids.l1012 n (out ++ [sub open_ (IntKind.i64.wrap ((↑open_.length : Int) - (t.gNodes.getD i.toNat TNode.z).gKids)) (↑open_.length : Int)]) (List.take (IntKind.i64.wrap ((↑open_.length : Int) - (t.gNodes.getD i.toNat TNode.z).gKids)).toNat open_ ++ [i]) (IntKind.i64.wrap (i + 1)) t
 else
 none
 else
 none
 else
 none
 else
 none
 else
 none
 else
 none
 else
 some (out, (↑open_.length : Int) == 1) :=
 (runA_eq 11 _ _).trans (by kernel_rfl)
noncomputable def R.l2Uses.l215 (t6 : Int) (t9 : Bool) : Option ((Bool × (Bool × (Bool × Bool)))) := Y.runA 35 (fun ct c => at_ ct [true, false, true, false, true, true, true] c) ⟨[(6, .i IntKind.i64 t6), (9, .b t9)], [], [], [], []⟩
noncomputable def R.l2Uses.l3455 (t6 : Int) (t17 : Bool) : Option ((Bool × (Bool × (Bool × Bool)))) := Y.runA 35 (fun ct c => at_ ct [true, false, true, false, true, true, true, true, true, true, true] c) ⟨[(6, .i IntKind.i64 t6), (17, .b t17)], [], [], [], []⟩
theorem R.l2Uses_eq (kind : Int) : R.l2Uses kind =
 bif kind == 1 then
 some (false, (true, (true, false)))
 else
 bif kind == 2 then
 R.l2Uses.l215 kind (kind == 2)
 else
 bif kind == 4 then
 R.l2Uses.l215 kind (kind == 4)
 else
 bif kind == 7 then
 R.l2Uses.l215 kind (kind == 7)
 else
 bif kind == 10 then
 R.l2Uses.l215 kind (kind == 10)
 else
 R.l2Uses.l215 kind (kind == 11) :=
 (fnA_eq 35 [PV.i IntKind.i64 kind] rfl).trans (by kernel_rfl)
theorem R.l2Uses.l215_eq (t6 : Int) (t9 : Bool) : R.l2Uses.l215 t6 t9 =
 bif t9 then
 some (false, (false, (false, true)))
 else
 bif t6 == 3 then
 some (false, (false, (true, false)))
 else
 bif t6 == 5 then
 R.l2Uses.l3455 t6 (t6 == 5)
 else
 bif t6 == 6 then
 R.l2Uses.l3455 t6 (t6 == 6)
 else
 R.l2Uses.l3455 t6 (t6 == 8) :=
 (runA_eq 35 _ _).trans (by kernel_rfl)
theorem R.l2Uses.l3455_eq (t6 : Int) (t17 : Bool) : R.l2Uses.l3455 t6 t17 =
 bif t17 then
 some (true, (false, (false, false)))
 else
 bif t6 == 9 then
 some (false, (true, (false, false)))
 else
 bif t6 == 22 then
 bif t6 == 22 then
 some (false, (true, (false, true)))
 else
 some (false, (false, (false, false)))
 else
 bif t6 == 23 then
 some (false, (true, (false, true)))
 else
 some (false, (false, (false, false))) :=
 (runA_eq 35 _ _).trans (by kernel_rfl)
theorem R.l2Named_eq (kind : Int) : R.l2Named kind =
 bif kind == 4 then
 some true
 else
 bif kind == 7 then
 some true
 else
 bif kind == 10 then
 some true
 else
 bif kind == 11 then
 some true
 else
 bif kind == 22 then
 some true
 else
 some (kind == 23) :=
 (fnA_eq 36 [PV.i IntKind.i64 kind] rfl).trans (by kernel_rfl)
theorem R.l1Letter_eq (b : Int) : R.l1Letter b =
 bif decide (b ≥ 97) then
 some (decide (b ≤ 122))
 else
 some false :=
 (fnA_eq 53 [PV.i IntKind.u8 b] rfl).trans (by kernel_rfl)
theorem R.l1TypeWord_eq (t : Int) : R.l1TypeWord t =
 bif t == 1 then
 some ((⟨#[98, 111, 111, 108]⟩ : ByteArray))
 else
 bif t == 2 then
 some ((⟨#[116, 101, 120, 116]⟩ : ByteArray))
 else
 bif t == 3 then
 some ((⟨#[117, 56]⟩ : ByteArray))
 else
 bif t == 4 then
 some ((⟨#[117, 49, 54]⟩ : ByteArray))
 else
 bif t == 5 then
 some ((⟨#[117, 51, 50]⟩ : ByteArray))
 else
 bif t == 6 then
 some ((⟨#[117, 54, 52]⟩ : ByteArray))
 else
 bif t == 7 then
 some ((⟨#[105, 56]⟩ : ByteArray))
 else
 bif t == 8 then
 some ((⟨#[105, 49, 54]⟩ : ByteArray))
 else
 bif t == 9 then
 some ((⟨#[105, 51, 50]⟩ : ByteArray))
 else
 bif t == 10 then
 some ((⟨#[105, 54, 52]⟩ : ByteArray))
 else
 some ((⟨#[]⟩ : ByteArray)) :=
 (fnA_eq 24 [PV.i IntKind.i64 t] rfl).trans (by kernel_rfl)
noncomputable def R.l1Type.l52 (w : ByteArray) (t : Int) : Option Int := Y.runA 71 (fun ct c => at_ ct [true, false, true, false, false] c) ⟨[(0, .s w), (3, .i IntKind.i64 t)], [], [], [], []⟩
theorem R.l1Type_eq (w : ByteArray) : R.l1Type w =
 R.l1Type.l52 w 1 :=
 (fnA_eq 71 [PV.s w] rfl).trans (by kernel_rfl)
theorem R.l1Type.l52_eq (w : ByteArray) (t : Int) : R.l1Type.l52 w t =
 bif decide (t ≤ 10) then
 (R.l1TypeWord t).bind fun r0 =>
 bif bEq r0 w then
 some t
 else
 R.l1Type.l52 w (IntKind.i64.wrap (t + 1))
 else
 some 0 :=
 (runA_eq 71 _ _).trans (by kernel_rfl)
theorem R.l1BuiltWord_eq (op : Int) : R.l1BuiltWord op =
 bif op == 1 then
 some ((⟨#[114, 101, 97, 100]⟩ : ByteArray), 1)
 else
 bif op == 2 then
 some ((⟨#[104, 97, 115]⟩ : ByteArray), 1)
 else
 bif op == 3 then
 some ((⟨#[108, 105, 115, 116]⟩ : ByteArray), 1)
 else
 bif op == 4 then
 some ((⟨#[116, 111, 111, 108]⟩ : ByteArray), 2)
 else
 bif op == 5 then
 some ((⟨#[97, 114, 103]⟩ : ByteArray), 0)
 else
 bif op == 6 then
 some ((⟨#[108, 101, 110]⟩ : ByteArray), 1)
 else
 bif op == 7 then
 some ((⟨#[97, 116]⟩ : ByteArray), 2)
 else
 bif op == 8 then
 some ((⟨#[99, 117, 116]⟩ : ByteArray), 3)
 else
 bif op == 9 then
 some ((⟨#[102, 105, 110, 100]⟩ : ByteArray), 2)
 else
 bif op == 10 then
 some ((⟨#[99, 104, 114]⟩ : ByteArray), 1)
 else
 bif op == 11 then
 some ((⟨#[100, 101, 99]⟩ : ByteArray), 1)
 else
 bif op == 12 then
 some ((⟨#[110, 117, 109]⟩ : ByteArray), 1)
 else
 some ((⟨#[]⟩ : ByteArray), 0) :=
 (fnA_eq 42 [PV.i IntKind.i64 op] rfl).trans (by kernel_rfl)
theorem R.l1Plain_eq : R.l1Plain =
 some ([(⟨#[102, 110]⟩ : ByteArray), (⟨#[108, 101, 116]⟩ : ByteArray), (⟨#[105, 102]⟩ : ByteArray), (⟨#[101, 108, 115, 101]⟩ : ByteArray), (⟨#[119, 104, 105, 108, 101]⟩ : ByteArray), (⟨#[98, 114, 101, 97, 107]⟩ : ByteArray), (⟨#[99, 111, 110, 116, 105, 110, 117, 101]⟩ : ByteArray), (⟨#[114, 101, 116, 117, 114, 110]⟩ : ByteArray), (⟨#[102, 97, 105, 108]⟩ : ByteArray), (⟨#[119, 114, 105, 116, 101]⟩ : ByteArray), (⟨#[115, 97, 121]⟩ : ByteArray), (⟨#[116, 114, 117, 101]⟩ : ByteArray), (⟨#[102, 97, 108, 115, 101]⟩ : ByteArray)]) :=
 (fnA_eq 72 [] rfl).trans (by kernel_rfl)
noncomputable def R.l1Taken.l116 (w : ByteArray) (op : Int) : Option Bool := Y.runA 54 (fun ct c => at_ ct [true, true, false, true, false, false] c) ⟨[(0, .s w), (3, .i IntKind.i64 op)], [], [], [], []⟩
noncomputable def R.l1Taken.l500 (w : ByteArray) (plain : List ByteArray) (i : Int) : Option Bool := Y.runA 54 (fun ct c => at_ ct [true, true, true, true, false, true, false, false] c) ⟨[(0, .s w), (6, .fl 9 plain), (7, .i IntKind.i64 i)], [], [], [], []⟩
theorem R.l1Taken_eq (w : ByteArray) : R.l1Taken w =
 (R.l1Type w).bind fun r0 =>
 bif r0 != 0 then
 some true
 else
 R.l1Taken.l116 w 1 :=
 (fnA_eq 54 [PV.s w] rfl).trans (by kernel_rfl)
theorem R.l1Taken.l116_eq (w : ByteArray) (op : Int) : R.l1Taken.l116 w op =
 bif decide (op ≤ 12) then
 (R.l1BuiltWord op).bind fun r0 =>
 bif bEq r0.fst w then
 some true
 else
 R.l1Taken.l116 w (IntKind.i64.wrap (op + 1))
 else
 (R.l1Plain).bind fun r0 =>
 R.l1Taken.l500 w r0 0 :=
 (runA_eq 54 _ _).trans (by kernel_rfl)
theorem R.l1Taken.l500_eq (w : ByteArray) (plain : List ByteArray) (i : Int) : R.l1Taken.l500 w plain i =
 bif decide (i < (↑(List.length plain) : Int)) then
 bif inB i (List.length plain) then
 bif bEq (List.getD plain i.toNat (⟨#[]⟩ : ByteArray)) w then
 some true
 else
 R.l1Taken.l500 w plain (IntKind.i64.wrap (i + 1))
 else
 none
 else
 some false :=
 (runA_eq 54 _ _).trans (by kernel_rfl)
theorem R.l1Digit_eq (b : Int) : R.l1Digit b =
 bif decide (b ≥ 48) then
 some (decide (b ≤ 57))
 else
 some false :=
 (fnA_eq 73 [PV.i IntKind.u8 b] rfl).trans (by kernel_rfl)
theorem R.l1Tail_eq (b : Int) : R.l1Tail b =
 (R.l1Letter b).bind fun r0 =>
 bif r0 then
 some true
 else
 (R.l1Digit b).bind fun r1 =>
 bif r1 then
 some true
 else
 some (b == 95) :=
 (fnA_eq 55 [PV.i IntKind.u8 b] rfl).trans (by kernel_rfl)
noncomputable def R.l1NameOk.l116 (s : ByteArray) (i : Int) : Option Bool := Y.runA 37 (fun ct c => at_ ct [true, true, false, true, false, false] c) ⟨[(0, .s s), (3, .i IntKind.i64 i)], [], [], [], []⟩
theorem R.l1NameOk_eq (s : ByteArray) : R.l1NameOk s =
 bif decide ((↑s.size : Int) < 1) then
 some false
 else
 bif decide ((↑s.size : Int) > 30) then
 some false
 else
 bif inB 0 s.size then
 (R.l1Letter (bt s 0)).bind fun r0 =>
 bif !r0 then
 some false
 else
 (R.l1Taken s).bind fun r1 =>
 bif r1 then
 some false
 else
 R.l1NameOk.l116 s 0
 else
 none :=
 (fnA_eq 37 [PV.s s] rfl).trans (by kernel_rfl)
theorem R.l1NameOk.l116_eq (s : ByteArray) (i : Int) : R.l1NameOk.l116 s i =
 bif decide (i < (↑s.size : Int)) then
 bif inB i s.size then
 (R.l1Tail (bt s i)).bind fun r0 =>
 bif !r0 then
 some false
 else
 R.l1NameOk.l116 s (IntKind.i64.wrap (i + 1))
 else
 none
 else
 some true :=
 (runA_eq 37 _ _).trans (by kernel_rfl)
theorem R.l1Integer_eq (t : Int) : R.l1Integer t =
 bif decide (t ≥ 3) then
 some (decide (t ≤ 10))
 else
 some false :=
 (fnA_eq 38 [PV.i IntKind.i64 t] rfl).trans (by kernel_rfl)
noncomputable def R.l1Bits.l53 (t3 : Int) (t4 : Bool) : Option Int := Y.runA 56 (fun ct c => at_ ct [true, false, true, false, true] c) ⟨[(3, .i IntKind.i64 t3), (4, .b t4)], [], [], [], []⟩
noncomputable def R.l1Bits.l215 (t3 : Int) (t7 : Bool) : Option Int := Y.runA 56 (fun ct c => at_ ct [true, false, true, false, true, true, true] c) ⟨[(3, .i IntKind.i64 t3), (7, .b t7)], [], [], [], []⟩
theorem R.l1Bits_eq (t : Int) : R.l1Bits t =
 bif t == 3 then
 R.l1Bits.l53 t (t == 3)
 else
 R.l1Bits.l53 t (t == 7) :=
 (fnA_eq 56 [PV.i IntKind.i64 t] rfl).trans (by kernel_rfl)
theorem R.l1Bits.l53_eq (t3 : Int) (t4 : Bool) : R.l1Bits.l53 t3 t4 =
 bif t4 then
 some 8
 else
 bif t3 == 4 then
 R.l1Bits.l215 t3 (t3 == 4)
 else
 R.l1Bits.l215 t3 (t3 == 8) :=
 (runA_eq 56 _ _).trans (by kernel_rfl)
theorem R.l1Bits.l215_eq (t3 : Int) (t7 : Bool) : R.l1Bits.l215 t3 t7 =
 bif t7 then
 some 16
 else
 bif t3 == 5 then
 bif t3 == 5 then
 some 32
 else
 some 64
 else
 bif t3 == 9 then
 some 32
 else
 some 64 :=
 (runA_eq 56 _ _).trans (by kernel_rfl)
theorem R.l1Signed_eq (t : Int) : R.l1Signed t =
 bif decide (t ≥ 7) then
 some (decide (t ≤ 10))
 else
 some false :=
 (fnA_eq 57 [PV.i IntKind.i64 t] rfl).trans (by kernel_rfl)
noncomputable def R.l1Max.l500 (n : Int) (m : Int) (i : Int) : Option Int := Y.runA 39 (fun ct c => at_ ct [true, true, true, true, false, true, false, false] c) ⟨[(3, .i IntKind.i64 n), (4, .i IntKind.u64 m), (5, .i IntKind.i64 i)], [], [], [], []⟩
theorem R.l1Max_eq (t : Int) : R.l1Max t =
 (R.l1Bits t).bind fun r0 =>
 (R.l1Signed t).bind fun r1 =>
 bif r1 then
 R.l1Max.l500 (IntKind.i64.wrap (r0 - 1)) 0 0
 else
 R.l1Max.l500 r0 0 0 :=
 (fnA_eq 39 [PV.i IntKind.i64 t] rfl).trans (by kernel_rfl)
theorem R.l1Max.l500_eq (n : Int) (m : Int) (i : Int) : R.l1Max.l500 n m i =
 bif decide (i < n) then
 R.l1Max.l500 n (IntKind.u64.wrap (IntKind.u64.wrap (m * 2) + 1)) (IntKind.i64.wrap (i + 1))
 else
 some m :=
 (runA_eq 39 _ _).trans (by kernel_rfl)
theorem R.l2Fields_eq (n : TNode) : R.l2Fields n =
 (R.l2Uses n.gKind).bind fun r0 =>
 bif !r0.fst then
 bif n.gOp != 0 then
 some false
 else
 bif !r0.snd.fst then
 bif n.gType != 0 then
 some false
 else
 bif !r0.snd.snd.fst then
 bif n.gN != 0 then
 some false
 else
 bif !r0.snd.snd.snd then
 bif !bEq n.gText ((⟨#[]⟩ : ByteArray)) then
 some false
 else
 (R.l2Named n.gKind).bind fun r1 =>
 bif r1 then
 (R.l1NameOk n.gText).bind fun r2 =>
 bif !r2 then
 some false
 else
 bif n.gKind == 1 then
 (R.l1Integer n.gType).bind fun r3 =>
 bif r3 then
 (R.l1Max n.gType).bind fun r4 =>
 some (decide (IntKind.u64.wrap n.gN ≤ r4))
 else
 some false
 else
 bif n.gKind == 2 then
 some (decide ((↑n.gText.size : Int) ≤ 3000))
 else
 bif n.gKind == 3 then
 bif n.gN == 0 then
 some true
 else
 some (n.gN == 1)
 else
 bif n.gKind == 5 then
 bif decide (n.gOp ≥ 1) then
 some (decide (n.gOp ≤ 3))
 else
 some false
 else
 bif n.gKind == 6 then
 bif decide (n.gOp ≥ 1) then
 some (decide (n.gOp ≤ 18))
 else
 some false
 else
 bif n.gKind == 8 then
 bif decide (n.gOp ≥ 1) then
 some (decide (n.gOp ≤ 12))
 else
 some false
 else
 bif n.gKind == 9 then
 (R.l1Integer n.gType).bind fun r3 =>
 some r3
 else
 bif n.gKind == 22 then
 bif decide (n.gType ≥ 1) then
 some (decide (n.gType ≤ 10))
 else
 some false
 else
 bif n.gKind == 23 then
 bif decide (n.gType ≥ 0) then
 some (decide (n.gType ≤ 10))
 else
 some false
 else
 some true
 else
 bif n.gKind == 1 then
 (R.l1Integer n.gType).bind fun r2 =>
 bif r2 then
 (R.l1Max n.gType).bind fun r3 =>
 some (decide (IntKind.u64.wrap n.gN ≤ r3))
 else
 some false
 else
 bif n.gKind == 2 then
 some (decide ((↑n.gText.size : Int) ≤ 3000))
 else
 bif n.gKind == 3 then
 bif n.gN == 0 then
 some true
 else
 some (n.gN == 1)
 else
 bif n.gKind == 5 then
 bif decide (n.gOp ≥ 1) then
 some (decide (n.gOp ≤ 3))
 else
 some false
 else
 bif n.gKind == 6 then
 bif decide (n.gOp ≥ 1) then
 some (decide (n.gOp ≤ 18))
 else
 some false
 else
 bif n.gKind == 8 then
 bif decide (n.gOp ≥ 1) then
 some (decide (n.gOp ≤ 12))
 else
 some false
 else
 bif n.gKind == 9 then
 (R.l1Integer n.gType).bind fun r2 =>
 some r2
 else
 bif n.gKind == 22 then
 bif decide (n.gType ≥ 1) then
 some (decide (n.gType ≤ 10))
 else
 some false
 else
 bif n.gKind == 23 then
 bif decide (n.gType ≥ 0) then
 some (decide (n.gType ≤ 10))
 else
 some false
 else
 some true
 else
 (R.l2Named n.gKind).bind fun r1 =>
 bif r1 then
 (R.l1NameOk n.gText).bind fun r2 =>
 bif !r2 then
 some false
 else
 bif n.gKind == 1 then
 (R.l1Integer n.gType).bind fun r3 =>
 bif r3 then
 (R.l1Max n.gType).bind fun r4 =>
 some (decide (IntKind.u64.wrap n.gN ≤ r4))
 else
 some false
 else
 bif n.gKind == 2 then
 some (decide ((↑n.gText.size : Int) ≤ 3000))
 else
 bif n.gKind == 3 then
 bif n.gN == 0 then
 some true
 else
 some (n.gN == 1)
 else
 bif n.gKind == 5 then
 bif decide (n.gOp ≥ 1) then
 some (decide (n.gOp ≤ 3))
 else
 some false
 else
 bif n.gKind == 6 then
 bif decide (n.gOp ≥ 1) then
 some (decide (n.gOp ≤ 18))
 else
 some false
 else
 bif n.gKind == 8 then
 bif decide (n.gOp ≥ 1) then
 some (decide (n.gOp ≤ 12))
 else
 some false
 else
 bif n.gKind == 9 then
 (R.l1Integer n.gType).bind fun r3 =>
 some r3
 else
 bif n.gKind == 22 then
 bif decide (n.gType ≥ 1) then
 some (decide (n.gType ≤ 10))
 else
 some false
 else
 bif n.gKind == 23 then
 bif decide (n.gType ≥ 0) then
 some (decide (n.gType ≤ 10))
 else
 some false
 else
 some true
 else
 bif n.gKind == 1 then
 (R.l1Integer n.gType).bind fun r2 =>
 bif r2 then
 (R.l1Max n.gType).bind fun r3 =>
 some (decide (IntKind.u64.wrap n.gN ≤ r3))
 else
 some false
 else
 bif n.gKind == 2 then
 some (decide ((↑n.gText.size : Int) ≤ 3000))
 else
 bif n.gKind == 3 then
 bif n.gN == 0 then
 some true
 else
 some (n.gN == 1)
 else
 bif n.gKind == 5 then
 bif decide (n.gOp ≥ 1) then
 some (decide (n.gOp ≤ 3))
 else
 some false
 else
 bif n.gKind == 6 then
 bif decide (n.gOp ≥ 1) then
 some (decide (n.gOp ≤ 18))
 else
 some false
 else
 bif n.gKind == 8 then
 bif decide (n.gOp ≥ 1) then
 some (decide (n.gOp ≤ 12))
 else
 some false
 else
 bif n.gKind == 9 then
 (R.l1Integer n.gType).bind fun r2 =>
 some r2
 else
 bif n.gKind == 22 then
 bif decide (n.gType ≥ 1) then
 some (decide (n.gType ≤ 10))
 else
 some false
 else
 bif n.gKind == 23 then
 bif decide (n.gType ≥ 0) then
 some (decide (n.gType ≤ 10))
 else
 some false
 else
 some true
 else
 bif !r0.snd.snd.snd then
 bif !bEq n.gText ((⟨#[]⟩ : ByteArray)) then
 some false
 else
 (R.l2Named n.gKind).bind fun r1 =>
 bif r1 then
 (R.l1NameOk n.gText).bind fun r2 =>
 bif !r2 then
 some false
 else
 bif n.gKind == 1 then
 (R.l1Integer n.gType).bind fun r3 =>
 bif r3 then
 (R.l1Max n.gType).bind fun r4 =>
 some (decide (IntKind.u64.wrap n.gN ≤ r4))
 else
 some false
 else
 bif n.gKind == 2 then
 some (decide ((↑n.gText.size : Int) ≤ 3000))
 else
 bif n.gKind == 3 then
 bif n.gN == 0 then
 some true
 else
 some (n.gN == 1)
 else
 bif n.gKind == 5 then
 bif decide (n.gOp ≥ 1) then
 some (decide (n.gOp ≤ 3))
 else
 some false
 else
 bif n.gKind == 6 then
 bif decide (n.gOp ≥ 1) then
 some (decide (n.gOp ≤ 18))
 else
 some false
 else
 bif n.gKind == 8 then
 bif decide (n.gOp ≥ 1) then
 some (decide (n.gOp ≤ 12))
 else
 some false
 else
 bif n.gKind == 9 then
 (R.l1Integer n.gType).bind fun r3 =>
 some r3
 else
 bif n.gKind == 22 then
 bif decide (n.gType ≥ 1) then
 some (decide (n.gType ≤ 10))
 else
 some false
 else
 bif n.gKind == 23 then
 bif decide (n.gType ≥ 0) then
 some (decide (n.gType ≤ 10))
 else
 some false
 else
 some true
 else
 bif n.gKind == 1 then
 (R.l1Integer n.gType).bind fun r2 =>
 bif r2 then
 (R.l1Max n.gType).bind fun r3 =>
 some (decide (IntKind.u64.wrap n.gN ≤ r3))
 else
 some false
 else
 bif n.gKind == 2 then
 some (decide ((↑n.gText.size : Int) ≤ 3000))
 else
 bif n.gKind == 3 then
 bif n.gN == 0 then
 some true
 else
 some (n.gN == 1)
 else
 bif n.gKind == 5 then
 bif decide (n.gOp ≥ 1) then
 some (decide (n.gOp ≤ 3))
 else
 some false
 else
 bif n.gKind == 6 then
 bif decide (n.gOp ≥ 1) then
 some (decide (n.gOp ≤ 18))
 else
 some false
 else
 bif n.gKind == 8 then
 bif decide (n.gOp ≥ 1) then
 some (decide (n.gOp ≤ 12))
 else
 some false
 else
 bif n.gKind == 9 then
 (R.l1Integer n.gType).bind fun r2 =>
 some r2
 else
 bif n.gKind == 22 then
 bif decide (n.gType ≥ 1) then
 some (decide (n.gType ≤ 10))
 else
 some false
 else
 bif n.gKind == 23 then
 bif decide (n.gType ≥ 0) then
 some (decide (n.gType ≤ 10))
 else
 some false
 else
 some true
 else
 (R.l2Named n.gKind).bind fun r1 =>
 bif r1 then
 (R.l1NameOk n.gText).bind fun r2 =>
 bif !r2 then
 some false
 else
 bif n.gKind == 1 then
 (R.l1Integer n.gType).bind fun r3 =>
 bif r3 then
 (R.l1Max n.gType).bind fun r4 =>
 some (decide (IntKind.u64.wrap n.gN ≤ r4))
 else
 some false
 else
 bif n.gKind == 2 then
 some (decide ((↑n.gText.size : Int) ≤ 3000))
 else
 bif n.gKind == 3 then
 bif n.gN == 0 then
 some true
 else
 some (n.gN == 1)
 else
 bif n.gKind == 5 then
 bif decide (n.gOp ≥ 1) then
 some (decide (n.gOp ≤ 3))
 else
 some false
 else
 bif n.gKind == 6 then
 bif decide (n.gOp ≥ 1) then
 some (decide (n.gOp ≤ 18))
 else
 some false
 else
 bif n.gKind == 8 then
 bif decide (n.gOp ≥ 1) then
 some (decide (n.gOp ≤ 12))
 else
 some false
 else
 bif n.gKind == 9 then
 (R.l1Integer n.gType).bind fun r3 =>
 some r3
 else
 bif n.gKind == 22 then
 bif decide (n.gType ≥ 1) then
 some (decide (n.gType ≤ 10))
 else
 some false
 else
 bif n.gKind == 23 then
 bif decide (n.gType ≥ 0) then
 some (decide (n.gType ≤ 10))
 else
 some false
 else
 some true
 else
 bif n.gKind == 1 then
 (R.l1Integer n.gType).bind fun r2 =>
 bif r2 then
 (R.l1Max n.gType).bind fun r3 =>
 some (decide (IntKind.u64.wrap n.gN ≤ r3))
 else
 some false
 else
 bif n.gKind == 2 then
 some (decide ((↑n.gText.size : Int) ≤ 3000))
 else
 bif n.gKind == 3 then
 bif n.gN == 0 then
 some true
 else
 some (n.gN == 1)
 else
 bif n.gKind == 5 then
 bif decide (n.gOp ≥ 1) then
 some (decide (n.gOp ≤ 3))
 else
 some false
 else
 bif n.gKind == 6 then
 bif decide (n.gOp ≥ 1) then
 some (decide (n.gOp ≤ 18))
 else
 some false
 else
 bif n.gKind == 8 then
 bif decide (n.gOp ≥ 1) then
 some (decide (n.gOp ≤ 12))
 else
 some false
 else
 bif n.gKind == 9 then
 (R.l1Integer n.gType).bind fun r2 =>
 some r2
 else
 bif n.gKind == 22 then
 bif decide (n.gType ≥ 1) then
 some (decide (n.gType ≤ 10))
 else
 some false
 else
 bif n.gKind == 23 then
 bif decide (n.gType ≥ 0) then
 some (decide (n.gType ≤ 10))
 else
 some false
 else
 some true
 else
 bif !r0.snd.snd.fst then
 bif n.gN != 0 then
 some false
 else
 bif !r0.snd.snd.snd then
 bif !bEq n.gText ((⟨#[]⟩ : ByteArray)) then
 some false
 else
 (R.l2Named n.gKind).bind fun r1 =>
 bif r1 then
 (R.l1NameOk n.gText).bind fun r2 =>
 bif !r2 then
 some false
 else
 bif n.gKind == 1 then
 (R.l1Integer n.gType).bind fun r3 =>
 bif r3 then
 (R.l1Max n.gType).bind fun r4 =>
 some (decide (IntKind.u64.wrap n.gN ≤ r4))
 else
 some false
 else
 bif n.gKind == 2 then
 some (decide ((↑n.gText.size : Int) ≤ 3000))
 else
 bif n.gKind == 3 then
 bif n.gN == 0 then
 some true
 else
 some (n.gN == 1)
 else
 bif n.gKind == 5 then
 bif decide (n.gOp ≥ 1) then
 some (decide (n.gOp ≤ 3))
 else
 some false
 else
 bif n.gKind == 6 then
 bif decide (n.gOp ≥ 1) then
 some (decide (n.gOp ≤ 18))
 else
 some false
 else
 bif n.gKind == 8 then
 bif decide (n.gOp ≥ 1) then
 some (decide (n.gOp ≤ 12))
 else
 some false
 else
 bif n.gKind == 9 then
 (R.l1Integer n.gType).bind fun r3 =>
 some r3
 else
 bif n.gKind == 22 then
 bif decide (n.gType ≥ 1) then
 some (decide (n.gType ≤ 10))
 else
 some false
 else
 bif n.gKind == 23 then
 bif decide (n.gType ≥ 0) then
 some (decide (n.gType ≤ 10))
 else
 some false
 else
 some true
 else
 bif n.gKind == 1 then
 (R.l1Integer n.gType).bind fun r2 =>
 bif r2 then
 (R.l1Max n.gType).bind fun r3 =>
 some (decide (IntKind.u64.wrap n.gN ≤ r3))
 else
 some false
 else
 bif n.gKind == 2 then
 some (decide ((↑n.gText.size : Int) ≤ 3000))
 else
 bif n.gKind == 3 then
 bif n.gN == 0 then
 some true
 else
 some (n.gN == 1)
 else
 bif n.gKind == 5 then
 bif decide (n.gOp ≥ 1) then
 some (decide (n.gOp ≤ 3))
 else
 some false
 else
 bif n.gKind == 6 then
 bif decide (n.gOp ≥ 1) then
 some (decide (n.gOp ≤ 18))
 else
 some false
 else
 bif n.gKind == 8 then
 bif decide (n.gOp ≥ 1) then
 some (decide (n.gOp ≤ 12))
 else
 some false
 else
 bif n.gKind == 9 then
 (R.l1Integer n.gType).bind fun r2 =>
 some r2
 else
 bif n.gKind == 22 then
 bif decide (n.gType ≥ 1) then
 some (decide (n.gType ≤ 10))
 else
 some false
 else
 bif n.gKind == 23 then
 bif decide (n.gType ≥ 0) then
 some (decide (n.gType ≤ 10))
 else
 some false
 else
 some true
 else
 (R.l2Named n.gKind).bind fun r1 =>
 bif r1 then
 (R.l1NameOk n.gText).bind fun r2 =>
 bif !r2 then
 some false
 else
 bif n.gKind == 1 then
 (R.l1Integer n.gType).bind fun r3 =>
 bif r3 then
 (R.l1Max n.gType).bind fun r4 =>
 some (decide (IntKind.u64.wrap n.gN ≤ r4))
 else
 some false
 else
 bif n.gKind == 2 then
 some (decide ((↑n.gText.size : Int) ≤ 3000))
 else
 bif n.gKind == 3 then
 bif n.gN == 0 then
 some true
 else
 some (n.gN == 1)
 else
 bif n.gKind == 5 then
 bif decide (n.gOp ≥ 1) then
 some (decide (n.gOp ≤ 3))
 else
 some false
 else
 bif n.gKind == 6 then
 bif decide (n.gOp ≥ 1) then
 some (decide (n.gOp ≤ 18))
 else
 some false
 else
 bif n.gKind == 8 then
 bif decide (n.gOp ≥ 1) then
 some (decide (n.gOp ≤ 12))
 else
 some false
 else
 bif n.gKind == 9 then
 (R.l1Integer n.gType).bind fun r3 =>
 some r3
 else
 bif n.gKind == 22 then
 bif decide (n.gType ≥ 1) then
 some (decide (n.gType ≤ 10))
 else
 some false
 else
 bif n.gKind == 23 then
 bif decide (n.gType ≥ 0) then
 some (decide (n.gType ≤ 10))
 else
 some false
 else
 some true
 else
 bif n.gKind == 1 then
 (R.l1Integer n.gType).bind fun r2 =>
 bif r2 then
 (R.l1Max n.gType).bind fun r3 =>
 some (decide (IntKind.u64.wrap n.gN ≤ r3))
 else
 some false
 else
 bif n.gKind == 2 then
 some (decide ((↑n.gText.size : Int) ≤ 3000))
 else
 bif n.gKind == 3 then
 bif n.gN == 0 then
 some true
 else
 some (n.gN == 1)
 else
 bif n.gKind == 5 then
 bif decide (n.gOp ≥ 1) then
 some (decide (n.gOp ≤ 3))
 else
 some false
 else
 bif n.gKind == 6 then
 bif decide (n.gOp ≥ 1) then
 some (decide (n.gOp ≤ 18))
 else
 some false
 else
 bif n.gKind == 8 then
 bif decide (n.gOp ≥ 1) then
 some (decide (n.gOp ≤ 12))
 else
 some false
 else
 bif n.gKind == 9 then
 (R.l1Integer n.gType).bind fun r2 =>
 some r2
 else
 bif n.gKind == 22 then
 bif decide (n.gType ≥ 1) then
 some (decide (n.gType ≤ 10))
 else
 some false
 else
 bif n.gKind == 23 then
 bif decide (n.gType ≥ 0) then
 some (decide (n.gType ≤ 10))
 else
 some false
 else
 some true
 else
 bif !r0.snd.snd.snd then
 bif !bEq n.gText ((⟨#[]⟩ : ByteArray)) then
 some false
 else
 (R.l2Named n.gKind).bind fun r1 =>
 bif r1 then
 (R.l1NameOk n.gText).bind fun r2 =>
 bif !r2 then
 some false
 else
 bif n.gKind == 1 then
 (R.l1Integer n.gType).bind fun r3 =>
 bif r3 then
 (R.l1Max n.gType).bind fun r4 =>
 some (decide (IntKind.u64.wrap n.gN ≤ r4))
 else
 some false
 else
 bif n.gKind == 2 then
 some (decide ((↑n.gText.size : Int) ≤ 3000))
 else
 bif n.gKind == 3 then
 bif n.gN == 0 then
 some true
 else
 some (n.gN == 1)
 else
 bif n.gKind == 5 then
 bif decide (n.gOp ≥ 1) then
 some (decide (n.gOp ≤ 3))
 else
 some false
 else
 bif n.gKind == 6 then
 bif decide (n.gOp ≥ 1) then
 some (decide (n.gOp ≤ 18))
 else
 some false
 else
 bif n.gKind == 8 then
 bif decide (n.gOp ≥ 1) then
 some (decide (n.gOp ≤ 12))
 else
 some false
 else
 bif n.gKind == 9 then
 (R.l1Integer n.gType).bind fun r3 =>
 some r3
 else
 bif n.gKind == 22 then
 bif decide (n.gType ≥ 1) then
 some (decide (n.gType ≤ 10))
 else
 some false
 else
 bif n.gKind == 23 then
 bif decide (n.gType ≥ 0) then
 some (decide (n.gType ≤ 10))
 else
 some false
 else
 some true
 else
 bif n.gKind == 1 then
 (R.l1Integer n.gType).bind fun r2 =>
 bif r2 then
 (R.l1Max n.gType).bind fun r3 =>
 some (decide (IntKind.u64.wrap n.gN ≤ r3))
 else
 some false
 else
 bif n.gKind == 2 then
 some (decide ((↑n.gText.size : Int) ≤ 3000))
 else
 bif n.gKind == 3 then
 bif n.gN == 0 then
 some true
 else
 some (n.gN == 1)
 else
 bif n.gKind == 5 then
 bif decide (n.gOp ≥ 1) then
 some (decide (n.gOp ≤ 3))
 else
 some false
 else
 bif n.gKind == 6 then
 bif decide (n.gOp ≥ 1) then
 some (decide (n.gOp ≤ 18))
 else
 some false
 else
 bif n.gKind == 8 then
 bif decide (n.gOp ≥ 1) then
 some (decide (n.gOp ≤ 12))
 else
 some false
 else
 bif n.gKind == 9 then
 (R.l1Integer n.gType).bind fun r2 =>
 some r2
 else
 bif n.gKind == 22 then
 bif decide (n.gType ≥ 1) then
 some (decide (n.gType ≤ 10))
 else
 some false
 else
 bif n.gKind == 23 then
 bif decide (n.gType ≥ 0) then
 some (decide (n.gType ≤ 10))
 else
 some false
 else
 some true
 else
 (R.l2Named n.gKind).bind fun r1 =>
 bif r1 then
 (R.l1NameOk n.gText).bind fun r2 =>
 bif !r2 then
 some false
 else
 bif n.gKind == 1 then
 (R.l1Integer n.gType).bind fun r3 =>
 bif r3 then
 (R.l1Max n.gType).bind fun r4 =>
 some (decide (IntKind.u64.wrap n.gN ≤ r4))
 else
 some false
 else
 bif n.gKind == 2 then
 some (decide ((↑n.gText.size : Int) ≤ 3000))
 else
 bif n.gKind == 3 then
 bif n.gN == 0 then
 some true
 else
 some (n.gN == 1)
 else
 bif n.gKind == 5 then
 bif decide (n.gOp ≥ 1) then
 some (decide (n.gOp ≤ 3))
 else
 some false
 else
 bif n.gKind == 6 then
 bif decide (n.gOp ≥ 1) then
 some (decide (n.gOp ≤ 18))
 else
 some false
 else
 bif n.gKind == 8 then
 bif decide (n.gOp ≥ 1) then
 some (decide (n.gOp ≤ 12))
 else
 some false
 else
 bif n.gKind == 9 then
 (R.l1Integer n.gType).bind fun r3 =>
 some r3
 else
 bif n.gKind == 22 then
 bif decide (n.gType ≥ 1) then
 some (decide (n.gType ≤ 10))
 else
 some false
 else
 bif n.gKind == 23 then
 bif decide (n.gType ≥ 0) then
 some (decide (n.gType ≤ 10))
 else
 some false
 else
 some true
 else
 bif n.gKind == 1 then
 (R.l1Integer n.gType).bind fun r2 =>
 bif r2 then
 (R.l1Max n.gType).bind fun r3 =>
 some (decide (IntKind.u64.wrap n.gN ≤ r3))
 else
 some false
 else
 bif n.gKind == 2 then
 some (decide ((↑n.gText.size : Int) ≤ 3000))
 else
 bif n.gKind == 3 then
 bif n.gN == 0 then
 some true
 else
 some (n.gN == 1)
 else
 bif n.gKind == 5 then
 bif decide (n.gOp ≥ 1) then
 some (decide (n.gOp ≤ 3))
 else
 some false
 else
 bif n.gKind == 6 then
 bif decide (n.gOp ≥ 1) then
 some (decide (n.gOp ≤ 18))
 else
 some false
 else
 bif n.gKind == 8 then
 bif decide (n.gOp ≥ 1) then
 some (decide (n.gOp ≤ 12))
 else
 some false
 else
 bif n.gKind == 9 then
 (R.l1Integer n.gType).bind fun r2 =>
 some r2
 else
 bif n.gKind == 22 then
 bif decide (n.gType ≥ 1) then
 some (decide (n.gType ≤ 10))
 else
 some false
 else
 bif n.gKind == 23 then
 bif decide (n.gType ≥ 0) then
 some (decide (n.gType ≤ 10))
 else
 some false
 else
 some true
 else
 bif !r0.snd.fst then
 bif n.gType != 0 then
 some false
 else
 bif !r0.snd.snd.fst then
 bif n.gN != 0 then
 some false
 else
 bif !r0.snd.snd.snd then
 bif !bEq n.gText ((⟨#[]⟩ : ByteArray)) then
 some false
 else
 (R.l2Named n.gKind).bind fun r1 =>
 bif r1 then
 (R.l1NameOk n.gText).bind fun r2 =>
 bif !r2 then
 some false
 else
 bif n.gKind == 1 then
 (R.l1Integer n.gType).bind fun r3 =>
 bif r3 then
 (R.l1Max n.gType).bind fun r4 =>
 some (decide (IntKind.u64.wrap n.gN ≤ r4))
 else
 some false
 else
 bif n.gKind == 2 then
 some (decide ((↑n.gText.size : Int) ≤ 3000))
 else
 bif n.gKind == 3 then
 bif n.gN == 0 then
 some true
 else
 some (n.gN == 1)
 else
 bif n.gKind == 5 then
 bif decide (n.gOp ≥ 1) then
 some (decide (n.gOp ≤ 3))
 else
 some false
 else
 bif n.gKind == 6 then
 bif decide (n.gOp ≥ 1) then
 some (decide (n.gOp ≤ 18))
 else
 some false
 else
 bif n.gKind == 8 then
 bif decide (n.gOp ≥ 1) then
 some (decide (n.gOp ≤ 12))
 else
 some false
 else
 bif n.gKind == 9 then
 (R.l1Integer n.gType).bind fun r3 =>
 some r3
 else
 bif n.gKind == 22 then
 bif decide (n.gType ≥ 1) then
 some (decide (n.gType ≤ 10))
 else
 some false
 else
 bif n.gKind == 23 then
 bif decide (n.gType ≥ 0) then
 some (decide (n.gType ≤ 10))
 else
 some false
 else
 some true
 else
 bif n.gKind == 1 then
 (R.l1Integer n.gType).bind fun r2 =>
 bif r2 then
 (R.l1Max n.gType).bind fun r3 =>
 some (decide (IntKind.u64.wrap n.gN ≤ r3))
 else
 some false
 else
 bif n.gKind == 2 then
 some (decide ((↑n.gText.size : Int) ≤ 3000))
 else
 bif n.gKind == 3 then
 bif n.gN == 0 then
 some true
 else
 some (n.gN == 1)
 else
 bif n.gKind == 5 then
 bif decide (n.gOp ≥ 1) then
 some (decide (n.gOp ≤ 3))
 else
 some false
 else
 bif n.gKind == 6 then
 bif decide (n.gOp ≥ 1) then
 some (decide (n.gOp ≤ 18))
 else
 some false
 else
 bif n.gKind == 8 then
 bif decide (n.gOp ≥ 1) then
 some (decide (n.gOp ≤ 12))
 else
 some false
 else
 bif n.gKind == 9 then
 (R.l1Integer n.gType).bind fun r2 =>
 some r2
 else
 bif n.gKind == 22 then
 bif decide (n.gType ≥ 1) then
 some (decide (n.gType ≤ 10))
 else
 some false
 else
 bif n.gKind == 23 then
 bif decide (n.gType ≥ 0) then
 some (decide (n.gType ≤ 10))
 else
 some false
 else
 some true
 else
 (R.l2Named n.gKind).bind fun r1 =>
 bif r1 then
 (R.l1NameOk n.gText).bind fun r2 =>
 bif !r2 then
 some false
 else
 bif n.gKind == 1 then
 (R.l1Integer n.gType).bind fun r3 =>
 bif r3 then
 (R.l1Max n.gType).bind fun r4 =>
 some (decide (IntKind.u64.wrap n.gN ≤ r4))
 else
 some false
 else
 bif n.gKind == 2 then
 some (decide ((↑n.gText.size : Int) ≤ 3000))
 else
 bif n.gKind == 3 then
 bif n.gN == 0 then
 some true
 else
 some (n.gN == 1)
 else
 bif n.gKind == 5 then
 bif decide (n.gOp ≥ 1) then
 some (decide (n.gOp ≤ 3))
 else
 some false
 else
 bif n.gKind == 6 then
 bif decide (n.gOp ≥ 1) then
 some (decide (n.gOp ≤ 18))
 else
 some false
 else
 bif n.gKind == 8 then
 bif decide (n.gOp ≥ 1) then
 some (decide (n.gOp ≤ 12))
 else
 some false
 else
 bif n.gKind == 9 then
 (R.l1Integer n.gType).bind fun r3 =>
 some r3
 else
 bif n.gKind == 22 then
 bif decide (n.gType ≥ 1) then
 some (decide (n.gType ≤ 10))
 else
 some false
 else
 bif n.gKind == 23 then
 bif decide (n.gType ≥ 0) then
 some (decide (n.gType ≤ 10))
 else
 some false
 else
 some true
 else
 bif n.gKind == 1 then
 (R.l1Integer n.gType).bind fun r2 =>
 bif r2 then
 (R.l1Max n.gType).bind fun r3 =>
 some (decide (IntKind.u64.wrap n.gN ≤ r3))
 else
 some false
 else
 bif n.gKind == 2 then
 some (decide ((↑n.gText.size : Int) ≤ 3000))
 else
 bif n.gKind == 3 then
 bif n.gN == 0 then
 some true
 else
 some (n.gN == 1)
 else
 bif n.gKind == 5 then
 bif decide (n.gOp ≥ 1) then
 some (decide (n.gOp ≤ 3))
 else
 some false
 else
 bif n.gKind == 6 then
 bif decide (n.gOp ≥ 1) then
 some (decide (n.gOp ≤ 18))
 else
 some false
 else
 bif n.gKind == 8 then
 bif decide (n.gOp ≥ 1) then
 some (decide (n.gOp ≤ 12))
 else
 some false
 else
 bif n.gKind == 9 then
 (R.l1Integer n.gType).bind fun r2 =>
 some r2
 else
 bif n.gKind == 22 then
 bif decide (n.gType ≥ 1) then
 some (decide (n.gType ≤ 10))
 else
 some false
 else
 bif n.gKind == 23 then
 bif decide (n.gType ≥ 0) then
 some (decide (n.gType ≤ 10))
 else
 some false
 else
 some true
 else
 bif !r0.snd.snd.snd then
 bif !bEq n.gText ((⟨#[]⟩ : ByteArray)) then
 some false
 else
 (R.l2Named n.gKind).bind fun r1 =>
 bif r1 then
 (R.l1NameOk n.gText).bind fun r2 =>
 bif !r2 then
 some false
 else
 bif n.gKind == 1 then
 (R.l1Integer n.gType).bind fun r3 =>
 bif r3 then
 (R.l1Max n.gType).bind fun r4 =>
 some (decide (IntKind.u64.wrap n.gN ≤ r4))
 else
 some false
 else
 bif n.gKind == 2 then
 some (decide ((↑n.gText.size : Int) ≤ 3000))
 else
 bif n.gKind == 3 then
 bif n.gN == 0 then
 some true
 else
 some (n.gN == 1)
 else
 bif n.gKind == 5 then
 bif decide (n.gOp ≥ 1) then
 some (decide (n.gOp ≤ 3))
 else
 some false
 else
 bif n.gKind == 6 then
 bif decide (n.gOp ≥ 1) then
 some (decide (n.gOp ≤ 18))
 else
 some false
 else
 bif n.gKind == 8 then
 bif decide (n.gOp ≥ 1) then
 some (decide (n.gOp ≤ 12))
 else
 some false
 else
 bif n.gKind == 9 then
 (R.l1Integer n.gType).bind fun r3 =>
 some r3
 else
 bif n.gKind == 22 then
 bif decide (n.gType ≥ 1) then
 some (decide (n.gType ≤ 10))
 else
 some false
 else
 bif n.gKind == 23 then
 bif decide (n.gType ≥ 0) then
 some (decide (n.gType ≤ 10))
 else
 some false
 else
 some true
 else
 bif n.gKind == 1 then
 (R.l1Integer n.gType).bind fun r2 =>
 bif r2 then
 (R.l1Max n.gType).bind fun r3 =>
 some (decide (IntKind.u64.wrap n.gN ≤ r3))
 else
 some false
 else
 bif n.gKind == 2 then
 some (decide ((↑n.gText.size : Int) ≤ 3000))
 else
 bif n.gKind == 3 then
 bif n.gN == 0 then
 some true
 else
 some (n.gN == 1)
 else
 bif n.gKind == 5 then
 bif decide (n.gOp ≥ 1) then
 some (decide (n.gOp ≤ 3))
 else
 some false
 else
 bif n.gKind == 6 then
 bif decide (n.gOp ≥ 1) then
 some (decide (n.gOp ≤ 18))
 else
 some false
 else
 bif n.gKind == 8 then
 bif decide (n.gOp ≥ 1) then
 some (decide (n.gOp ≤ 12))
 else
 some false
 else
 bif n.gKind == 9 then
 (R.l1Integer n.gType).bind fun r2 =>
 some r2
 else
 bif n.gKind == 22 then
 bif decide (n.gType ≥ 1) then
 some (decide (n.gType ≤ 10))
 else
 some false
 else
 bif n.gKind == 23 then
 bif decide (n.gType ≥ 0) then
 some (decide (n.gType ≤ 10))
 else
 some false
 else
 some true
 else
 (R.l2Named n.gKind).bind fun r1 =>
 bif r1 then
 (R.l1NameOk n.gText).bind fun r2 =>
 bif !r2 then
 some false
 else
 bif n.gKind == 1 then
 (R.l1Integer n.gType).bind fun r3 =>
 bif r3 then
 (R.l1Max n.gType).bind fun r4 =>
 some (decide (IntKind.u64.wrap n.gN ≤ r4))
 else
 some false
 else
 bif n.gKind == 2 then
 some (decide ((↑n.gText.size : Int) ≤ 3000))
 else
 bif n.gKind == 3 then
 bif n.gN == 0 then
 some true
 else
 some (n.gN == 1)
 else
 bif n.gKind == 5 then
 bif decide (n.gOp ≥ 1) then
 some (decide (n.gOp ≤ 3))
 else
 some false
 else
 bif n.gKind == 6 then
 bif decide (n.gOp ≥ 1) then
 some (decide (n.gOp ≤ 18))
 else
 some false
 else
 bif n.gKind == 8 then
 bif decide (n.gOp ≥ 1) then
 some (decide (n.gOp ≤ 12))
 else
 some false
 else
 bif n.gKind == 9 then
 (R.l1Integer n.gType).bind fun r3 =>
 some r3
 else
 bif n.gKind == 22 then
 bif decide (n.gType ≥ 1) then
 some (decide (n.gType ≤ 10))
 else
 some false
 else
 bif n.gKind == 23 then
 bif decide (n.gType ≥ 0) then
 some (decide (n.gType ≤ 10))
 else
 some false
 else
 some true
 else
 bif n.gKind == 1 then
 (R.l1Integer n.gType).bind fun r2 =>
 bif r2 then
 (R.l1Max n.gType).bind fun r3 =>
 some (decide (IntKind.u64.wrap n.gN ≤ r3))
 else
 some false
 else
 bif n.gKind == 2 then
 some (decide ((↑n.gText.size : Int) ≤ 3000))
 else
 bif n.gKind == 3 then
 bif n.gN == 0 then
 some true
 else
 some (n.gN == 1)
 else
 bif n.gKind == 5 then
 bif decide (n.gOp ≥ 1) then
 some (decide (n.gOp ≤ 3))
 else
 some false
 else
 bif n.gKind == 6 then
 bif decide (n.gOp ≥ 1) then
 some (decide (n.gOp ≤ 18))
 else
 some false
 else
 bif n.gKind == 8 then
 bif decide (n.gOp ≥ 1) then
 some (decide (n.gOp ≤ 12))
 else
 some false
 else
 bif n.gKind == 9 then
 (R.l1Integer n.gType).bind fun r2 =>
 some r2
 else
 bif n.gKind == 22 then
 bif decide (n.gType ≥ 1) then
 some (decide (n.gType ≤ 10))
 else
 some false
 else
 bif n.gKind == 23 then
 bif decide (n.gType ≥ 0) then
 some (decide (n.gType ≤ 10))
 else
 some false
 else
 some true
 else
 bif !r0.snd.snd.fst then
 bif n.gN != 0 then
 some false
 else
 bif !r0.snd.snd.snd then
 bif !bEq n.gText ((⟨#[]⟩ : ByteArray)) then
 some false
 else
 (R.l2Named n.gKind).bind fun r1 =>
 bif r1 then
 (R.l1NameOk n.gText).bind fun r2 =>
 bif !r2 then
 some false
 else
 bif n.gKind == 1 then
 (R.l1Integer n.gType).bind fun r3 =>
 bif r3 then
 (R.l1Max n.gType).bind fun r4 =>
 some (decide (IntKind.u64.wrap n.gN ≤ r4))
 else
 some false
 else
 bif n.gKind == 2 then
 some (decide ((↑n.gText.size : Int) ≤ 3000))
 else
 bif n.gKind == 3 then
 bif n.gN == 0 then
 some true
 else
 some (n.gN == 1)
 else
 bif n.gKind == 5 then
 bif decide (n.gOp ≥ 1) then
 some (decide (n.gOp ≤ 3))
 else
 some false
 else
 bif n.gKind == 6 then
 bif decide (n.gOp ≥ 1) then
 some (decide (n.gOp ≤ 18))
 else
 some false
 else
 bif n.gKind == 8 then
 bif decide (n.gOp ≥ 1) then
 some (decide (n.gOp ≤ 12))
 else
 some false
 else
 bif n.gKind == 9 then
 (R.l1Integer n.gType).bind fun r3 =>
 some r3
 else
 bif n.gKind == 22 then
 bif decide (n.gType ≥ 1) then
 some (decide (n.gType ≤ 10))
 else
 some false
 else
 bif n.gKind == 23 then
 bif decide (n.gType ≥ 0) then
 some (decide (n.gType ≤ 10))
 else
 some false
 else
 some true
 else
 bif n.gKind == 1 then
 (R.l1Integer n.gType).bind fun r2 =>
 bif r2 then
 (R.l1Max n.gType).bind fun r3 =>
 some (decide (IntKind.u64.wrap n.gN ≤ r3))
 else
 some false
 else
 bif n.gKind == 2 then
 some (decide ((↑n.gText.size : Int) ≤ 3000))
 else
 bif n.gKind == 3 then
 bif n.gN == 0 then
 some true
 else
 some (n.gN == 1)
 else
 bif n.gKind == 5 then
 bif decide (n.gOp ≥ 1) then
 some (decide (n.gOp ≤ 3))
 else
 some false
 else
 bif n.gKind == 6 then
 bif decide (n.gOp ≥ 1) then
 some (decide (n.gOp ≤ 18))
 else
 some false
 else
 bif n.gKind == 8 then
 bif decide (n.gOp ≥ 1) then
 some (decide (n.gOp ≤ 12))
 else
 some false
 else
 bif n.gKind == 9 then
 (R.l1Integer n.gType).bind fun r2 =>
 some r2
 else
 bif n.gKind == 22 then
 bif decide (n.gType ≥ 1) then
 some (decide (n.gType ≤ 10))
 else
 some false
 else
 bif n.gKind == 23 then
 bif decide (n.gType ≥ 0) then
 some (decide (n.gType ≤ 10))
 else
 some false
 else
 some true
 else
 (R.l2Named n.gKind).bind fun r1 =>
 bif r1 then
 (R.l1NameOk n.gText).bind fun r2 =>
 bif !r2 then
 some false
 else
 bif n.gKind == 1 then
 (R.l1Integer n.gType).bind fun r3 =>
 bif r3 then
 (R.l1Max n.gType).bind fun r4 =>
 some (decide (IntKind.u64.wrap n.gN ≤ r4))
 else
 some false
 else
 bif n.gKind == 2 then
 some (decide ((↑n.gText.size : Int) ≤ 3000))
 else
 bif n.gKind == 3 then
 bif n.gN == 0 then
 some true
 else
 some (n.gN == 1)
 else
 bif n.gKind == 5 then
 bif decide (n.gOp ≥ 1) then
 some (decide (n.gOp ≤ 3))
 else
 some false
 else
 bif n.gKind == 6 then
 bif decide (n.gOp ≥ 1) then
 some (decide (n.gOp ≤ 18))
 else
 some false
 else
 bif n.gKind == 8 then
 bif decide (n.gOp ≥ 1) then
 some (decide (n.gOp ≤ 12))
 else
 some false
 else
 bif n.gKind == 9 then
 (R.l1Integer n.gType).bind fun r3 =>
 some r3
 else
 bif n.gKind == 22 then
 bif decide (n.gType ≥ 1) then
 some (decide (n.gType ≤ 10))
 else
 some false
 else
 bif n.gKind == 23 then
 bif decide (n.gType ≥ 0) then
 some (decide (n.gType ≤ 10))
 else
 some false
 else
 some true
 else
 bif n.gKind == 1 then
 (R.l1Integer n.gType).bind fun r2 =>
 bif r2 then
 (R.l1Max n.gType).bind fun r3 =>
 some (decide (IntKind.u64.wrap n.gN ≤ r3))
 else
 some false
 else
 bif n.gKind == 2 then
 some (decide ((↑n.gText.size : Int) ≤ 3000))
 else
 bif n.gKind == 3 then
 bif n.gN == 0 then
 some true
 else
 some (n.gN == 1)
 else
 bif n.gKind == 5 then
 bif decide (n.gOp ≥ 1) then
 some (decide (n.gOp ≤ 3))
 else
 some false
 else
 bif n.gKind == 6 then
 bif decide (n.gOp ≥ 1) then
 some (decide (n.gOp ≤ 18))
 else
 some false
 else
 bif n.gKind == 8 then
 bif decide (n.gOp ≥ 1) then
 some (decide (n.gOp ≤ 12))
 else
 some false
 else
 bif n.gKind == 9 then
 (R.l1Integer n.gType).bind fun r2 =>
 some r2
 else
 bif n.gKind == 22 then
 bif decide (n.gType ≥ 1) then
 some (decide (n.gType ≤ 10))
 else
 some false
 else
 bif n.gKind == 23 then
 bif decide (n.gType ≥ 0) then
 some (decide (n.gType ≤ 10))
 else
 some false
 else
 some true
 else
 bif !r0.snd.snd.snd then
 bif !bEq n.gText ((⟨#[]⟩ : ByteArray)) then
 some false
 else
 (R.l2Named n.gKind).bind fun r1 =>
 bif r1 then
 (R.l1NameOk n.gText).bind fun r2 =>
 bif !r2 then
 some false
 else
 bif n.gKind == 1 then
 (R.l1Integer n.gType).bind fun r3 =>
 bif r3 then
 (R.l1Max n.gType).bind fun r4 =>
 some (decide (IntKind.u64.wrap n.gN ≤ r4))
 else
 some false
 else
 bif n.gKind == 2 then
 some (decide ((↑n.gText.size : Int) ≤ 3000))
 else
 bif n.gKind == 3 then
 bif n.gN == 0 then
 some true
 else
 some (n.gN == 1)
 else
 bif n.gKind == 5 then
 bif decide (n.gOp ≥ 1) then
 some (decide (n.gOp ≤ 3))
 else
 some false
 else
 bif n.gKind == 6 then
 bif decide (n.gOp ≥ 1) then
 some (decide (n.gOp ≤ 18))
 else
 some false
 else
 bif n.gKind == 8 then
 bif decide (n.gOp ≥ 1) then
 some (decide (n.gOp ≤ 12))
 else
 some false
 else
 bif n.gKind == 9 then
 (R.l1Integer n.gType).bind fun r3 =>
 some r3
 else
 bif n.gKind == 22 then
 bif decide (n.gType ≥ 1) then
 some (decide (n.gType ≤ 10))
 else
 some false
 else
 bif n.gKind == 23 then
 bif decide (n.gType ≥ 0) then
 some (decide (n.gType ≤ 10))
 else
 some false
 else
 some true
 else
 bif n.gKind == 1 then
 (R.l1Integer n.gType).bind fun r2 =>
 bif r2 then
 (R.l1Max n.gType).bind fun r3 =>
 some (decide (IntKind.u64.wrap n.gN ≤ r3))
 else
 some false
 else
 bif n.gKind == 2 then
 some (decide ((↑n.gText.size : Int) ≤ 3000))
 else
 bif n.gKind == 3 then
 bif n.gN == 0 then
 some true
 else
 some (n.gN == 1)
 else
 bif n.gKind == 5 then
 bif decide (n.gOp ≥ 1) then
 some (decide (n.gOp ≤ 3))
 else
 some false
 else
 bif n.gKind == 6 then
 bif decide (n.gOp ≥ 1) then
 some (decide (n.gOp ≤ 18))
 else
 some false
 else
 bif n.gKind == 8 then
 bif decide (n.gOp ≥ 1) then
 some (decide (n.gOp ≤ 12))
 else
 some false
 else
 bif n.gKind == 9 then
 (R.l1Integer n.gType).bind fun r2 =>
 some r2
 else
 bif n.gKind == 22 then
 bif decide (n.gType ≥ 1) then
 some (decide (n.gType ≤ 10))
 else
 some false
 else
 bif n.gKind == 23 then
 bif decide (n.gType ≥ 0) then
 some (decide (n.gType ≤ 10))
 else
 some false
 else
 some true
 else
 (R.l2Named n.gKind).bind fun r1 =>
 bif r1 then
 (R.l1NameOk n.gText).bind fun r2 =>
 bif !r2 then
 some false
 else
 bif n.gKind == 1 then
 (R.l1Integer n.gType).bind fun r3 =>
 bif r3 then
 (R.l1Max n.gType).bind fun r4 =>
 some (decide (IntKind.u64.wrap n.gN ≤ r4))
 else
 some false
 else
 bif n.gKind == 2 then
 some (decide ((↑n.gText.size : Int) ≤ 3000))
 else
 bif n.gKind == 3 then
 bif n.gN == 0 then
 some true
 else
 some (n.gN == 1)
 else
 bif n.gKind == 5 then
 bif decide (n.gOp ≥ 1) then
 some (decide (n.gOp ≤ 3))
 else
 some false
 else
 bif n.gKind == 6 then
 bif decide (n.gOp ≥ 1) then
 some (decide (n.gOp ≤ 18))
 else
 some false
 else
 bif n.gKind == 8 then
 bif decide (n.gOp ≥ 1) then
 some (decide (n.gOp ≤ 12))
 else
 some false
 else
 bif n.gKind == 9 then
 (R.l1Integer n.gType).bind fun r3 =>
 some r3
 else
 bif n.gKind == 22 then
 bif decide (n.gType ≥ 1) then
 some (decide (n.gType ≤ 10))
 else
 some false
 else
 bif n.gKind == 23 then
 bif decide (n.gType ≥ 0) then
 some (decide (n.gType ≤ 10))
 else
 some false
 else
 some true
 else
 bif n.gKind == 1 then
 (R.l1Integer n.gType).bind fun r2 =>
 bif r2 then
 (R.l1Max n.gType).bind fun r3 =>
 some (decide (IntKind.u64.wrap n.gN ≤ r3))
 else
 some false
 else
 bif n.gKind == 2 then
 some (decide ((↑n.gText.size : Int) ≤ 3000))
 else
 bif n.gKind == 3 then
 bif n.gN == 0 then
 some true
 else
 some (n.gN == 1)
 else
 bif n.gKind == 5 then
 bif decide (n.gOp ≥ 1) then
 some (decide (n.gOp ≤ 3))
 else
 some false
 else
 bif n.gKind == 6 then
 bif decide (n.gOp ≥ 1) then
 some (decide (n.gOp ≤ 18))
 else
 some false
 else
 bif n.gKind == 8 then
 bif decide (n.gOp ≥ 1) then
 some (decide (n.gOp ≤ 12))
 else
 some false
 else
 bif n.gKind == 9 then
 (R.l1Integer n.gType).bind fun r2 =>
 some r2
 else
 bif n.gKind == 22 then
 bif decide (n.gType ≥ 1) then
 some (decide (n.gType ≤ 10))
 else
 some false
 else
 bif n.gKind == 23 then
 bif decide (n.gType ≥ 0) then
 some (decide (n.gType ≤ 10))
 else
 some false
 else
 some true :=
 (fnA_eq 22 [PV.st (cells 51 n)] rfl).trans (by kernel_rfl)
theorem R.l2E_eq (kind : Int) : R.l2E kind =
 bif decide (kind ≥ 1) then
 some (decide (kind ≤ 9))
 else
 some false :=
 (fnA_eq 40 [PV.i IntKind.i64 kind] rfl).trans (by kernel_rfl)
noncomputable def R.l2AllE.l52 (kinds : List Int) (i : Int) : Option Bool := Y.runA 41 (fun ct c => at_ ct [true, false, true, false, false] c) ⟨[(0, .fl 3 kinds), (3, .i IntKind.i64 i)], [], [], [], []⟩
theorem R.l2AllE_eq (kinds : List Int) : R.l2AllE kinds =
 R.l2AllE.l52 kinds 0 :=
 (fnA_eq 41 [PV.fl 3 kinds] rfl).trans (by kernel_rfl)
theorem R.l2AllE.l52_eq (kinds : List Int) (i : Int) : R.l2AllE.l52 kinds i =
 bif decide (i < (↑kinds.length : Int)) then
 bif inB i kinds.length then
 (R.l2E (kinds.getD i.toNat 0)).bind fun r0 =>
 bif !r0 then
 some false
 else
 R.l2AllE.l52 kinds (IntKind.i64.wrap (i + 1))
 else
 none
 else
 some true :=
 (runA_eq 41 _ _).trans (by kernel_rfl)
theorem R.l2S_eq (kind : Int) : R.l2S kind =
 bif decide (kind ≥ 10) then
 some (decide (kind ≤ 20))
 else
 some false :=
 (fnA_eq 43 [PV.i IntKind.i64 kind] rfl).trans (by kernel_rfl)
noncomputable def R.l2Fits.l117 (kinds : List Int) (k : Int) (t14 : Int) (t15 : Bool) (n : TNode) : Option Bool := Y.runA 23 (fun ct c => at_ ct [true, true, false, true, false, true] c) ⟨[(1, .fl 3 kinds), (2, .ad (.loc 2) 0), (5, .i IntKind.i64 k), (14, .i IntKind.i64 t14), (15, .b t15)], [(2, cells 51 n)], [], [], []⟩
noncomputable def R.l2Fits.l471 (kinds : List Int) (k : Int) (t14 : Int) (t25 : Bool) (n : TNode) : Option Bool := Y.runA 23 (fun ct c => at_ ct [true, true, false, true, false, true, true, true] c) ⟨[(1, .fl 3 kinds), (2, .ad (.loc 2) 0), (5, .i IntKind.i64 k), (14, .i IntKind.i64 t14), (25, .b t25)], [(2, cells 51 n)], [], [], []⟩
noncomputable def R.l2Fits.l1887 (kinds : List Int) (k : Int) (t14 : Int) (t40 : Bool) (n : TNode) : Option Bool := Y.runA 23 (fun ct c => at_ ct [true, true, false, true, false, true, true, true, true, true] c) ⟨[(1, .fl 3 kinds), (2, .ad (.loc 2) 0), (5, .i IntKind.i64 k), (14, .i IntKind.i64 t14), (40, .b t40)], [(2, cells 51 n)], [], [], []⟩
noncomputable def R.l2Fits.l989855716 (kinds : List Int) (k : Int) (i : Int) : Option Bool := Y.runA 23 (fun ct c => at_ ct [true, true, false, true, false, true, true, true, true, true, true, true, true, true, true, true, true, true, true, true, true, true, true, true, false, false, true, false, false] c) ⟨[(1, .fl 3 kinds), (5, .i IntKind.i64 k), (8, .i IntKind.i64 i)], [], [], [], []⟩
noncomputable def R.l2Fits.l3959422948 (kinds : List Int) (k : Int) (i : Int) : Option Bool := Y.runA 23 (fun ct c => at_ ct [true, true, false, true, false, true, true, true, true, true, true, true, true, true, true, true, true, true, true, true, true, true, true, true, true, true, false, false, true, false, false] c) ⟨[(1, .fl 3 kinds), (5, .i IntKind.i64 k), (9, .i IntKind.i64 i)], [], [], [], []⟩
noncomputable def R.l2Fits.l15837691876 (kinds : List Int) (k : Int) (i : Int) : Option Bool := Y.runA 23 (fun ct c => at_ ct [true, true, false, true, false, true, true, true, true, true, true, true, true, true, true, true, true, true, true, true, true, true, true, true, true, true, true, true, false, false, true, false, false] c) ⟨[(1, .fl 3 kinds), (5, .i IntKind.i64 k), (10, .i IntKind.i64 i)], [], [], [], []⟩
theorem R.l2Fits_eq (n : TNode) (kinds : List Int) : R.l2Fits n kinds =
 bif n.gKind == 1 then
 R.l2Fits.l117 kinds (↑kinds.length : Int) n.gKind (n.gKind == 1) n
 else
 bif n.gKind == 2 then
 R.l2Fits.l117 kinds (↑kinds.length : Int) n.gKind (n.gKind == 2) n
 else
 bif n.gKind == 3 then
 R.l2Fits.l117 kinds (↑kinds.length : Int) n.gKind (n.gKind == 3) n
 else
 bif n.gKind == 4 then
 R.l2Fits.l117 kinds (↑kinds.length : Int) n.gKind (n.gKind == 4) n
 else
 bif n.gKind == 14 then
 R.l2Fits.l117 kinds (↑kinds.length : Int) n.gKind (n.gKind == 14) n
 else
 bif n.gKind == 15 then
 R.l2Fits.l117 kinds (↑kinds.length : Int) n.gKind (n.gKind == 15) n
 else
 R.l2Fits.l117 kinds (↑kinds.length : Int) n.gKind (n.gKind == 22) n :=
 (fnA_eq 23 [PV.st (cells 51 n), PV.fl 3 kinds] rfl).trans (by kernel_rfl)
theorem R.l2Fits.l117_eq (kinds : List Int) (k : Int) (t14 : Int) (t15 : Bool) (n : TNode) : R.l2Fits.l117 kinds k t14 t15 n =
 bif t15 then
 some (k == 0)
 else
 bif t14 == 5 then
 R.l2Fits.l471 kinds k t14 (t14 == 5) n
 else
 bif t14 == 9 then
 R.l2Fits.l471 kinds k t14 (t14 == 9) n
 else
 bif t14 == 10 then
 R.l2Fits.l471 kinds k t14 (t14 == 10) n
 else
 bif t14 == 11 then
 R.l2Fits.l471 kinds k t14 (t14 == 11) n
 else
 bif t14 == 17 then
 R.l2Fits.l471 kinds k t14 (t14 == 17) n
 else
 R.l2Fits.l471 kinds k t14 (t14 == 19) n :=
 (runA_eq 23 _ _).trans (by kernel_rfl)
theorem R.l2Fits.l471_eq (kinds : List Int) (k : Int) (t14 : Int) (t25 : Bool) (n : TNode) : R.l2Fits.l471 kinds k t14 t25 n =
 bif t25 then
 bif k == 1 then
 bif inB 0 kinds.length then
 (R.l2E (kinds.getD 0 0)).bind fun r0 =>
 some r0
 else
 none
 else
 some false
 else
 bif t14 == 6 then
 R.l2Fits.l1887 kinds k t14 (t14 == 6) n
 else
 R.l2Fits.l1887 kinds k t14 (t14 == 18) n :=
 (runA_eq 23 _ _).trans (by kernel_rfl)
theorem R.l2Fits.l1887_eq (kinds : List Int) (k : Int) (t14 : Int) (t40 : Bool) (n : TNode) : R.l2Fits.l1887 kinds k t14 t40 n =
 bif t40 then
 bif k == 2 then
 (R.l2AllE kinds).bind fun r0 =>
 some r0
 else
 some false
 else
 bif t14 == 7 then
 bif decide (k ≤ 8) then
 (R.l2AllE kinds).bind fun r0 =>
 some r0
 else
 some false
 else
 bif t14 == 8 then
 (R.l1BuiltWord n.gOp).bind fun r0 =>
 bif k == r0.snd then
 (R.l2AllE kinds).bind fun r1 =>
 some r1
 else
 some false
 else
 bif t14 == 12 then
 bif decide (k ≥ 2) then
 bif decide (k ≤ 3) then
 bif inB 0 kinds.length then
 (R.l2E (kinds.getD 0 0)).bind fun r0 =>
 bif r0 then
 bif inB 1 kinds.length then
 bif kinds.getD 1 0 == 21 then
 bif k == 2 then
 some true
 else
 bif inB 2 kinds.length then
 bif kinds.getD 2 0 == 21 then
 some true
 else
 bif inB 2 kinds.length then
 some (kinds.getD 2 0 == 12)
 else
 none
 else
 none
 else
 some false
 else
 none
 else
 some false
 else
 none
 else
 some false
 else
 some false
 else
 bif t14 == 13 then
 bif k == 2 then
 bif inB 0 kinds.length then
 (R.l2E (kinds.getD 0 0)).bind fun r0 =>
 bif r0 then
 bif inB 1 kinds.length then
 some (kinds.getD 1 0 == 21)
 else
 none
 else
 some false
 else
 none
 else
 some false
 else
 bif t14 == 16 then
 bif decide (k ≤ 1) then
 (R.l2AllE kinds).bind fun r0 =>
 some r0
 else
 some false
 else
 bif t14 == 20 then
 bif k == 1 then
 bif inB 0 kinds.length then
 some (kinds.getD 0 0 == 7)
 else
 none
 else
 some false
 else
 bif t14 == 21 then
 R.l2Fits.l989855716 kinds k 0
 else
 bif t14 == 23 then
 R.l2Fits.l3959422948 kinds k 0
 else
 bif t14 == 24 then
 R.l2Fits.l15837691876 kinds k 0
 else
 some false :=
 (runA_eq 23 _ _).trans (by kernel_rfl)
theorem R.l2Fits.l989855716_eq (kinds : List Int) (k : Int) (i : Int) : R.l2Fits.l989855716 kinds k i =
 bif decide (i < k) then
 bif inB i kinds.length then
 (R.l2S (kinds.getD i.toNat 0)).bind fun r0 =>
 bif !r0 then
 some false
 else
 R.l2Fits.l989855716 kinds k (IntKind.i64.wrap (i + 1))
 else
 none
 else
 some true :=
 (runA_eq 23 _ _).trans (by kernel_rfl)
theorem R.l2Fits.l3959422948_eq (kinds : List Int) (k : Int) (i : Int) : R.l2Fits.l3959422948 kinds k i =
 bif decide (IntKind.i64.wrap (i + 1) < k) then
 bif inB i kinds.length then
 bif kinds.getD i.toNat 0 != 22 then
 some false
 else
 R.l2Fits.l3959422948 kinds k (IntKind.i64.wrap (i + 1))
 else
 none
 else
 bif decide (k ≥ 1) then
 bif decide (IntKind.i64.wrap (k - 1) ≤ 8) then
 bif inB (IntKind.i64.wrap (k - 1)) kinds.length then
 some (kinds.getD (IntKind.i64.wrap (k - 1)).toNat 0 == 21)
 else
 none
 else
 some false
 else
 some false :=
 (runA_eq 23 _ _).trans (by kernel_rfl)
theorem R.l2Fits.l15837691876_eq (kinds : List Int) (k : Int) (i : Int) : R.l2Fits.l15837691876 kinds k i =
 bif decide (i < k) then
 bif inB i kinds.length then
 bif kinds.getD i.toNat 0 != 23 then
 some false
 else
 R.l2Fits.l15837691876 kinds k (IntKind.i64.wrap (i + 1))
 else
 none
 else
 bif decide (k ≥ 1) then
 some (decide (k ≤ 60))
 else
 some false :=
 (runA_eq 23 _ _).trans (by kernel_rfl)
noncomputable def R.ValidTree.l500 (kids : List (List Int)) (high : List Int) (i : Int) (t : TTree) : Option Bool := Y.runA 10 (fun ct c => at_ ct [true, true, true, true, false, true, false, false] c) ⟨[(1, .ad (.loc 1) 0), (3, .fl 42 kids), (5, .ol 3 high), (6, .i IntKind.i64 i)], [(1, cells 29 t)], [], [], []⟩
noncomputable def R.ValidTree.l256308 (kids : List (List Int)) (high : List Int) (i : Int) (kinds : List Int) (h0 : Int) (k : Int) (t : TTree) : Option Bool := Y.runA 10 (fun ct c => at_ ct [true, true, true, true, false, true, false, false, true, false, false, true, true, false, true, false, false] c) ⟨[(1, .ad (.loc 1) 0), (3, .fl 42 kids), (5, .ol 3 high), (6, .i IntKind.i64 i), (7, .ol 3 kinds), (8, .i IntKind.i64 h0), (9, .i IntKind.i64 k)], [(1, cells 29 t)], [], [], []⟩
theorem R.ValidTree_eq (t : TTree) : R.ValidTree t =
 (R.l2Kids t).bind fun r0 =>
 bif !r0.snd then
 some false
 else
 R.ValidTree.l500 r0.fst ([]) 0 t :=
 (fnA_eq 10 [PV.st (cells 29 t)] rfl).trans (by kernel_rfl)
theorem R.ValidTree.l500_eq (kids : List (List Int)) (high : List Int) (i : Int) (t : TTree) : R.ValidTree.l500 kids high i t =
 bif decide (i < (↑(List.length kids) : Int)) then
 R.ValidTree.l256308 kids high i ([]) 0 0 t
 else
 bif inB (IntKind.i64.wrap ((↑t.gNodes.length : Int) - 1)) t.gNodes.length then
 some ((t.gNodes.getD (IntKind.i64.wrap ((↑t.gNodes.length : Int) - 1)).toNat TNode.z).gKind == 24)
 else
 none :=
 (runA_eq 10 _ _).trans (by kernel_rfl)
theorem R.ValidTree.l256308_eq (kids : List (List Int)) (high : List Int) (i : Int) (kinds : List Int) (h0 : Int) (k : Int) (t : TTree) : R.ValidTree.l256308 kids high i kinds h0 k t =
 bif inB i (List.length kids) then
 bif decide (k < (↑(List.length (List.getD kids i.toNat [])) : Int)) then
 bif inB i (List.length kids) then
 bif inB k (List.length (List.getD kids i.toNat [])) then
 bif inB (List.getD (List.getD kids i.toNat []) k.toNat 0) t.gNodes.length then
 bif room (kinds.length + [(t.gNodes.getD (Int.toNat (List.getD (List.getD kids i.toNat []) k.toNat 0)) TNode.z).gKind].length) 8 then
 bif inB i (List.length kids) then
 bif inB k (List.length (List.getD kids i.toNat [])) then
 bif inB (List.getD (List.getD kids i.toNat []) k.toNat 0) high.length then
 bif decide (IntKind.i64.wrap (high.getD (Int.toNat (List.getD (List.getD kids i.toNat []) k.toNat 0)) 0 + 1) > h0) then
 bif inB i (List.length kids) then
 bif inB k (List.length (List.getD kids i.toNat [])) then
 bif inB (List.getD (List.getD kids i.toNat []) k.toNat 0) high.length then
 R.ValidTree.l256308 kids high i (kinds ++ [(t.gNodes.getD (Int.toNat (List.getD (List.getD kids i.toNat []) k.toNat 0)) TNode.z).gKind]) (IntKind.i64.wrap (high.getD (Int.toNat (List.getD (List.getD kids i.toNat []) k.toNat 0)) 0 + 1)) (IntKind.i64.wrap (k + 1)) t
 else
 none
 else
 none
 else
 none
 else
 R.ValidTree.l256308 kids high i (kinds ++ [(t.gNodes.getD (Int.toNat (List.getD (List.getD kids i.toNat []) k.toNat 0)) TNode.z).gKind]) h0 (IntKind.i64.wrap (k + 1)) t
 else
 none
 else
 none
 else
 none
 else
 none
 else
 none
 else
 none
 else
 none
 else
 bif room (high.length + [h0].length) 8 then
 bif decide (h0 > 60) then
 some false
 else
 bif inB i t.gNodes.length then
 (R.l2Fields (t.gNodes.getD i.toNat TNode.z)).bind fun r0 =>
 bif !r0 then
 some false
 else
 bif inB i t.gNodes.length then
 (R.l2Fits (t.gNodes.getD i.toNat TNode.z) kinds).bind fun r1 =>
 bif !r1 then
 some false
 else
 R.ValidTree.l500 kids (high ++ [h0]) (IntKind.i64.wrap (i + 1)) t
 else
 none
 else
 none
 else
 none
 else
 none :=
 (runA_eq 10 _ _).trans (by kernel_rfl)
theorem R.l1Decimal_eq (n : Int) : R.l1Decimal n =
 bif decide (n < 10) then
 some (strOfBytes (List.map (fun (x : Int) ↦ x) [IntKind.u8.wrap (IntKind.u64.wrap (48 + n))]))
 else
 (R.l1Decimal (IntKind.u64.wrap (n.tdiv 10))).bind fun r0 =>
 bif decide (ByteArray.size r0 + (strOfBytes (List.map (fun (x : Int) ↦ x) [IntKind.u8.wrap (IntKind.u64.wrap (48 + n.tmod 10))])).size < 2 ^ 62) then
 some (r0 ++ strOfBytes (List.map (fun (x : Int) ↦ x) [IntKind.u8.wrap (IntKind.u64.wrap (48 + n.tmod 10))]))
 else
 none :=
 (fnA_eq 74 [PV.i IntKind.u64 n] rfl).trans (by kernel_rfl)
theorem R.l1Bare_eq (b : Int) : R.l1Bare b =
 bif decide (b ≥ 32) then
 bif decide (b ≤ 126) then
 bif b != 34 then
 some (b != 92)
 else
 some false
 else
 some false
 else
 some false :=
 (fnA_eq 87 [PV.i IntKind.u8 b] rfl).trans (by kernel_rfl)
noncomputable def R.l1Quote.l244 (s : ByteArray) (out : List Int) (digits : ByteArray) (i : Int) : Option ByteArray := Y.runA 75 (fun ct c => at_ ct [true, true, true, false, true, false, false] c) ⟨[(0, .s s), (3, .ol 5 out), (4, .s digits), (5, .i IntKind.i64 i)], [], [], [], []⟩
theorem R.l1Quote_eq (s : ByteArray) : R.l1Quote s =
 R.l1Quote.l244 s ([34]) ((⟨#[48, 49, 50, 51, 52, 53, 54, 55, 56, 57, 97, 98, 99, 100, 101, 102]⟩ : ByteArray)) 0 :=
 (fnA_eq 75 [PV.s s] rfl).trans (by kernel_rfl)
theorem R.l1Quote.l244_eq (s : ByteArray) (out : List Int) (digits : ByteArray) (i : Int) : R.l1Quote.l244 s out digits i =
 bif decide (i < (↑s.size : Int)) then
 bif inB i s.size then
 (R.l1Bare (bt s i)).bind fun r0 =>
 bif r0 then
 bif inB i s.size then
 bif room (out.length + [bt s i].length) 1 then
 R.l1Quote.l244 s (out ++ [bt s i]) digits (IntKind.i64.wrap (i + 1))
 else
 none
 else
 none
 else
 bif inB i s.size then
 bif inB (IntKind.u8.wrap ((bt s i).tdiv 16)) digits.size then
 bif inB i s.size then
 bif inB ((bt s i).tmod 16) digits.size then
 bif room (out.length + [92, bt digits (IntKind.u8.wrap ((bt s i).tdiv 16)), bt digits ((bt s i).tmod 16)].length) 1 then
 R.l1Quote.l244 s (out ++ [92, bt digits (IntKind.u8.wrap ((bt s i).tdiv 16)), bt digits ((bt s i).tmod 16)]) digits (IntKind.i64.wrap (i + 1))
 else
 none
 else
 none
 else
 none
 else
 none
 else
 none
 else
 none
 else
 bif room (out.length + [34].length) 1 then
 some (strOfBytes (List.map (fun (x : Int) ↦ x) (out ++ [34])))
 else
 none :=
 (runA_eq 75 _ _).trans (by kernel_rfl)
theorem R.l2UnMark_eq (op : Int) : R.l2UnMark op =
 bif op == 1 then
 some ((⟨#[45]⟩ : ByteArray))
 else
 bif op == 2 then
 some ((⟨#[33]⟩ : ByteArray))
 else
 some ((⟨#[126]⟩ : ByteArray)) :=
 (fnA_eq 76 [PV.i IntKind.i64 op] rfl).trans (by kernel_rfl)
theorem R.l2Pen_held_eq (p : (List TNode × List (List Int))) (k : Int) : R.l2Pen_held p k =
 bif inB k p.fst.length then
 bif (p.fst.getD k.toNat TNode.z).gKind == 6 then
 (R.l2Pen_expr p k).bind fun r0 =>
 bif decide (((⟨#[40]⟩ : ByteArray)).size + ByteArray.size r0.fst < 2 ^ 62) then
 bif decide (((⟨#[40]⟩ : ByteArray) ++ r0.fst).size + ((⟨#[41]⟩ : ByteArray)).size < 2 ^ 62) then
 some ((⟨#[40]⟩ : ByteArray) ++ r0.fst ++ ⟨#[41]⟩, (r0.snd.fst, r0.snd.snd))
 else
 none
 else
 none
 else
 (R.l2Pen_expr p k).bind fun r0 =>
 some (r0.fst, (r0.snd.fst, r0.snd.snd))
 else
 none :=
 (fnB_eq 77 [PV.ad (Base.obj 0) 0, PV.i IntKind.i64 k] [[PV.fl 51 p.fst, PV.fl 42 p.snd]] rfl).trans (by kernel_rfl)
theorem R.l2Mark_eq (op : Int) : R.l2Mark op =
 bif op == 1 then
 some ((⟨#[124, 124]⟩ : ByteArray), 1)
 else
 bif op == 2 then
 some ((⟨#[38, 38]⟩ : ByteArray), 2)
 else
 bif op == 3 then
 some ((⟨#[61, 61]⟩ : ByteArray), 3)
 else
 bif op == 4 then
 some ((⟨#[33, 61]⟩ : ByteArray), 3)
 else
 bif op == 5 then
 some ((⟨#[60]⟩ : ByteArray), 3)
 else
 bif op == 6 then
 some ((⟨#[60, 61]⟩ : ByteArray), 3)
 else
 bif op == 7 then
 some ((⟨#[62]⟩ : ByteArray), 3)
 else
 bif op == 8 then
 some ((⟨#[62, 61]⟩ : ByteArray), 3)
 else
 bif op == 9 then
 some ((⟨#[43]⟩ : ByteArray), 4)
 else
 bif op == 10 then
 some ((⟨#[45]⟩ : ByteArray), 4)
 else
 bif op == 11 then
 some ((⟨#[124]⟩ : ByteArray), 4)
 else
 bif op == 12 then
 some ((⟨#[94]⟩ : ByteArray), 4)
 else
 bif op == 13 then
 some ((⟨#[42]⟩ : ByteArray), 5)
 else
 bif op == 14 then
 some ((⟨#[47]⟩ : ByteArray), 5)
 else
 bif op == 15 then
 some ((⟨#[37]⟩ : ByteArray), 5)
 else
 bif op == 16 then
 some ((⟨#[38]⟩ : ByteArray), 5)
 else
 bif op == 17 then
 some ((⟨#[60, 60]⟩ : ByteArray), 5)
 else
 bif op == 18 then
 some ((⟨#[62, 62]⟩ : ByteArray), 5)
 else
 some ((⟨#[]⟩ : ByteArray), 0) :=
 (fnA_eq 78 [PV.i IntKind.i64 op] rfl).trans (by kernel_rfl)
noncomputable def R.l2Pen_list.l116 (ks : List Int) (out : List Int) (i : Int) (m : List TNode) (m_1 : List (List Int)) : Option ((ByteArray × (List TNode × List (List Int)))) := Y.runB 59 (fun ct c => at_ ct [true, true, false, true, false, false] c) ⟨[(0, .ad (.obj 0) 0), (1, .fl 3 ks), (5, .ol 5 out), (6, .i IntKind.i64 i)], [], [[.fl 51 m, .fl 42 m_1]], [], []⟩
theorem R.l2Pen_list_eq (p : (List TNode × List (List Int))) (ks : List Int) : R.l2Pen_list p ks =
 R.l2Pen_list.l116 ks ([]) 0 p.fst p.snd :=
 (fnB_eq 59 [PV.ad (Base.obj 0) 0, PV.fl 3 ks] [[PV.fl 51 p.fst, PV.fl 42 p.snd]] rfl).trans (by kernel_rfl)
theorem R.l2Pen_list.l116_eq (ks : List Int) (out : List Int) (i : Int) (m : List TNode) (m_1 : List (List Int)) : R.l2Pen_list.l116 ks out i m m_1 =
 bif decide (i < (↑ks.length : Int)) then
 bif decide (i > 0) then
 bif room (out.length + ((⟨#[44, 32]⟩ : ByteArray)).size) 1 then
 bif inB i ks.length then
 (R.l2Pen_expr (m, m_1) (ks.getD i.toNat 0)).bind fun r0 =>
 bif room ((out ++ strB ((⟨#[44, 32]⟩ : ByteArray))).length + ByteArray.size r0.fst) 1 then
 R.l2Pen_list.l116 ks (out ++ strB ((⟨#[44, 32]⟩ : ByteArray)) ++ strB r0.fst) (IntKind.i64.wrap (i + 1)) r0.snd.fst r0.snd.snd
 else
 none
 else
 none
 else
 none
 else
 bif inB i ks.length then
 (R.l2Pen_expr (m, m_1) (ks.getD i.toNat 0)).bind fun r0 =>
 bif room (out.length + ByteArray.size r0.fst) 1 then
 R.l2Pen_list.l116 ks (out ++ strB r0.fst) (IntKind.i64.wrap (i + 1)) r0.snd.fst r0.snd.snd
 else
 none
 else
 none
 else
 some (strOfBytes (List.map (fun (x : Int) ↦ x) out), (m, m_1)) :=
 (runB_eq 59 _ _).trans (by kernel_rfl)
theorem R.l2Pen_expr_eq (p : (List TNode × List (List Int))) (k : Int) : R.l2Pen_expr p k =
 bif inB k p.fst.length then
 bif inB k p.snd.length then
 bif (p.fst.getD k.toNat TNode.z).gKind == 1 then
 bif (p.fst.getD k.toNat TNode.z).gType == 10 then
 (R.l1Decimal (IntKind.u64.wrap (p.fst.getD k.toNat TNode.z).gN)).bind fun r0 =>
 some (r0, (p.fst, p.snd))
 else
 (R.l1Decimal (IntKind.u64.wrap (p.fst.getD k.toNat TNode.z).gN)).bind fun r0 =>
 (R.l1TypeWord ((p.fst.getD k.toNat TNode.z).gType)).bind fun r1 =>
 bif decide (ByteArray.size r0 + ByteArray.size r1 < 2 ^ 62) then
 some (r0 ++ r1, (p.fst, p.snd))
 else
 none
 else
 bif (p.fst.getD k.toNat TNode.z).gKind == 2 then
 (R.l1Quote ((p.fst.getD k.toNat TNode.z).gText)).bind fun r0 =>
 some (r0, (p.fst, p.snd))
 else
 bif (p.fst.getD k.toNat TNode.z).gKind == 3 then
 bif (p.fst.getD k.toNat TNode.z).gN == 1 then
 some ((⟨#[116, 114, 117, 101]⟩ : ByteArray), (p.fst, p.snd))
 else
 some ((⟨#[102, 97, 108, 115, 101]⟩ : ByteArray), (p.fst, p.snd))
 else
 bif (p.fst.getD k.toNat TNode.z).gKind == 4 then
 some ((p.fst.getD k.toNat TNode.z).gText, (p.fst, p.snd))
 else
 bif (p.fst.getD k.toNat TNode.z).gKind == 5 then
 (R.l2UnMark ((p.fst.getD k.toNat TNode.z).gOp)).bind fun r0 =>
 bif inB 0 (List.length (p.snd.getD k.toNat [])) then
 (R.l2Pen_held p (List.getD (p.snd.getD k.toNat []) 0 0)).bind fun r1 =>
 bif decide (ByteArray.size r0 + ByteArray.size r1.fst < 2 ^ 62) then
 some (r0 ++ r1.fst, (r1.snd.fst, r1.snd.snd))
 else
 none
 else
 none
 else
 bif (p.fst.getD k.toNat TNode.z).gKind == 6 then
 (R.l2Mark ((p.fst.getD k.toNat TNode.z).gOp)).bind fun r0 =>
 bif inB 0 (List.length (p.snd.getD k.toNat [])) then
 (R.l2Pen_held p (List.getD (p.snd.getD k.toNat []) 0 0)).bind fun r1 =>
 same [[PV.fl 51 p.fst, PV.fl 42 p.snd]] [[PV.fl 51 r1.snd.fst, PV.fl 42 r1.snd.snd]]
 (bif decide (ByteArray.size r1.fst + ((⟨#[32]⟩ : ByteArray)).size < 2 ^ 62) then
 bif decide ((r1.fst ++ ⟨#[32]⟩).size + ByteArray.size r0.fst < 2 ^ 62) then
 bif decide ((r1.fst ++ ⟨#[32]⟩ ++ r0.fst).size + ((⟨#[32]⟩ : ByteArray)).size < 2 ^ 62) then
 bif inB 1 (List.length (p.snd.getD k.toNat [])) then
 (R.l2Pen_held p (List.getD (p.snd.getD k.toNat []) 1 0)).bind fun r2 =>
 same [[PV.fl 51 p.fst, PV.fl 42 p.snd]] [[PV.fl 51 r2.snd.fst, PV.fl 42 r2.snd.snd]]
 (bif decide ((r1.fst ++ ⟨#[32]⟩ ++ r0.fst ++ ⟨#[32]⟩).size + ByteArray.size r2.fst < 2 ^ 62) then
 some (r1.fst ++ ⟨#[32]⟩ ++ r0.fst ++ ⟨#[32]⟩ ++ r2.fst, (p.fst, p.snd))
 else
 none)
 else
 none
 else
 none
 else
 none
 else
 none)
 else
 none
 else
 bif (p.fst.getD k.toNat TNode.z).gKind == 7 then
 bif decide ((p.fst.getD k.toNat TNode.z).gText.size + ((⟨#[40]⟩ : ByteArray)).size < 2 ^ 62) then
 (R.l2Pen_list p (p.snd.getD k.toNat [])).bind fun r0 =>
 same [[PV.fl 51 p.fst, PV.fl 42 p.snd]] [[PV.fl 51 r0.snd.fst, PV.fl 42 r0.snd.snd]]
 (bif decide (((p.fst.getD k.toNat TNode.z).gText ++ ⟨#[40]⟩).size + ByteArray.size r0.fst < 2 ^ 62) then
 bif decide (((p.fst.getD k.toNat TNode.z).gText ++ ⟨#[40]⟩ ++ r0.fst).size + ((⟨#[41]⟩ : ByteArray)).size < 2 ^ 62) then
 some ((p.fst.getD k.toNat TNode.z).gText ++ ⟨#[40]⟩ ++ r0.fst ++ ⟨#[41]⟩, (p.fst, p.snd))
 else
 none
 else
 none)
 else
 none
 else
 bif (p.fst.getD k.toNat TNode.z).gKind == 8 then
 (R.l1BuiltWord ((p.fst.getD k.toNat TNode.z).gOp)).bind fun r0 =>
 bif decide (ByteArray.size r0.fst + ((⟨#[40]⟩ : ByteArray)).size < 2 ^ 62) then
 (R.l2Pen_list p (p.snd.getD k.toNat [])).bind fun r1 =>
 bif decide ((r0.fst ++ ⟨#[40]⟩).size + ByteArray.size r1.fst < 2 ^ 62) then
 bif decide ((r0.fst ++ ⟨#[40]⟩ ++ r1.fst).size + ((⟨#[41]⟩ : ByteArray)).size < 2 ^ 62) then
 some (r0.fst ++ ⟨#[40]⟩ ++ r1.fst ++ ⟨#[41]⟩, (r1.snd.fst, r1.snd.snd))
 else
 none
 else
 none
 else
 none
 else
 (R.l1TypeWord ((p.fst.getD k.toNat TNode.z).gType)).bind fun r0 =>
 bif decide (ByteArray.size r0 + ((⟨#[40]⟩ : ByteArray)).size < 2 ^ 62) then
 (R.l2Pen_list p (p.snd.getD k.toNat [])).bind fun r1 =>
 bif decide ((r0 ++ ⟨#[40]⟩).size + ByteArray.size r1.fst < 2 ^ 62) then
 bif decide ((r0 ++ ⟨#[40]⟩ ++ r1.fst).size + ((⟨#[41]⟩ : ByteArray)).size < 2 ^ 62) then
 some (r0 ++ ⟨#[40]⟩ ++ r1.fst ++ ⟨#[41]⟩, (r1.snd.fst, r1.snd.snd))
 else
 none
 else
 none
 else
 none
 else
 none
 else
 none :=
 (fnB_eq 58 [PV.ad (Base.obj 0) 0, PV.i IntKind.i64 k] [[PV.fl 51 p.fst, PV.fl 42 p.snd]] rfl).trans (by kernel_rfl)
theorem R.l2Pen_statement_eq (p : (List TNode × List (List Int))) (k : Int) (gap : ByteArray) : R.l2Pen_statement p k gap =
 bif inB k p.fst.length then
 bif inB k p.snd.length then
 bif (p.fst.getD k.toNat TNode.z).gKind == 10 then
 bif decide (((⟨#[108, 101, 116, 32]⟩ : ByteArray)).size + (p.fst.getD k.toNat TNode.z).gText.size < 2 ^ 62) then
 bif decide (((⟨#[108, 101, 116, 32]⟩ : ByteArray) ++ (p.fst.getD k.toNat TNode.z).gText).size + ((⟨#[32, 61, 32]⟩ : ByteArray)).size < 2 ^ 62) then
 bif inB 0 (List.length (p.snd.getD k.toNat [])) then
 (R.l2Pen_expr p (List.getD (p.snd.getD k.toNat []) 0 0)).bind fun r0 =>
 same [[PV.fl 51 p.fst, PV.fl 42 p.snd]] [[PV.fl 51 r0.snd.fst, PV.fl 42 r0.snd.snd]]
 (bif decide (((⟨#[108, 101, 116, 32]⟩ : ByteArray) ++ (p.fst.getD k.toNat TNode.z).gText ++ ⟨#[32, 61, 32]⟩).size + ByteArray.size r0.fst < 2 ^ 62) then
 bif decide (((⟨#[108, 101, 116, 32]⟩ : ByteArray) ++ (p.fst.getD k.toNat TNode.z).gText ++ ⟨#[32, 61, 32]⟩ ++ r0.fst).size + ((⟨#[59, 10]⟩ : ByteArray)).size < 2 ^ 62) then
 some ((⟨#[108, 101, 116, 32]⟩ : ByteArray) ++ (p.fst.getD k.toNat TNode.z).gText ++ ⟨#[32, 61, 32]⟩ ++ r0.fst ++ ⟨#[59, 10]⟩, (p.fst, p.snd))
 else
 none
 else
 none)
 else
 none
 else
 none
 else
 none
 else
 bif (p.fst.getD k.toNat TNode.z).gKind == 11 then
 bif decide ((p.fst.getD k.toNat TNode.z).gText.size + ((⟨#[32, 61, 32]⟩ : ByteArray)).size < 2 ^ 62) then
 bif inB 0 (List.length (p.snd.getD k.toNat [])) then
 (R.l2Pen_expr p (List.getD (p.snd.getD k.toNat []) 0 0)).bind fun r0 =>
 same [[PV.fl 51 p.fst, PV.fl 42 p.snd]] [[PV.fl 51 r0.snd.fst, PV.fl 42 r0.snd.snd]]
 (bif decide (((p.fst.getD k.toNat TNode.z).gText ++ ⟨#[32, 61, 32]⟩).size + ByteArray.size r0.fst < 2 ^ 62) then
 bif decide (((p.fst.getD k.toNat TNode.z).gText ++ ⟨#[32, 61, 32]⟩ ++ r0.fst).size + ((⟨#[59, 10]⟩ : ByteArray)).size < 2 ^ 62) then
 some ((p.fst.getD k.toNat TNode.z).gText ++ ⟨#[32, 61, 32]⟩ ++ r0.fst ++ ⟨#[59, 10]⟩, (p.fst, p.snd))
 else
 none
 else
 none)
 else
 none
 else
 none
 else
 bif (p.fst.getD k.toNat TNode.z).gKind == 12 then
 bif inB 0 (List.length (p.snd.getD k.toNat [])) then
 (R.l2Pen_expr p (List.getD (p.snd.getD k.toNat []) 0 0)).bind fun r0 =>
 same [[PV.fl 51 p.fst, PV.fl 42 p.snd]] [[PV.fl 51 r0.snd.fst, PV.fl 42 r0.snd.snd]]
 (bif decide (((⟨#[105, 102, 32]⟩ : ByteArray)).size + ByteArray.size r0.fst < 2 ^ 62) then
 bif decide (((⟨#[105, 102, 32]⟩ : ByteArray) ++ r0.fst).size + ((⟨#[32, 123, 10]⟩ : ByteArray)).size < 2 ^ 62) then
 bif inB 1 (List.length (p.snd.getD k.toNat [])) then
 bif decide (gap.size + ((⟨#[32, 32]⟩ : ByteArray)).size < 2 ^ 62) then
 (R.l2Pen_block p (List.getD (p.snd.getD k.toNat []) 1 0) (gap ++ ⟨#[32, 32]⟩)).bind fun r1 =>
 same [[PV.fl 51 p.fst, PV.fl 42 p.snd]] [[PV.fl 51 r1.snd.fst, PV.fl 42 r1.snd.snd]]
 (bif decide (((⟨#[105, 102, 32]⟩ : ByteArray) ++ r0.fst ++ ⟨#[32, 123, 10]⟩).size + ByteArray.size r1.fst < 2 ^ 62) then
 bif decide (((⟨#[105, 102, 32]⟩ : ByteArray) ++ r0.fst ++ ⟨#[32, 123, 10]⟩ ++ r1.fst).size + gap.size < 2 ^ 62) then
 bif decide (((⟨#[105, 102, 32]⟩ : ByteArray) ++ r0.fst ++ ⟨#[32, 123, 10]⟩ ++ r1.fst ++ gap).size + ((⟨#[125]⟩ : ByteArray)).size < 2 ^ 62) then
 bif decide ((↑(List.length (p.snd.getD k.toNat [])) : Int) < 3) then
 bif decide (((⟨#[105, 102, 32]⟩ : ByteArray) ++ r0.fst ++ ⟨#[32, 123, 10]⟩ ++ r1.fst ++ gap ++ ⟨#[125]⟩).size + ((⟨#[10]⟩ : ByteArray)).size < 2 ^ 62) then
 some ((⟨#[105, 102, 32]⟩ : ByteArray) ++ r0.fst ++ ⟨#[32, 123, 10]⟩ ++ r1.fst ++ gap ++ ⟨#[125]⟩ ++ ⟨#[10]⟩, (p.fst, p.snd))
 else
 none
 else
 bif inB 2 (List.length (p.snd.getD k.toNat [])) then
 bif inB (List.getD (p.snd.getD k.toNat []) 2 0) p.fst.length then
 bif (p.fst.getD (Int.toNat (List.getD (p.snd.getD k.toNat []) 2 0)) TNode.z).gKind == 12 then
 bif decide (((⟨#[105, 102, 32]⟩ : ByteArray) ++ r0.fst ++ ⟨#[32, 123, 10]⟩ ++ r1.fst ++ gap ++ ⟨#[125]⟩).size + ((⟨#[32, 101, 108, 115, 101, 32]⟩ : ByteArray)).size < 2 ^ 62) then
 bif inB 2 (List.length (p.snd.getD k.toNat [])) then
 (R.l2Pen_statement p (List.getD (p.snd.getD k.toNat []) 2 0) gap).bind fun r2 =>
 bif decide (((⟨#[105, 102, 32]⟩ : ByteArray) ++ r0.fst ++ ⟨#[32, 123, 10]⟩ ++ r1.fst ++ gap ++ ⟨#[125]⟩ ++ ⟨#[32, 101, 108, 115, 101, 32]⟩).size + ByteArray.size r2.fst < 2 ^ 62) then
 some ((⟨#[105, 102, 32]⟩ : ByteArray) ++ r0.fst ++ ⟨#[32, 123, 10]⟩ ++ r1.fst ++ gap ++ ⟨#[125]⟩ ++ ⟨#[32, 101, 108, 115, 101, 32]⟩ ++ r2.fst, (r2.snd.fst, r2.snd.snd))
 else
 none
 else
 none
 else
 none
 else
 bif decide (((⟨#[105, 102, 32]⟩ : ByteArray) ++ r0.fst ++ ⟨#[32, 123, 10]⟩ ++ r1.fst ++ gap ++ ⟨#[125]⟩).size + ((⟨#[32, 101, 108, 115, 101, 32, 123, 10]⟩ : ByteArray)).size < 2 ^ 62) then
 bif inB 2 (List.length (p.snd.getD k.toNat [])) then
 bif decide (gap.size + ((⟨#[32, 32]⟩ : ByteArray)).size < 2 ^ 62) then
 (R.l2Pen_block p (List.getD (p.snd.getD k.toNat []) 2 0) (gap ++ ⟨#[32, 32]⟩)).bind fun r2 =>
 bif decide (((⟨#[105, 102, 32]⟩ : ByteArray) ++ r0.fst ++ ⟨#[32, 123, 10]⟩ ++ r1.fst ++ gap ++ ⟨#[125]⟩ ++ ⟨#[32, 101, 108, 115, 101, 32, 123, 10]⟩).size + ByteArray.size r2.fst < 2 ^ 62) then
 bif decide (((⟨#[105, 102, 32]⟩ : ByteArray) ++ r0.fst ++ ⟨#[32, 123, 10]⟩ ++ r1.fst ++ gap ++ ⟨#[125]⟩ ++ ⟨#[32, 101, 108, 115, 101, 32, 123, 10]⟩ ++ r2.fst).size + gap.size < 2 ^ 62) then
 bif decide (((⟨#[105, 102, 32]⟩ : ByteArray) ++ r0.fst ++ ⟨#[32, 123, 10]⟩ ++ r1.fst ++ gap ++ ⟨#[125]⟩ ++ ⟨#[32, 101, 108, 115, 101, 32, 123, 10]⟩ ++ r2.fst ++ gap).size + ((⟨#[125, 10]⟩ : ByteArray)).size < 2 ^ 62) then
 some ((⟨#[105, 102, 32]⟩ : ByteArray) ++ r0.fst ++ ⟨#[32, 123, 10]⟩ ++ r1.fst ++ gap ++ ⟨#[125]⟩ ++ ⟨#[32, 101, 108, 115, 101, 32, 123, 10]⟩ ++ r2.fst ++ gap ++ ⟨#[125, 10]⟩, (r2.snd.fst, r2.snd.snd))
 else
 none
 else
 none
 else
 none
 else
 none
 else
 none
 else
 none
 else
 none
 else
 none
 else
 none
 else
 none
 else
 none)
 else
 none
 else
 none
 else
 none
 else
 none)
 else
 none
 else
 bif (p.fst.getD k.toNat TNode.z).gKind == 13 then
 bif inB 0 (List.length (p.snd.getD k.toNat [])) then
 (R.l2Pen_expr p (List.getD (p.snd.getD k.toNat []) 0 0)).bind fun r0 =>
 same [[PV.fl 51 p.fst, PV.fl 42 p.snd]] [[PV.fl 51 r0.snd.fst, PV.fl 42 r0.snd.snd]]
 (bif decide (((⟨#[119, 104, 105, 108, 101, 32]⟩ : ByteArray)).size + ByteArray.size r0.fst < 2 ^ 62) then
 bif decide (((⟨#[119, 104, 105, 108, 101, 32]⟩ : ByteArray) ++ r0.fst).size + ((⟨#[32, 123, 10]⟩ : ByteArray)).size < 2 ^ 62) then
 bif inB 1 (List.length (p.snd.getD k.toNat [])) then
 bif decide (gap.size + ((⟨#[32, 32]⟩ : ByteArray)).size < 2 ^ 62) then
 (R.l2Pen_block p (List.getD (p.snd.getD k.toNat []) 1 0) (gap ++ ⟨#[32, 32]⟩)).bind fun r1 =>
 same [[PV.fl 51 p.fst, PV.fl 42 p.snd]] [[PV.fl 51 r1.snd.fst, PV.fl 42 r1.snd.snd]]
 (bif decide (((⟨#[119, 104, 105, 108, 101, 32]⟩ : ByteArray) ++ r0.fst ++ ⟨#[32, 123, 10]⟩).size + ByteArray.size r1.fst < 2 ^ 62) then
 bif decide (((⟨#[119, 104, 105, 108, 101, 32]⟩ : ByteArray) ++ r0.fst ++ ⟨#[32, 123, 10]⟩ ++ r1.fst).size + gap.size < 2 ^ 62) then
 bif decide (((⟨#[119, 104, 105, 108, 101, 32]⟩ : ByteArray) ++ r0.fst ++ ⟨#[32, 123, 10]⟩ ++ r1.fst ++ gap).size + ((⟨#[125, 10]⟩ : ByteArray)).size < 2 ^ 62) then
 some ((⟨#[119, 104, 105, 108, 101, 32]⟩ : ByteArray) ++ r0.fst ++ ⟨#[32, 123, 10]⟩ ++ r1.fst ++ gap ++ ⟨#[125, 10]⟩, (p.fst, p.snd))
 else
 none
 else
 none
 else
 none)
 else
 none
 else
 none
 else
 none
 else
 none)
 else
 none
 else
 bif (p.fst.getD k.toNat TNode.z).gKind == 14 then
 some ((⟨#[98, 114, 101, 97, 107, 59, 10]⟩ : ByteArray), (p.fst, p.snd))
 else
 bif (p.fst.getD k.toNat TNode.z).gKind == 15 then
 some ((⟨#[99, 111, 110, 116, 105, 110, 117, 101, 59, 10]⟩ : ByteArray), (p.fst, p.snd))
 else
 bif (p.fst.getD k.toNat TNode.z).gKind == 16 then
 bif (↑(List.length (p.snd.getD k.toNat [])) : Int) == 0 then
 some ((⟨#[114, 101, 116, 117, 114, 110, 59, 10]⟩ : ByteArray), (p.fst, p.snd))
 else
 bif inB 0 (List.length (p.snd.getD k.toNat [])) then
 (R.l2Pen_expr p (List.getD (p.snd.getD k.toNat []) 0 0)).bind fun r0 =>
 bif decide (((⟨#[114, 101, 116, 117, 114, 110, 32]⟩ : ByteArray)).size + ByteArray.size r0.fst < 2 ^ 62) then
 bif decide (((⟨#[114, 101, 116, 117, 114, 110, 32]⟩ : ByteArray) ++ r0.fst).size + ((⟨#[59, 10]⟩ : ByteArray)).size < 2 ^ 62) then
 some ((⟨#[114, 101, 116, 117, 114, 110, 32]⟩ : ByteArray) ++ r0.fst ++ ⟨#[59, 10]⟩, (r0.snd.fst, r0.snd.snd))
 else
 none
 else
 none
 else
 none
 else
 bif (p.fst.getD k.toNat TNode.z).gKind == 17 then
 bif inB 0 (List.length (p.snd.getD k.toNat [])) then
 (R.l2Pen_expr p (List.getD (p.snd.getD k.toNat []) 0 0)).bind fun r0 =>
 bif decide (((⟨#[102, 97, 105, 108, 32]⟩ : ByteArray)).size + ByteArray.size r0.fst < 2 ^ 62) then
 bif decide (((⟨#[102, 97, 105, 108, 32]⟩ : ByteArray) ++ r0.fst).size + ((⟨#[59, 10]⟩ : ByteArray)).size < 2 ^ 62) then
 some ((⟨#[102, 97, 105, 108, 32]⟩ : ByteArray) ++ r0.fst ++ ⟨#[59, 10]⟩, (r0.snd.fst, r0.snd.snd))
 else
 none
 else
 none
 else
 none
 else
 bif (p.fst.getD k.toNat TNode.z).gKind == 18 then
 (R.l2Pen_list p (p.snd.getD k.toNat [])).bind fun r0 =>
 bif decide (((⟨#[119, 114, 105, 116, 101, 32]⟩ : ByteArray)).size + ByteArray.size r0.fst < 2 ^ 62) then
 bif decide (((⟨#[119, 114, 105, 116, 101, 32]⟩ : ByteArray) ++ r0.fst).size + ((⟨#[59, 10]⟩ : ByteArray)).size < 2 ^ 62) then
 some ((⟨#[119, 114, 105, 116, 101, 32]⟩ : ByteArray) ++ r0.fst ++ ⟨#[59, 10]⟩, (r0.snd.fst, r0.snd.snd))
 else
 none
 else
 none
 else
 bif (p.fst.getD k.toNat TNode.z).gKind == 19 then
 bif inB 0 (List.length (p.snd.getD k.toNat [])) then
 (R.l2Pen_expr p (List.getD (p.snd.getD k.toNat []) 0 0)).bind fun r0 =>
 bif decide (((⟨#[115, 97, 121, 32]⟩ : ByteArray)).size + ByteArray.size r0.fst < 2 ^ 62) then
 bif decide (((⟨#[115, 97, 121, 32]⟩ : ByteArray) ++ r0.fst).size + ((⟨#[59, 10]⟩ : ByteArray)).size < 2 ^ 62) then
 some ((⟨#[115, 97, 121, 32]⟩ : ByteArray) ++ r0.fst ++ ⟨#[59, 10]⟩, (r0.snd.fst, r0.snd.snd))
 else
 none
 else
 none
 else
 none
 else
 bif inB 0 (List.length (p.snd.getD k.toNat [])) then
 (R.l2Pen_expr p (List.getD (p.snd.getD k.toNat []) 0 0)).bind fun r0 =>
 bif decide (ByteArray.size r0.fst + ((⟨#[59, 10]⟩ : ByteArray)).size < 2 ^ 62) then
 some (r0.fst ++ ⟨#[59, 10]⟩, (r0.snd.fst, r0.snd.snd))
 else
 none
 else
 none
 else
 none
 else
 none :=
 (fnB_eq 44 [PV.ad (Base.obj 0) 0, PV.i IntKind.i64 k, PV.s gap] [[PV.fl 51 p.fst, PV.fl 42 p.snd]] rfl).trans (by kernel_rfl)
noncomputable def R.l2Pen_block.l244 (gap : ByteArray) (out : List Int) (ks : List Int) (i : Int) (m : List TNode) (m_1 : List (List Int)) : Option ((ByteArray × (List TNode × List (List Int)))) := Y.runB 25 (fun ct c => at_ ct [true, true, true, false, true, false, false] c) ⟨[(0, .ad (.obj 0) 0), (2, .s gap), (7, .ol 5 out), (8, .fl 3 ks), (9, .i IntKind.i64 i)], [], [[.fl 51 m, .fl 42 m_1]], [], []⟩
theorem R.l2Pen_block_eq (p : (List TNode × List (List Int))) (k : Int) (gap : ByteArray) : R.l2Pen_block p k gap =
 bif inB k p.snd.length then
 R.l2Pen_block.l244 gap ([]) (p.snd.getD k.toNat []) 0 p.fst p.snd
 else
 none :=
 (fnB_eq 25 [PV.ad (Base.obj 0) 0, PV.i IntKind.i64 k, PV.s gap] [[PV.fl 51 p.fst, PV.fl 42 p.snd]] rfl).trans (by kernel_rfl)
theorem R.l2Pen_block.l244_eq (gap : ByteArray) (out : List Int) (ks : List Int) (i : Int) (m : List TNode) (m_1 : List (List Int)) : R.l2Pen_block.l244 gap out ks i m m_1 =
 bif decide (i < (↑(List.length ks) : Int)) then
 bif room (out.length + gap.size) 1 then
 bif inB i (List.length ks) then
 (R.l2Pen_statement (m, m_1) (List.getD ks i.toNat 0) gap).bind fun r0 =>
 bif room ((out ++ strB gap).length + ByteArray.size r0.fst) 1 then
 R.l2Pen_block.l244 gap (out ++ strB gap ++ strB r0.fst) ks (IntKind.i64.wrap (i + 1)) r0.snd.fst r0.snd.snd
 else
 none
 else
 none
 else
 none
 else
 some (strOfBytes (List.map (fun (x : Int) ↦ x) out), (m, m_1)) :=
 (runB_eq 25 _ _).trans (by kernel_rfl)
noncomputable def R.l2Pen_fn.l1012 (ks : List Int) (last : Int) (out : ByteArray) (i : Int) (n : TNode) (m : List TNode) (m_1 : List (List Int)) : Option ((ByteArray × (List TNode × List (List Int)))) := Y.runB 12 (fun ct c => at_ ct [true, true, true, true, true, false, true, false, false] c) ⟨[(0, .ad (.obj 0) 0), (5, .ad (.loc 5) 0), (6, .fl 3 ks), (7, .i IntKind.i64 last), (8, .s out), (9, .i IntKind.i64 i)], [(5, cells 51 n)], [[.fl 51 m, .fl 42 m_1]], [], []⟩
noncomputable def R.l2Pen_fn.l16201 (ks : List Int) (last : Int) (out : ByteArray) (i : Int) (n : TNode) (m : List TNode) (m_1 : List (List Int)) : Option ((ByteArray × (List TNode × List (List Int)))) := Y.runB 12 (fun ct c => at_ ct [true, true, true, true, true, false, true, false, false, true, false, false, true] c) ⟨[(0, .ad (.obj 0) 0), (5, .ad (.loc 5) 0), (6, .fl 3 ks), (7, .i IntKind.i64 last), (8, .s out), (9, .i IntKind.i64 i)], [(5, cells 51 n)], [[.fl 51 m, .fl 42 m_1]], [], []⟩
theorem R.l2Pen_fn_eq (p : (List TNode × List (List Int))) (k : Int) : R.l2Pen_fn p k =
 bif inB k p.fst.length then
 bif inB k p.snd.length then
 bif decide (((⟨#[102, 110, 32]⟩ : ByteArray)).size + (p.fst.getD k.toNat TNode.z).gText.size < 2 ^ 62) then
 bif decide (((⟨#[102, 110, 32]⟩ : ByteArray) ++ (p.fst.getD k.toNat TNode.z).gText).size + ((⟨#[40]⟩ : ByteArray)).size < 2 ^ 62) then
 R.l2Pen_fn.l1012 (p.snd.getD k.toNat []) (IntKind.i64.wrap ((↑(List.length (p.snd.getD k.toNat [])) : Int) - 1)) ((⟨#[102, 110, 32]⟩ : ByteArray) ++ (p.fst.getD k.toNat TNode.z).gText ++ ⟨#[40]⟩) 0 (p.fst.getD k.toNat TNode.z) p.fst p.snd
 else
 none
 else
 none
 else
 none
 else
 none :=
 (fnB_eq 12 [PV.ad (Base.obj 0) 0, PV.i IntKind.i64 k] [[PV.fl 51 p.fst, PV.fl 42 p.snd]] rfl).trans (by kernel_rfl)
theorem R.l2Pen_fn.l1012_eq (ks : List Int) (last : Int) (out : ByteArray) (i : Int) (n : TNode) (m : List TNode) (m_1 : List (List Int)) : R.l2Pen_fn.l1012 ks last out i n m m_1 =
 bif decide (i < last) then
 bif decide (i > 0) then
 bif decide (out.size + ((⟨#[44, 32]⟩ : ByteArray)).size < 2 ^ 62) then
 R.l2Pen_fn.l16201 ks last (out ++ ⟨#[44, 32]⟩) i n m m_1
 else
 none
 else
 R.l2Pen_fn.l16201 ks last out i n m m_1
 else
 bif decide (out.size + ((⟨#[41, 32]⟩ : ByteArray)).size < 2 ^ 62) then
 bif n.gType != 0 then
 bif decide ((out ++ ⟨#[41, 32]⟩).size + ((⟨#[45, 62, 32]⟩ : ByteArray)).size < 2 ^ 62) then
 (R.l1TypeWord n.gType).bind fun r0 =>
 bif decide ((out ++ ⟨#[41, 32]⟩ ++ ⟨#[45, 62, 32]⟩).size + ByteArray.size r0 < 2 ^ 62) then
 bif decide ((out ++ ⟨#[41, 32]⟩ ++ ⟨#[45, 62, 32]⟩ ++ r0).size + ((⟨#[32]⟩ : ByteArray)).size < 2 ^ 62) then
 bif decide ((out ++ ⟨#[41, 32]⟩ ++ ⟨#[45, 62, 32]⟩ ++ r0 ++ ⟨#[32]⟩).size + ((⟨#[123, 10]⟩ : ByteArray)).size < 2 ^ 62) then
 bif inB last (List.length ks) then
 (R.l2Pen_block (m, m_1) (List.getD ks last.toNat 0) ((⟨#[32, 32]⟩ : ByteArray))).bind fun r1 =>
 bif decide ((out ++ ⟨#[41, 32]⟩ ++ ⟨#[45, 62, 32]⟩ ++ r0 ++ ⟨#[32]⟩ ++ ⟨#[123, 10]⟩).size + ByteArray.size r1.fst < 2 ^ 62) then
 bif decide ((out ++ ⟨#[41, 32]⟩ ++ ⟨#[45, 62, 32]⟩ ++ r0 ++ ⟨#[32]⟩ ++ ⟨#[123, 10]⟩ ++ r1.fst).size + ((⟨#[125, 10]⟩ : ByteArray)).size < 2 ^ 62) then
 some (out ++ ⟨#[41, 32]⟩ ++ ⟨#[45, 62, 32]⟩ ++ r0 ++ ⟨#[32]⟩ ++ ⟨#[123, 10]⟩ ++ r1.fst ++ ⟨#[125, 10]⟩, (r1.snd.fst, r1.snd.snd))
 else
 none
 else
 none
 else
 none
 else
 none
 else
 none
 else
 none
 else
 none
 else
 bif decide ((out ++ ⟨#[41, 32]⟩).size + ((⟨#[123, 10]⟩ : ByteArray)).size < 2 ^ 62) then
 bif inB last (List.length ks) then
 (R.l2Pen_block (m, m_1) (List.getD ks last.toNat 0) ((⟨#[32, 32]⟩ : ByteArray))).bind fun r0 =>
 bif decide ((out ++ ⟨#[41, 32]⟩ ++ ⟨#[123, 10]⟩).size + ByteArray.size r0.fst < 2 ^ 62) then
 bif decide ((out ++ ⟨#[41, 32]⟩ ++ ⟨#[123, 10]⟩ ++ r0.fst).size + ((⟨#[125, 10]⟩ : ByteArray)).size < 2 ^ 62) then
 some (out ++ ⟨#[41, 32]⟩ ++ ⟨#[123, 10]⟩ ++ r0.fst ++ ⟨#[125, 10]⟩, (r0.snd.fst, r0.snd.snd))
 else
 none
 else
 none
 else
 none
 else
 none
 else
 none :=
 (runB_eq 12 _ _).trans (by kernel_rfl)
theorem R.l2Pen_fn.l16201_eq (ks : List Int) (last : Int) (out : ByteArray) (i : Int) (n : TNode) (m : List TNode) (m_1 : List (List Int)) : R.l2Pen_fn.l16201 ks last out i n m m_1 =
 bif inB i (List.length ks) then
 bif inB (List.getD ks i.toNat 0) m.length then
 bif decide (out.size + (m.getD (Int.toNat (List.getD ks i.toNat 0)) TNode.z).gText.size < 2 ^ 62) then
 bif decide ((out ++ (m.getD (Int.toNat (List.getD ks i.toNat 0)) TNode.z).gText).size + ((⟨#[32]⟩ : ByteArray)).size < 2 ^ 62) then
 bif inB i (List.length ks) then
 bif inB (List.getD ks i.toNat 0) m.length then
 (R.l1TypeWord ((m.getD (Int.toNat (List.getD ks i.toNat 0)) TNode.z).gType)).bind fun r0 =>
 bif decide ((out ++ (m.getD (Int.toNat (List.getD ks i.toNat 0)) TNode.z).gText ++ ⟨#[32]⟩).size + ByteArray.size r0 < 2 ^ 62) then
 R.l2Pen_fn.l1012 ks last (out ++ (m.getD (Int.toNat (List.getD ks i.toNat 0)) TNode.z).gText ++ ⟨#[32]⟩ ++ r0) (IntKind.i64.wrap (i + 1)) n m m_1
 else
 none
 else
 none
 else
 none
 else
 none
 else
 none
 else
 none
 else
 none :=
 (runB_eq 12 _ _).trans (by kernel_rfl)
noncomputable def R.Print.l2036 (out : List Int) (fns : List Int) (i : Int) (m : List TNode) (m_1 : List (List Int)) : Option ByteArray := Y.runA 5 (fun ct c => at_ ct [true, true, true, true, true, true, false, true, false, false] c) ⟨[(5, .ad (.obj 0) 0), (6, .ol 5 out), (7, .fl 3 fns), (8, .i IntKind.i64 i)], [], [[.fl 51 m, .fl 42 m_1]], [], []⟩
theorem R.Print_eq (t : TTree) : R.Print t =
 (R.ValidTree t).bind fun r0 =>
 bif !r0 then
 some ((⟨#[]⟩ : ByteArray))
 else
 (R.l2Kids t).bind fun r1 =>
 bif inB (IntKind.i64.wrap ((↑(List.length r1.fst) : Int) - 1)) (List.length r1.fst) then
 R.Print.l2036 ([]) (List.getD r1.fst (IntKind.i64.wrap ((↑(List.length r1.fst) : Int) - 1)).toNat []) 0 t.gNodes r1.fst
 else
 none :=
 (fnA_eq 5 [PV.st (cells 29 t)] rfl).trans (by kernel_rfl)
theorem R.Print.l2036_eq (out : List Int) (fns : List Int) (i : Int) (m : List TNode) (m_1 : List (List Int)) : R.Print.l2036 out fns i m m_1 =
 bif decide (i < (↑(List.length fns) : Int)) then
 bif inB i (List.length fns) then
 (R.l2Pen_fn (m, m_1) (List.getD fns i.toNat 0)).bind fun r0 =>
 bif room (out.length + ByteArray.size r0.fst) 1 then
 R.Print.l2036 (out ++ strB r0.fst) fns (IntKind.i64.wrap (i + 1)) r0.snd.fst r0.snd.snd
 else
 none
 else
 none
 else
 bif decide ((↑out.length : Int) > 12000) then
 some ((⟨#[]⟩ : ByteArray))
 else
 some (strOfBytes (List.map (fun (x : Int) ↦ x) out)) :=
 (runA_eq 5 _ _).trans (by kernel_rfl)
noncomputable def I.grow.l244 (stack : List (Option TNode_)) (t18 : List TNode) (t19 : Int) (t20 : Int) : Option (Option TNode_) := Y.runA 27 (fun ct c => at_ ct [true, true, true, false, true, false, false] c) ⟨[(3, .ol 45 stack), (18, .fl 51 t18), (19, .i IntKind.i64 t19), (20, .i IntKind.i64 t20)], [], [], [], []⟩
theorem I.grow_eq (t : TTree) : I.grow t =
 bif decide ((↑t.gNodes.length : Int) < 1) then
 some none
 else
 bif decide ((↑t.gNodes.length : Int) > 12001) then
 some none
 else
 I.grow.l244 ([]) t.gNodes (↑t.gNodes.length : Int) 0 :=
 (fnA_eq 27 [PV.st (cells 29 t)] rfl).trans (by kernel_rfl)
theorem I.grow.l244_eq (stack : List (Option TNode_)) (t18 : List TNode) (t19 : Int) (t20 : Int) : I.grow.l244 stack t18 t19 t20 =
 bif decide (t20 < t19) then
 bif inB t20 t18.length then
 bif decide ((t18.getD t20.toNat TNode.z).gKids < 0) then
 some none
 else
 bif decide ((t18.getD t20.toNat TNode.z).gKids > (↑stack.length : Int)) then
 some none
 else
 bif inS (IntKind.i64.wrap ((↑stack.length : Int) - (t18.getD t20.toNat TNode.z).gKids)) (↑stack.length : Int) stack.length then
 bif room (sub stack (IntKind.i64.wrap ((↑stack.length : Int) - (t18.getD t20.toNat TNode.z).gKids)) (↑stack.length : Int)).length 8 then
 bif inS 0 (IntKind.i64.wrap ((↑stack.length : Int) - (t18.getD t20.toNat TNode.z).gKids)) stack.length then
 bif room ((List.take (IntKind.i64.wrap ((↑stack.length : Int) - (t18.getD t20.toNat TNode.z).gKids)).toNat stack).length + [some (TNode_.mk (TNode.mk (t18.getD t20.toNat TNode.z).gKind (t18.getD t20.toNat TNode.z).gOp (t18.getD t20.toNat TNode.z).gType (t18.getD t20.toNat TNode.z).gN (t18.getD t20.toNat TNode.z).gText (t18.getD t20.toNat TNode.z).gKids) (sub stack (IntKind.i64.wrap ((↑stack.length : Int) - (t18.getD t20.toNat TNode.z).gKids)) (↑stack.length : Int)) t20)].length) 8 then
 I.grow.l244 (List.take (IntKind.i64.wrap ((↑stack.length : Int) - (t18.getD t20.toNat TNode.z).gKids)).toNat stack ++ [some (TNode_.mk (TNode.mk (t18.getD t20.toNat TNode.z).gKind (t18.getD t20.toNat TNode.z).gOp (t18.getD t20.toNat TNode.z).gType (t18.getD t20.toNat TNode.z).gN (t18.getD t20.toNat TNode.z).gText (t18.getD t20.toNat TNode.z).gKids) (sub stack (IntKind.i64.wrap ((↑stack.length : Int) - (t18.getD t20.toNat TNode.z).gKids)) (↑stack.length : Int)) t20)]) t18 t19 (IntKind.i64.wrap (t20 + 1))
 else
 none
 else
 none
 else
 none
 else
 none
 else
 none
 else
 bif (↑stack.length : Int) != 1 then
 some none
 else
 bif inB 0 stack.length then
 some (stack.getD 0 none)
 else
 none :=
 (runA_eq 27 _ _).trans (by kernel_rfl)
noncomputable def I.node_kinds_c61.l52 (t14 : List (Option TNode_)) (t15 : Int) (t16 : Int) : Option Bool := Y.runA 60 (fun ct c => at_ ct [true, false, true, false, false] c) ⟨[(2, .clo 61 []), (14, .fl 45 t14), (15, .i IntKind.i64 t15), (16, .i IntKind.i64 t16)], [], [], [], []⟩
theorem I.node_kinds_c61_eq (n : Option TNode_) (from_ : Int) : I.node_kinds_c61 n from_ =
 bif n.isSome then
 bif inS from_ (↑(n.getD TNode_.z).gkids.length : Int) (n.getD TNode_.z).gkids.length then
 I.node_kinds_c61.l52 (sub (n.getD TNode_.z).gkids from_ (↑(n.getD TNode_.z).gkids.length : Int)) (↑(sub (n.getD TNode_.z).gkids from_ (↑(n.getD TNode_.z).gkids.length : Int)).length : Int) 0
 else
 none
 else
 none :=
 (fnA_eq 60 [PV.fp 54 n, PV.i IntKind.i64 from_, PV.clo 61 []] rfl).trans (by kernel_rfl)
theorem I.node_kinds_c61.l52_eq (t14 : List (Option TNode_)) (t15 : Int) (t16 : Int) : I.node_kinds_c61.l52 t14 t15 t16 =
 bif decide (t16 < t15) then
 bif inB t16 t14.length then
 bif Option.isSome (t14.getD t16.toNat none) then
 (I.isE ((Option.getD (t14.getD t16.toNat none) TNode_.z).gNode.gKind)).bind fun r0 =>
 bif !r0 then
 some false
 else
 I.node_kinds_c61.l52 t14 t15 (IntKind.i64.wrap (t16 + 1))
 else
 none
 else
 none
 else
 some true :=
 (runA_eq 60 _ _).trans (by kernel_rfl)
noncomputable def I.node_kinds_c63.l52 (t14 : List (Option TNode_)) (t15 : Int) (t16 : Int) : Option Bool := Y.runA 60 (fun ct c => at_ ct [true, false, true, false, false] c) ⟨[(2, .clo 63 []), (14, .fl 45 t14), (15, .i IntKind.i64 t15), (16, .i IntKind.i64 t16)], [], [], [], []⟩
theorem I.node_kinds_c63_eq (n : Option TNode_) (from_ : Int) : I.node_kinds_c63 n from_ =
 bif n.isSome then
 bif inS from_ (↑(n.getD TNode_.z).gkids.length : Int) (n.getD TNode_.z).gkids.length then
 I.node_kinds_c63.l52 (sub (n.getD TNode_.z).gkids from_ (↑(n.getD TNode_.z).gkids.length : Int)) (↑(sub (n.getD TNode_.z).gkids from_ (↑(n.getD TNode_.z).gkids.length : Int)).length : Int) 0
 else
 none
 else
 none :=
 (fnA_eq 60 [PV.fp 54 n, PV.i IntKind.i64 from_, PV.clo 63 []] rfl).trans (by kernel_rfl)
theorem I.node_kinds_c63.l52_eq (t14 : List (Option TNode_)) (t15 : Int) (t16 : Int) : I.node_kinds_c63.l52 t14 t15 t16 =
 bif decide (t16 < t15) then
 bif inB t16 t14.length then
 bif Option.isSome (t14.getD t16.toNat none) then
 (I.isS ((Option.getD (t14.getD t16.toNat none) TNode_.z).gNode.gKind)).bind fun r0 =>
 bif !r0 then
 some false
 else
 I.node_kinds_c63.l52 t14 t15 (IntKind.i64.wrap (t16 + 1))
 else
 none
 else
 none
 else
 some true :=
 (runA_eq 60 _ _).trans (by kernel_rfl)
noncomputable def I.node_kinds_c64.l52 (t14 : List (Option TNode_)) (t15 : Int) (t16 : Int) : Option Bool := Y.runA 60 (fun ct c => at_ ct [true, false, true, false, false] c) ⟨[(2, .clo 64 []), (14, .fl 45 t14), (15, .i IntKind.i64 t15), (16, .i IntKind.i64 t16)], [], [], [], []⟩
theorem I.node_kinds_c64_eq (n : Option TNode_) (from_ : Int) : I.node_kinds_c64 n from_ =
 bif n.isSome then
 bif inS from_ (↑(n.getD TNode_.z).gkids.length : Int) (n.getD TNode_.z).gkids.length then
 I.node_kinds_c64.l52 (sub (n.getD TNode_.z).gkids from_ (↑(n.getD TNode_.z).gkids.length : Int)) (↑(sub (n.getD TNode_.z).gkids from_ (↑(n.getD TNode_.z).gkids.length : Int)).length : Int) 0
 else
 none
 else
 none :=
 (fnA_eq 60 [PV.fp 54 n, PV.i IntKind.i64 from_, PV.clo 64 []] rfl).trans (by kernel_rfl)
theorem I.node_kinds_c64.l52_eq (t14 : List (Option TNode_)) (t15 : Int) (t16 : Int) : I.node_kinds_c64.l52 t14 t15 t16 =
 bif decide (t16 < t15) then
 bif inB t16 t14.length then
 bif Option.isSome (t14.getD t16.toNat none) then
 (I.node_kidsOk_1 ((Option.getD (t14.getD t16.toNat none) TNode_.z).gNode.gKind)).bind fun r0 =>
 bif !r0 then
 some false
 else
 I.node_kinds_c64.l52 t14 t15 (IntKind.i64.wrap (t16 + 1))
 else
 none
 else
 none
 else
 some true :=
 (runA_eq 60 _ _).trans (by kernel_rfl)
theorem I.isE_eq (k : Int) : I.isE k =
 bif decide (k ≥ 1) then
 some (decide (k ≤ 9))
 else
 some false :=
 (fnA_eq 61 [PV.i IntKind.i64 k] rfl).trans (by kernel_rfl)
theorem I.isBlock_eq (k : Int) : I.isBlock k =
 some (k == 21) :=
 (fnA_eq 62 [PV.i IntKind.i64 k] rfl).trans (by kernel_rfl)
theorem I.isS_eq (k : Int) : I.isS k =
 bif decide (k ≥ 10) then
 some (decide (k ≤ 20))
 else
 some false :=
 (fnA_eq 63 [PV.i IntKind.i64 k] rfl).trans (by kernel_rfl)
theorem I.node_kidsOk_1_eq (k : Int) : I.node_kidsOk_1 k =
 some (k == 23) :=
 (fnA_eq 64 [PV.i IntKind.i64 k] rfl).trans (by kernel_rfl)
noncomputable def I.node_kidsOk.l117 (n : Option TNode_) (c : Int) (t15 : Int) (t16 : Bool) : Option Bool := Y.runA 45 (fun ct c => at_ ct [true, true, false, true, false, true] c) ⟨[(0, .fp 54 n), (3, .i IntKind.i64 c), (15, .i IntKind.i64 t15), (16, .b t16)], [], [], [], []⟩
noncomputable def I.node_kidsOk.l471 (n : Option TNode_) (c : Int) (t15 : Int) (t26 : Bool) : Option Bool := Y.runA 45 (fun ct c => at_ ct [true, true, false, true, false, true, true, true] c) ⟨[(0, .fp 54 n), (3, .i IntKind.i64 c), (15, .i IntKind.i64 t15), (26, .b t26)], [], [], [], []⟩
noncomputable def I.node_kidsOk.l1887 (n : Option TNode_) (c : Int) (t15 : Int) (t39 : Bool) : Option Bool := Y.runA 45 (fun ct c => at_ ct [true, true, false, true, false, true, true, true, true, true] c) ⟨[(0, .fp 54 n), (3, .i IntKind.i64 c), (15, .i IntKind.i64 t15), (39, .b t39)], [], [], [], []⟩
noncomputable def I.node_kidsOk.l7918845908 (t253 : List (Option TNode_)) (t254 : Int) (t255 : Int) : Option Bool := Y.runA 45 (fun ct c => at_ ct [true, true, false, true, false, true, true, true, true, true, true, true, true, true, true, true, true, true, true, true, true, true, true, true, true, true, false, true, false, true, false, false] c) ⟨[(253, .fl 45 t253), (254, .i IntKind.i64 t254), (255, .i IntKind.i64 t255)], [], [], [], []⟩
theorem I.node_kidsOk_eq (n : Option TNode_) : I.node_kidsOk n =
 bif n.isSome then
 bif n.isSome then
 bif (n.getD TNode_.z).gNode.gKind == 1 then
 I.node_kidsOk.l117 n (↑(n.getD TNode_.z).gkids.length : Int) ((n.getD TNode_.z).gNode.gKind) ((n.getD TNode_.z).gNode.gKind == 1)
 else
 bif (n.getD TNode_.z).gNode.gKind == 2 then
 I.node_kidsOk.l117 n (↑(n.getD TNode_.z).gkids.length : Int) ((n.getD TNode_.z).gNode.gKind) ((n.getD TNode_.z).gNode.gKind == 2)
 else
 bif (n.getD TNode_.z).gNode.gKind == 3 then
 I.node_kidsOk.l117 n (↑(n.getD TNode_.z).gkids.length : Int) ((n.getD TNode_.z).gNode.gKind) ((n.getD TNode_.z).gNode.gKind == 3)
 else
 bif (n.getD TNode_.z).gNode.gKind == 4 then
 I.node_kidsOk.l117 n (↑(n.getD TNode_.z).gkids.length : Int) ((n.getD TNode_.z).gNode.gKind) ((n.getD TNode_.z).gNode.gKind == 4)
 else
 bif (n.getD TNode_.z).gNode.gKind == 14 then
 I.node_kidsOk.l117 n (↑(n.getD TNode_.z).gkids.length : Int) ((n.getD TNode_.z).gNode.gKind) ((n.getD TNode_.z).gNode.gKind == 14)
 else
 bif (n.getD TNode_.z).gNode.gKind == 15 then
 I.node_kidsOk.l117 n (↑(n.getD TNode_.z).gkids.length : Int) ((n.getD TNode_.z).gNode.gKind) ((n.getD TNode_.z).gNode.gKind == 15)
 else
 I.node_kidsOk.l117 n (↑(n.getD TNode_.z).gkids.length : Int) ((n.getD TNode_.z).gNode.gKind) ((n.getD TNode_.z).gNode.gKind == 22)
 else
 none
 else
 none :=
 (fnA_eq 45 [PV.fp 54 n] rfl).trans (by kernel_rfl)
theorem I.node_kidsOk.l117_eq (n : Option TNode_) (c : Int) (t15 : Int) (t16 : Bool) : I.node_kidsOk.l117 n c t15 t16 =
 bif t16 then
 some (c == 0)
 else
 bif t15 == 5 then
 I.node_kidsOk.l471 n c t15 (t15 == 5)
 else
 bif t15 == 9 then
 I.node_kidsOk.l471 n c t15 (t15 == 9)
 else
 bif t15 == 10 then
 I.node_kidsOk.l471 n c t15 (t15 == 10)
 else
 bif t15 == 11 then
 I.node_kidsOk.l471 n c t15 (t15 == 11)
 else
 bif t15 == 17 then
 I.node_kidsOk.l471 n c t15 (t15 == 17)
 else
 I.node_kidsOk.l471 n c t15 (t15 == 19) :=
 (runA_eq 45 _ _).trans (by kernel_rfl)
theorem I.node_kidsOk.l471_eq (n : Option TNode_) (c : Int) (t15 : Int) (t26 : Bool) : I.node_kidsOk.l471 n c t15 t26 =
 bif t26 then
 bif c == 1 then
 (I.node_kinds_c61 n 0).bind fun r0 =>
 some r0
 else
 some false
 else
 bif t15 == 6 then
 I.node_kidsOk.l1887 n c t15 (t15 == 6)
 else
 I.node_kidsOk.l1887 n c t15 (t15 == 18) :=
 (runA_eq 45 _ _).trans (by kernel_rfl)
theorem I.node_kidsOk.l1887_eq (n : Option TNode_) (c : Int) (t15 : Int) (t39 : Bool) : I.node_kidsOk.l1887 n c t15 t39 =
 bif t39 then
 bif c == 2 then
 (I.node_kinds_c61 n 0).bind fun r0 =>
 some r0
 else
 some false
 else
 bif t15 == 7 then
 bif decide (c ≤ 8) then
 (I.node_kinds_c61 n 0).bind fun r0 =>
 some r0
 else
 some false
 else
 bif t15 == 8 then
 bif n.isSome then
 bif decide ((n.getD TNode_.z).gNode.gOp ≥ 1) then
 bif n.isSome then
 bif decide ((n.getD TNode_.z).gNode.gOp ≤ 12) then
 bif n.isSome then
 bif inB (n.getD TNode_.z).gNode.gOp [0, 1, 1, 1, 2, 0, 1, 2, 3, 2, 1, 1, 1].length then
 bif c == ([0, 1, 1, 1, 2, 0, 1, 2, 3, 2, 1, 1, 1] : List Int).getD (n.getD TNode_.z).gNode.gOp.toNat 0 then
 (I.node_kinds_c61 n 0).bind fun r0 =>
 some r0
 else
 some false
 else
 none
 else
 none
 else
 some false
 else
 none
 else
 some false
 else
 none
 else
 bif t15 == 12 then
 bif c == 3 then
 bif n.isSome then
 bif inB 2 (n.getD TNode_.z).gkids.length then
 bif Option.isSome ((n.getD TNode_.z).gkids.getD 2 none) then
 (I.isBlock ((Option.getD ((n.getD TNode_.z).gkids.getD 2 none) TNode_.z).gNode.gKind)).bind fun r0 =>
 bif r0 then
 bif c == 2 then
 bif n.isSome then
 bif inB 0 (n.getD TNode_.z).gkids.length then
 bif Option.isSome ((n.getD TNode_.z).gkids.getD 0 none) then
 (I.isE ((Option.getD ((n.getD TNode_.z).gkids.getD 0 none) TNode_.z).gNode.gKind)).bind fun r1 =>
 bif r1 then
 bif n.isSome then
 bif inB 1 (n.getD TNode_.z).gkids.length then
 bif Option.isSome ((n.getD TNode_.z).gkids.getD 1 none) then
 (I.isBlock ((Option.getD ((n.getD TNode_.z).gkids.getD 1 none) TNode_.z).gNode.gKind)).bind fun r2 =>
 some r2
 else
 none
 else
 none
 else
 none
 else
 some false
 else
 none
 else
 none
 else
 none
 else
 bif c == 3 then
 bif n.isSome then
 bif inB 0 (n.getD TNode_.z).gkids.length then
 bif Option.isSome ((n.getD TNode_.z).gkids.getD 0 none) then
 (I.isE ((Option.getD ((n.getD TNode_.z).gkids.getD 0 none) TNode_.z).gNode.gKind)).bind fun r1 =>
 bif r1 then
 bif n.isSome then
 bif inB 1 (n.getD TNode_.z).gkids.length then
 bif Option.isSome ((n.getD TNode_.z).gkids.getD 1 none) then
 (I.isBlock ((Option.getD ((n.getD TNode_.z).gkids.getD 1 none) TNode_.z).gNode.gKind)).bind fun r2 =>
 some r2
 else
 none
 else
 none
 else
 none
 else
 some false
 else
 none
 else
 none
 else
 none
 else
 some false
 else
 bif n.isSome then
 bif inB 2 (n.getD TNode_.z).gkids.length then
 bif Option.isSome ((n.getD TNode_.z).gkids.getD 2 none) then
 bif !(Option.getD ((n.getD TNode_.z).gkids.getD 2 none) TNode_.z).gNode.gKind == 12 then
 some false
 else
 bif c == 2 then
 bif n.isSome then
 bif inB 0 (n.getD TNode_.z).gkids.length then
 bif Option.isSome ((n.getD TNode_.z).gkids.getD 0 none) then
 (I.isE ((Option.getD ((n.getD TNode_.z).gkids.getD 0 none) TNode_.z).gNode.gKind)).bind fun r1 =>
 bif r1 then
 bif n.isSome then
 bif inB 1 (n.getD TNode_.z).gkids.length then
 bif Option.isSome ((n.getD TNode_.z).gkids.getD 1 none) then
 (I.isBlock ((Option.getD ((n.getD TNode_.z).gkids.getD 1 none) TNode_.z).gNode.gKind)).bind fun r2 =>
 some r2
 else
 none
 else
 none
 else
 none
 else
 some false
 else
 none
 else
 none
 else
 none
 else
 bif c == 3 then
 bif n.isSome then
 bif inB 0 (n.getD TNode_.z).gkids.length then
 bif Option.isSome ((n.getD TNode_.z).gkids.getD 0 none) then
 (I.isE ((Option.getD ((n.getD TNode_.z).gkids.getD 0 none) TNode_.z).gNode.gKind)).bind fun r1 =>
 bif r1 then
 bif n.isSome then
 bif inB 1 (n.getD TNode_.z).gkids.length then
 bif Option.isSome ((n.getD TNode_.z).gkids.getD 1 none) then
 (I.isBlock ((Option.getD ((n.getD TNode_.z).gkids.getD 1 none) TNode_.z).gNode.gKind)).bind fun r2 =>
 some r2
 else
 none
 else
 none
 else
 none
 else
 some false
 else
 none
 else
 none
 else
 none
 else
 some false
 else
 none
 else
 none
 else
 none
 else
 none
 else
 none
 else
 none
 else
 bif c == 2 then
 bif n.isSome then
 bif inB 0 (n.getD TNode_.z).gkids.length then
 bif Option.isSome ((n.getD TNode_.z).gkids.getD 0 none) then
 (I.isE ((Option.getD ((n.getD TNode_.z).gkids.getD 0 none) TNode_.z).gNode.gKind)).bind fun r0 =>
 bif r0 then
 bif n.isSome then
 bif inB 1 (n.getD TNode_.z).gkids.length then
 bif Option.isSome ((n.getD TNode_.z).gkids.getD 1 none) then
 (I.isBlock ((Option.getD ((n.getD TNode_.z).gkids.getD 1 none) TNode_.z).gNode.gKind)).bind fun r1 =>
 some r1
 else
 none
 else
 none
 else
 none
 else
 some false
 else
 none
 else
 none
 else
 none
 else
 bif c == 3 then
 bif n.isSome then
 bif inB 0 (n.getD TNode_.z).gkids.length then
 bif Option.isSome ((n.getD TNode_.z).gkids.getD 0 none) then
 (I.isE ((Option.getD ((n.getD TNode_.z).gkids.getD 0 none) TNode_.z).gNode.gKind)).bind fun r0 =>
 bif r0 then
 bif n.isSome then
 bif inB 1 (n.getD TNode_.z).gkids.length then
 bif Option.isSome ((n.getD TNode_.z).gkids.getD 1 none) then
 (I.isBlock ((Option.getD ((n.getD TNode_.z).gkids.getD 1 none) TNode_.z).gNode.gKind)).bind fun r1 =>
 some r1
 else
 none
 else
 none
 else
 none
 else
 some false
 else
 none
 else
 none
 else
 none
 else
 some false
 else
 bif t15 == 13 then
 bif c == 2 then
 bif n.isSome then
 bif inB 0 (n.getD TNode_.z).gkids.length then
 bif Option.isSome ((n.getD TNode_.z).gkids.getD 0 none) then
 (I.isE ((Option.getD ((n.getD TNode_.z).gkids.getD 0 none) TNode_.z).gNode.gKind)).bind fun r0 =>
 bif r0 then
 bif n.isSome then
 bif inB 1 (n.getD TNode_.z).gkids.length then
 bif Option.isSome ((n.getD TNode_.z).gkids.getD 1 none) then
 (I.isBlock ((Option.getD ((n.getD TNode_.z).gkids.getD 1 none) TNode_.z).gNode.gKind)).bind fun r1 =>
 some r1
 else
 none
 else
 none
 else
 none
 else
 some false
 else
 none
 else
 none
 else
 none
 else
 some false
 else
 bif t15 == 16 then
 bif c == 0 then
 some true
 else
 bif c == 1 then
 bif n.isSome then
 bif inB 0 (n.getD TNode_.z).gkids.length then
 bif Option.isSome ((n.getD TNode_.z).gkids.getD 0 none) then
 (I.isE ((Option.getD ((n.getD TNode_.z).gkids.getD 0 none) TNode_.z).gNode.gKind)).bind fun r0 =>
 some r0
 else
 none
 else
 none
 else
 none
 else
 some false
 else
 bif t15 == 20 then
 bif c == 1 then
 bif n.isSome then
 bif inB 0 (n.getD TNode_.z).gkids.length then
 bif Option.isSome ((n.getD TNode_.z).gkids.getD 0 none) then
 some ((Option.getD ((n.getD TNode_.z).gkids.getD 0 none) TNode_.z).gNode.gKind == 7)
 else
 none
 else
 none
 else
 none
 else
 some false
 else
 bif t15 == 21 then
 (I.node_kinds_c63 n 0).bind fun r0 =>
 some r0
 else
 bif t15 == 23 then
 bif decide (c < 1) then
 some false
 else
 bif decide (c > 9) then
 some false
 else
 bif n.isSome then
 bif inB (IntKind.i64.wrap (c - 1)) (n.getD TNode_.z).gkids.length then
 bif Option.isSome ((n.getD TNode_.z).gkids.getD (IntKind.i64.wrap (c - 1)).toNat none) then
 (I.isBlock ((Option.getD ((n.getD TNode_.z).gkids.getD (IntKind.i64.wrap (c - 1)).toNat none) TNode_.z).gNode.gKind)).bind fun r0 =>
 bif !r0 then
 some false
 else
 bif n.isSome then
 bif inS 0 (IntKind.i64.wrap (c - 1)) (n.getD TNode_.z).gkids.length then
 I.node_kidsOk.l7918845908 (sub (n.getD TNode_.z).gkids 0 (IntKind.i64.wrap (c - 1))) (↑(sub (n.getD TNode_.z).gkids 0 (IntKind.i64.wrap (c - 1))).length : Int) 0
 else
 none
 else
 none
 else
 none
 else
 none
 else
 none
 else
 bif t15 == 24 then
 bif decide (c ≥ 1) then
 bif decide (c ≤ 60) then
 (I.node_kinds_c64 n 0).bind fun r0 =>
 some r0
 else
 some false
 else
 some false
 else
 some false :=
 (runA_eq 45 _ _).trans (by kernel_rfl)
theorem I.node_kidsOk.l7918845908_eq (t253 : List (Option TNode_)) (t254 : Int) (t255 : Int) : I.node_kidsOk.l7918845908 t253 t254 t255 =
 bif decide (t255 < t254) then
 bif inB t255 t253.length then
 bif Option.isSome (t253.getD t255.toNat none) then
 bif (Option.getD (t253.getD t255.toNat none) TNode_.z).gNode.gKind != 22 then
 some false
 else
 I.node_kidsOk.l7918845908 t253 t254 (IntKind.i64.wrap (t255 + 1))
 else
 none
 else
 none
 else
 some true :=
 (runA_eq 45 _ _).trans (by kernel_rfl)
theorem I.integer_eq (t : Int) : I.integer t =
 bif decide (t ≥ 3) then
 some (decide (t ≤ 10))
 else
 some false :=
 (fnA_eq 65 [PV.i IntKind.i64 t] rfl).trans (by kernel_rfl)
noncomputable def I.bits.l53 (t3 : Int) (t4 : Bool) : Option Int := Y.runA 88 (fun ct c => at_ ct [true, false, true, false, true] c) ⟨[(3, .i IntKind.i64 t3), (4, .b t4)], [], [], [], []⟩
noncomputable def I.bits.l215 (t3 : Int) (t7 : Bool) : Option Int := Y.runA 88 (fun ct c => at_ ct [true, false, true, false, true, true, true] c) ⟨[(3, .i IntKind.i64 t3), (7, .b t7)], [], [], [], []⟩
theorem I.bits_eq (t : Int) : I.bits t =
 bif t == 3 then
 I.bits.l53 t (t == 3)
 else
 I.bits.l53 t (t == 7) :=
 (fnA_eq 88 [PV.i IntKind.i64 t] rfl).trans (by kernel_rfl)
theorem I.bits.l53_eq (t3 : Int) (t4 : Bool) : I.bits.l53 t3 t4 =
 bif t4 then
 some 8
 else
 bif t3 == 4 then
 I.bits.l215 t3 (t3 == 4)
 else
 I.bits.l215 t3 (t3 == 8) :=
 (runA_eq 88 _ _).trans (by kernel_rfl)
theorem I.bits.l215_eq (t3 : Int) (t7 : Bool) : I.bits.l215 t3 t7 =
 bif t7 then
 some 16
 else
 bif t3 == 5 then
 bif t3 == 5 then
 some 32
 else
 some 64
 else
 bif t3 == 9 then
 some 32
 else
 some 64 :=
 (runA_eq 88 _ _).trans (by kernel_rfl)
theorem I.signed_eq (t : Int) : I.signed t =
 some (decide (t ≥ 7)) :=
 (fnA_eq 89 [PV.i IntKind.i64 t] rfl).trans (by kernel_rfl)
theorem I.into_eq (x : Int) (t : Int) : I.into x t =
 (I.bits t).bind fun r0 =>
 bif r0 == 64 then
 some (IntKind.i64.wrap x)
 else
 bif decide (0 ≤ r0) then
 (I.signed t).bind fun r1 =>
 bif r1 then
 bif decide (0 ≤ IntKind.u64.wrap (r0 - 1)) then
 bif shrI IntKind.u64 (bitAnd IntKind.u64 x (IntKind.u64.wrap (shlI IntKind.u64 1 r0 - 1))) (IntKind.u64.wrap (r0 - 1)) == 1 then
 bif decide (0 ≤ r0) then
 some (IntKind.i64.wrap (bitOr IntKind.u64 (bitAnd IntKind.u64 x (IntKind.u64.wrap (shlI IntKind.u64 1 r0 - 1))) (shlI IntKind.u64 18446744073709551615 r0)))
 else
 none
 else
 some (IntKind.i64.wrap (bitAnd IntKind.u64 x (IntKind.u64.wrap (shlI IntKind.u64 1 r0 - 1))))
 else
 none
 else
 some (IntKind.i64.wrap (bitAnd IntKind.u64 x (IntKind.u64.wrap (shlI IntKind.u64 1 r0 - 1))))
 else
 none :=
 (fnA_eq 79 [PV.i IntKind.u64 x, PV.i IntKind.i64 t] rfl).trans (by kernel_rfl)
theorem I.ValidValue_eq (v : TValue) : I.ValidValue v =
 bif v.gType == 1 then
 bif v.gN == 0 then
 some (bEq v.gText ((⟨#[]⟩ : ByteArray)))
 else
 bif v.gN == 1 then
 some (bEq v.gText ((⟨#[]⟩ : ByteArray)))
 else
 some false
 else
 bif v.gType == 2 then
 bif v.gN == 0 then
 some (decide ((↑v.gText.size : Int) ≤ 3000))
 else
 some false
 else
 (I.integer v.gType).bind fun r0 =>
 bif r0 then
 bif bEq v.gText ((⟨#[]⟩ : ByteArray)) then
 (I.into (IntKind.u64.wrap v.gN) v.gType).bind fun r1 =>
 some (r1 == v.gN)
 else
 some false
 else
 some false :=
 (fnA_eq 66 [PV.st (cells 97 v)] rfl).trans (by kernel_rfl)
theorem I.lower_eq (b : Int) : I.lower b =
 bif decide (b ≥ 97) then
 some (decide (b ≤ 122))
 else
 some false :=
 (fnA_eq 80 [PV.i IntKind.u8 b] rfl).trans (by kernel_rfl)
noncomputable def I.typeOfWord.l52 (s : ByteArray) (t5 : List ByteArray) (t6 : Int) (t7 : Int) : Option Int := Y.runA 91 (fun ct c => at_ ct [true, false, true, false, false] c) ⟨[(0, .s s), (5, .fl 9 t5), (6, .i IntKind.i64 t6), (7, .i IntKind.i64 t7)], [], [], [], []⟩
theorem I.typeOfWord_eq (s : ByteArray) : I.typeOfWord s =
 I.typeOfWord.l52 s (WL0) (↑WL0.length : Int) 0 :=
 (fnA_eq 91 [PV.s s] rfl).trans (by kernel_rfl)
theorem I.typeOfWord.l52_eq (s : ByteArray) (t5 : List ByteArray) (t6 : Int) (t7 : Int) : I.typeOfWord.l52 s t5 t6 t7 =
 bif decide (t7 < t6) then
 bif inB t7 t5.length then
 bif decide (t7 > 0) then
 bif bEq (t5.getD t7.toNat (⟨#[]⟩ : ByteArray)) s then
 some t7
 else
 I.typeOfWord.l52 s t5 t6 (IntKind.i64.wrap (t7 + 1))
 else
 I.typeOfWord.l52 s t5 t6 (IntKind.i64.wrap (t7 + 1))
 else
 none
 else
 some 0 :=
 (runA_eq 91 _ _).trans (by kernel_rfl)
noncomputable def I.isTaken.l52 (s : ByteArray) (t5 : List ByteArray) (t6 : Int) (t7 : Int) : Option Bool := Y.runA 81 (fun ct c => at_ ct [true, false, true, false, false] c) ⟨[(0, .s s), (5, .fl 9 t5), (6, .i IntKind.i64 t6), (7, .i IntKind.i64 t7)], [], [], [], []⟩
theorem I.isTaken_eq (s : ByteArray) : I.isTaken s =
 I.isTaken.l52 s (fieldsOf (ByteArray.mk ([102, 110, 32, 108, 101, 116, 32, 105, 102, 32, 101, 108, 115, 101, 32, 119, 104, 105, 108, 101, 32, 98, 114, 101, 97, 107, 32, 99, 111, 110, 116, 105, 110, 117, 101, 32, 114, 101, 116, 117, 114, 110, 32, 102, 97, 105, 108, 32, 119, 114, 105, 116, 101, 32, 115, 97, 121, 32, 116].append [114, 117, 101, 32, 102, 97, 108, 115, 101, 32, 114, 101, 97, 100, 32, 104, 97, 115, 32, 108, 105, 115, 116, 32, 116, 111, 111, 108, 32, 97, 114, 103, 32, 108, 101, 110, 32, 97, 116, 32, 99, 117, 116, 32, 102, 105, 110, 100, 32, 99, 104, 114, 32, 100, 101, 99, 32, 110, 117, 109]).toArray)) (↑(fieldsOf (ByteArray.mk ([102, 110, 32, 108, 101, 116, 32, 105, 102, 32, 101, 108, 115, 101, 32, 119, 104, 105, 108, 101, 32, 98, 114, 101, 97, 107, 32, 99, 111, 110, 116, 105, 110, 117, 101, 32, 114, 101, 116, 117, 114, 110, 32, 102, 97, 105, 108, 32, 119, 114, 105, 116, 101, 32, 115, 97, 121, 32, 116].append [114, 117, 101, 32, 102, 97, 108, 115, 101, 32, 114, 101, 97, 100, 32, 104, 97, 115, 32, 108, 105, 115, 116, 32, 116, 111, 111, 108, 32, 97, 114, 103, 32, 108, 101, 110, 32, 97, 116, 32, 99, 117, 116, 32, 102, 105, 110, 100, 32, 99, 104, 114, 32, 100, 101, 99, 32, 110, 117, 109]).toArray)).length : Int) 0 :=
 (fnA_eq 81 [PV.s s] rfl).trans (by kernel_rfl)
theorem I.isTaken.l52_eq (s : ByteArray) (t5 : List ByteArray) (t6 : Int) (t7 : Int) : I.isTaken.l52 s t5 t6 t7 =
 bif decide (t7 < t6) then
 bif inB t7 t5.length then
 bif bEq (t5.getD t7.toNat (⟨#[]⟩ : ByteArray)) s then
 some true
 else
 I.isTaken.l52 s t5 t6 (IntKind.i64.wrap (t7 + 1))
 else
 none
 else
 (I.typeOfWord s).bind fun r0 =>
 some (decide (r0 > 0)) :=
 (runA_eq 81 _ _).trans (by kernel_rfl)
theorem I.digit_eq (b : Int) : I.digit b =
 bif decide (b ≥ 48) then
 some (decide (b ≤ 57))
 else
 some false :=
 (fnA_eq 92 [PV.i IntKind.u8 b] rfl).trans (by kernel_rfl)
theorem I.wordy_eq (b : Int) : I.wordy b =
 (I.lower b).bind fun r0 =>
 bif r0 then
 some true
 else
 (I.digit b).bind fun r1 =>
 bif r1 then
 some true
 else
 some (b == 95) :=
 (fnA_eq 82 [PV.i IntKind.u8 b] rfl).trans (by kernel_rfl)
noncomputable def I.nameOk.l116 (s : ByteArray) (i : Int) : Option Bool := Y.runA 67 (fun ct c => at_ ct [true, true, false, true, false, false] c) ⟨[(0, .s s), (3, .i IntKind.i64 i)], [], [], [], []⟩
theorem I.nameOk_eq (s : ByteArray) : I.nameOk s =
 bif decide ((↑s.size : Int) < 1) then
 some false
 else
 bif decide ((↑s.size : Int) > 30) then
 some false
 else
 bif inB 0 s.size then
 (I.lower (bt s 0)).bind fun r0 =>
 bif !r0 then
 some false
 else
 (I.isTaken s).bind fun r1 =>
 bif r1 then
 some false
 else
 I.nameOk.l116 s 0
 else
 none :=
 (fnA_eq 67 [PV.s s] rfl).trans (by kernel_rfl)
theorem I.nameOk.l116_eq (s : ByteArray) (i : Int) : I.nameOk.l116 s i =
 bif decide (i < (↑s.size : Int)) then
 bif inB i s.size then
 (I.wordy (bt s i)).bind fun r0 =>
 bif !r0 then
 some false
 else
 I.nameOk.l116 s (IntKind.i64.wrap (i + 1))
 else
 none
 else
 some true :=
 (runA_eq 67 _ _).trans (by kernel_rfl)
noncomputable def I.node_fieldsOk.l7551 (n : Option TNode_) (op : Bool) (typ : Bool) (num : Bool) (text : Bool) (t35 : Int) (t123 : Bool) : Option Bool := Y.runA 46 (fun ct c => at_ ct [true, true, false, true, false, true, true, true, true, true, true, true] c) ⟨[(0, .fp 54 n), (3, .b op), (4, .b typ), (5, .b num), (6, .b text), (35, .i IntKind.i64 t35), (123, .b t123)], [], [], [], []⟩
theorem I.node_fieldsOk_eq (n : Option TNode_) : I.node_fieldsOk n =
 bif n.isSome then
 bif n.isSome then
 bif n.isSome then
 bif n.isSome then
 bif n.isSome then
 bif (n.getD TNode_.z).gNode.gKind == 1 then
 bif (n.getD TNode_.z).gNode.gOp == 0 then
 bif bEq (n.getD TNode_.z).gNode.gText ((⟨#[]⟩ : ByteArray)) then
 bif n.isSome then
 (I.integer ((n.getD TNode_.z).gNode.gType)).bind fun r0 =>
 bif r0 then
 bif n.isSome then
 bif n.isSome then
 (I.ValidValue (TValue.mk (n.getD TNode_.z).gNode.gType (n.getD TNode_.z).gNode.gN ((⟨#[]⟩ : ByteArray)))).bind fun r1 =>
 bif r1 then
 bif n.isSome then
 bif decide ((n.getD TNode_.z).gNode.gN ≥ 0) then
 some true
 else
 bif n.isSome then
 some ((n.getD TNode_.z).gNode.gType == 6)
 else
 none
 else
 none
 else
 some false
 else
 none
 else
 none
 else
 some false
 else
 none
 else
 some false
 else
 some false
 else
 bif (n.getD TNode_.z).gNode.gKind == 2 then
 bif (n.getD TNode_.z).gNode.gOp == 0 then
 bif (n.getD TNode_.z).gNode.gType == 0 then
 bif (n.getD TNode_.z).gNode.gN == 0 then
 bif n.isSome then
 some (decide ((↑(n.getD TNode_.z).gNode.gText.size : Int) ≤ 3000))
 else
 none
 else
 some false
 else
 some false
 else
 some false
 else
 bif (n.getD TNode_.z).gNode.gKind == 3 then
 bif (n.getD TNode_.z).gNode.gOp == 0 then
 bif (n.getD TNode_.z).gNode.gType == 0 then
 bif bEq (n.getD TNode_.z).gNode.gText ((⟨#[]⟩ : ByteArray)) then
 bif n.isSome then
 bif (n.getD TNode_.z).gNode.gN == 0 then
 some true
 else
 bif n.isSome then
 some ((n.getD TNode_.z).gNode.gN == 1)
 else
 none
 else
 none
 else
 some false
 else
 some false
 else
 some false
 else
 bif (n.getD TNode_.z).gNode.gKind == 4 then
 I.node_fieldsOk.l7551 n ((n.getD TNode_.z).gNode.gOp == 0) ((n.getD TNode_.z).gNode.gType == 0) ((n.getD TNode_.z).gNode.gN == 0) (bEq (n.getD TNode_.z).gNode.gText ((⟨#[]⟩ : ByteArray))) ((n.getD TNode_.z).gNode.gKind) ((n.getD TNode_.z).gNode.gKind == 4)
 else
 bif (n.getD TNode_.z).gNode.gKind == 7 then
 I.node_fieldsOk.l7551 n ((n.getD TNode_.z).gNode.gOp == 0) ((n.getD TNode_.z).gNode.gType == 0) ((n.getD TNode_.z).gNode.gN == 0) (bEq (n.getD TNode_.z).gNode.gText ((⟨#[]⟩ : ByteArray))) ((n.getD TNode_.z).gNode.gKind) ((n.getD TNode_.z).gNode.gKind == 7)
 else
 bif (n.getD TNode_.z).gNode.gKind == 10 then
 I.node_fieldsOk.l7551 n ((n.getD TNode_.z).gNode.gOp == 0) ((n.getD TNode_.z).gNode.gType == 0) ((n.getD TNode_.z).gNode.gN == 0) (bEq (n.getD TNode_.z).gNode.gText ((⟨#[]⟩ : ByteArray))) ((n.getD TNode_.z).gNode.gKind) ((n.getD TNode_.z).gNode.gKind == 10)
 else
 I.node_fieldsOk.l7551 n ((n.getD TNode_.z).gNode.gOp == 0) ((n.getD TNode_.z).gNode.gType == 0) ((n.getD TNode_.z).gNode.gN == 0) (bEq (n.getD TNode_.z).gNode.gText ((⟨#[]⟩ : ByteArray))) ((n.getD TNode_.z).gNode.gKind) ((n.getD TNode_.z).gNode.gKind == 11)
 else
 none
 else
 none
 else
 none
 else
 none
 else
 none :=
 (fnA_eq 46 [PV.fp 54 n] rfl).trans (by kernel_rfl)
theorem I.node_fieldsOk.l7551_eq (n : Option TNode_) (op : Bool) (typ : Bool) (num : Bool) (text : Bool) (t35 : Int) (t123 : Bool) : I.node_fieldsOk.l7551 n op typ num text t35 t123 =
 bif t123 then
 bif op then
 bif typ then
 bif num then
 bif n.isSome then
 (I.nameOk ((n.getD TNode_.z).gNode.gText)).bind fun r0 =>
 some r0
 else
 none
 else
 some false
 else
 some false
 else
 some false
 else
 bif t35 == 5 then
 bif typ then
 bif num then
 bif text then
 bif n.isSome then
 bif decide ((n.getD TNode_.z).gNode.gOp ≥ 1) then
 bif n.isSome then
 some (decide ((n.getD TNode_.z).gNode.gOp ≤ 3))
 else
 none
 else
 some false
 else
 none
 else
 some false
 else
 some false
 else
 some false
 else
 bif t35 == 6 then
 bif typ then
 bif num then
 bif text then
 bif n.isSome then
 bif decide ((n.getD TNode_.z).gNode.gOp ≥ 1) then
 bif n.isSome then
 some (decide ((n.getD TNode_.z).gNode.gOp ≤ 18))
 else
 none
 else
 some false
 else
 none
 else
 some false
 else
 some false
 else
 some false
 else
 bif t35 == 8 then
 bif typ then
 bif num then
 some text
 else
 some false
 else
 some false
 else
 bif t35 == 9 then
 bif op then
 bif num then
 bif text then
 bif n.isSome then
 (I.integer ((n.getD TNode_.z).gNode.gType)).bind fun r0 =>
 some r0
 else
 none
 else
 some false
 else
 some false
 else
 some false
 else
 bif t35 == 22 then
 bif op then
 bif num then
 bif n.isSome then
 (I.nameOk ((n.getD TNode_.z).gNode.gText)).bind fun r0 =>
 bif r0 then
 bif n.isSome then
 bif decide ((n.getD TNode_.z).gNode.gType ≥ 1) then
 bif n.isSome then
 some (decide ((n.getD TNode_.z).gNode.gType ≤ 10))
 else
 none
 else
 some false
 else
 none
 else
 some false
 else
 none
 else
 some false
 else
 some false
 else
 bif t35 == 23 then
 bif op then
 bif num then
 bif n.isSome then
 (I.nameOk ((n.getD TNode_.z).gNode.gText)).bind fun r0 =>
 bif r0 then
 bif n.isSome then
 bif decide ((n.getD TNode_.z).gNode.gType ≥ 0) then
 bif n.isSome then
 some (decide ((n.getD TNode_.z).gNode.gType ≤ 10))
 else
 none
 else
 some false
 else
 none
 else
 some false
 else
 none
 else
 some false
 else
 some false
 else
 bif op then
 bif typ then
 bif num then
 some text
 else
 some false
 else
 some false
 else
 some false :=
 (runA_eq 46 _ _).trans (by kernel_rfl)
noncomputable def I.node_ok.l116 (above : Int) (t22 : List (Option TNode_)) (t23 : Int) (t24 : Int) : Option Bool := Y.runA 28 (fun ct c => at_ ct [true, true, false, true, false, false] c) ⟨[(1, .i IntKind.i64 above), (22, .fl 45 t22), (23, .i IntKind.i64 t23), (24, .i IntKind.i64 t24)], [], [], [], []⟩
theorem I.node_ok_eq (n : Option TNode_) (above : Int) : I.node_ok n above =
 bif decide (above > 60) then
 some false
 else
 (I.node_kidsOk n).bind fun r0 =>
 bif !r0 then
 some false
 else
 (I.node_fieldsOk n).bind fun r1 =>
 bif !r1 then
 some false
 else
 bif n.isSome then
 I.node_ok.l116 above ((n.getD TNode_.z).gkids) (↑(n.getD TNode_.z).gkids.length : Int) 0
 else
 none :=
 (fnA_eq 28 [PV.fp 54 n, PV.i IntKind.i64 above] rfl).trans (by kernel_rfl)
theorem I.node_ok.l116_eq (above : Int) (t22 : List (Option TNode_)) (t23 : Int) (t24 : Int) : I.node_ok.l116 above t22 t23 t24 =
 bif decide (t24 < t23) then
 bif inB t24 t22.length then
 (I.node_ok (t22.getD t24.toNat none) (IntKind.i64.wrap (above + 1))).bind fun r0 =>
 bif !r0 then
 some false
 else
 I.node_ok.l116 above t22 t23 (IntKind.i64.wrap (t24 + 1))
 else
 none
 else
 some true :=
 (runA_eq 28 _ _).trans (by kernel_rfl)
theorem I.validRoot_eq (t : TTree) : I.validRoot t =
 (I.grow t).bind fun r0 =>
 bif Option.isNone r0 then
 some none
 else
 bif Option.isSome r0 then
 bif (Option.getD r0 TNode_.z).gNode.gKind != 24 then
 some none
 else
 (I.node_ok r0 0).bind fun r1 =>
 bif !r1 then
 some none
 else
 some r0
 else
 none :=
 (fnA_eq 14 [PV.st (cells 29 t)] rfl).trans (by kernel_rfl)
theorem G.strings_Builder_WriteString_eq (b : (Bool × List Int)) (s : ByteArray) : G.strings_Builder_WriteString b s =
 bif room (b.snd.length + s.size) 1 then
 some (((↑s.size : Int), true), (true, b.snd ++ strB s))
 else
 none :=
 (fnB_eq 15 [PV.ad (Base.obj 0) 0, PV.s s] [[PV.slf 49 0 b.fst, PV.ol 5 b.snd]] rfl).trans (by kernel_rfl)
theorem I.node_lines_1_eq (o0 : (Bool × List Int)) (o1 : ByteArray) (o2 : Unit) (s : ByteArray) : I.node_lines_1 o0 o1 o2 s =
 bif decide (o1.size + s.size < 2 ^ 62) then
 bif decide ((o1 ++ s).size + ((⟨#[10]⟩ : ByteArray)).size < 2 ^ 62) then
 (G.strings_Builder_WriteString o0 (o1 ++ s ++ ⟨#[10]⟩)).bind fun r0 =>
 some ((), ((r0.snd.fst, r0.snd.snd), (o1, ())))
 else
 none
 else
 none :=
 (fnB_eq 31 [PV.s s, PV.ad (Base.obj 2) 0, PV.ad (Base.obj 1) 0] [[PV.slf 49 0 o0.fst, PV.ol 5 o0.snd], [PV.s o1], [PV.ad (Base.obj 0) 0]] rfl).trans (by kernel_rfl)
noncomputable def I.node_lines_2.l12 (t9 : List (Option TNode_)) (t10 : Int) (t11 : Int) (m : Bool) (m_1 : List Int) (m_2 : ByteArray) : Option ((Unit × ((Bool × List Int) × (ByteArray × Unit)))) := Y.runB 32 (fun ct c => at_ ct [true, false, false] c) ⟨[(1, .ad (.obj 1) 0), (2, .ad (.obj 2) 0), (9, .fl 45 t9), (10, .i IntKind.i64 t10), (11, .i IntKind.i64 t11)], [], [[.slf 49 0 m, .ol 5 m_1], [.s m_2], [.ad (.obj 0) 0]], [], []⟩
theorem I.node_lines_2_eq (o0 : (Bool × List Int)) (o1 : ByteArray) (o2 : Unit) (k : Option TNode_) : I.node_lines_2 o0 o1 o2 k =
 bif k.isSome then
 I.node_lines_2.l12 ((k.getD TNode_.z).gkids) (↑(k.getD TNode_.z).gkids.length : Int) 0 o0.fst o0.snd o1
 else
 none :=
 (fnB_eq 32 [PV.fp 54 k, PV.ad (Base.obj 1) 0, PV.ad (Base.obj 2) 0] [[PV.slf 49 0 o0.fst, PV.ol 5 o0.snd], [PV.s o1], [PV.ad (Base.obj 0) 0]] rfl).trans (by kernel_rfl)
theorem I.node_lines_2.l12_eq (t9 : List (Option TNode_)) (t10 : Int) (t11 : Int) (m : Bool) (m_1 : List Int) (m_2 : ByteArray) : I.node_lines_2.l12 t9 t10 t11 m m_1 m_2 =
 bif decide (t11 < t10) then
 bif inB t11 t9.length then
 bif decide (m_2.size + ((⟨#[32, 32]⟩ : ByteArray)).size < 2 ^ 62) then
 (I.node_lines (m, m_1) (t9.getD t11.toNat none) (m_2 ++ ⟨#[32, 32]⟩)).bind fun r0 =>
 I.node_lines_2.l12 t9 t10 (IntKind.i64.wrap (t11 + 1)) r0.snd.fst r0.snd.snd m_2
 else
 none
 else
 none
 else
 some ((), ((m, m_1), (m_2, ()))) :=
 (runB_eq 32 _ _).trans (by kernel_rfl)
theorem I.node_show_1_eq (k : Option TNode_) : I.node_show_1 k =
 bif k.isSome then
 bif (k.getD TNode_.z).gNode.gKind == 6 then
 (I.node_show k).bind fun r0 =>
 bif decide (((⟨#[40]⟩ : ByteArray)).size + ByteArray.size r0 < 2 ^ 62) then
 bif decide (((⟨#[40]⟩ : ByteArray) ++ r0).size + ((⟨#[41]⟩ : ByteArray)).size < 2 ^ 62) then
 some ((⟨#[40]⟩ : ByteArray) ++ r0 ++ ⟨#[41]⟩)
 else
 none
 else
 none
 else
 (I.node_show k).bind fun r0 =>
 some r0
 else
 none :=
 (fnA_eq 49 [PV.fp 54 k] rfl).trans (by kernel_rfl)
noncomputable def I.node_show_2.l116 (l : List ByteArray) (t8 : List (Option TNode_)) (t9 : Int) (t10 : Int) (m : Option TNode_) : Option ((ByteArray × Option TNode_)) := Y.runB 50 (fun ct c => at_ ct [true, true, false, true, false, false] c) ⟨[(2, .ol 9 l), (8, .fl 45 t8), (9, .i IntKind.i64 t9), (10, .i IntKind.i64 t10)], [], [[.fp 54 m]], [], []⟩
theorem I.node_show_2_eq (o0 : Option TNode_) : I.node_show_2 o0 =
 bif o0.isSome then
 I.node_show_2.l116 ([]) ((o0.getD TNode_.z).gkids) (↑(o0.getD TNode_.z).gkids.length : Int) 0 o0
 else
 none :=
 (fnB_eq 50 [PV.ad (Base.obj 0) 0] [[PV.fp 54 o0]] rfl).trans (by kernel_rfl)
theorem I.node_show_2.l116_eq (l : List ByteArray) (t8 : List (Option TNode_)) (t9 : Int) (t10 : Int) (m : Option TNode_) : I.node_show_2.l116 l t8 t9 t10 m =
 bif decide (t10 < t9) then
 bif inB t10 t8.length then
 (I.node_show (t8.getD t10.toNat none)).bind fun r0 =>
 bif room (l.length + [r0].length) 16 then
 I.node_show_2.l116 (l ++ [r0]) t8 t9 (IntKind.i64.wrap (t10 + 1)) m
 else
 none
 else
 none
 else
 bif decide (l.length ≤ 140737488355328) && decide ((joinB l ((⟨#[44, 32]⟩ : ByteArray))).size ≤ 140737488355328) then
 bif decide (((⟨#[40]⟩ : ByteArray)).size + (joinB l ((⟨#[44, 32]⟩ : ByteArray))).size < 2 ^ 62) then
 bif decide (((⟨#[40]⟩ : ByteArray) ++ joinB l ((⟨#[44, 32]⟩ : ByteArray))).size + ((⟨#[41]⟩ : ByteArray)).size < 2 ^ 62) then
 some ((⟨#[40]⟩ : ByteArray) ++ joinB l ((⟨#[44, 32]⟩ : ByteArray)) ++ ⟨#[41]⟩, m)
 else
 none
 else
 none
 else
 none :=
 (runB_eq 50 _ _).trans (by kernel_rfl)
theorem G.strings_Builder_WriteByte_eq (b : (Bool × List Int)) (c : Int) : G.strings_Builder_WriteByte b c =
 bif room (b.snd.length + [c].length) 1 then
 some (true, (true, b.snd ++ [c]))
 else
 none :=
 (fnB_eq 70 [PV.ad (Base.obj 0) 0, PV.i IntKind.u8 c] [[PV.slf 49 0 b.fst, PV.ol 5 b.snd]] rfl).trans (by kernel_rfl)
noncomputable def I.quote.l244 (s : ByteArray) (i : Int) (m : Bool) (m_1 : List Int) : Option ByteArray := Y.runA 52 (fun ct c => at_ ct [true, true, true, false, true, false, false] c) ⟨[(0, .s s), (3, .ad (.obj 0) 0), (4, .i IntKind.i64 i)], [], [[.slf 49 0 m, .ol 5 m_1]], [], []⟩
theorem I.quote_eq (s : ByteArray) : I.quote s =
 (G.strings_Builder_WriteByte (false, []) 34).bind fun r0 =>
 I.quote.l244 s 0 r0.snd.fst r0.snd.snd :=
 (fnA_eq 52 [PV.s s] rfl).trans (by kernel_rfl)
theorem I.quote.l244_eq (s : ByteArray) (i : Int) (m : Bool) (m_1 : List Int) : I.quote.l244 s i m m_1 =
 bif decide (i < (↑s.size : Int)) then
 bif inB i s.size then
 bif decide (bt s i < 32) then
 (G.strings_Builder_WriteByte (m, m_1) 92).bind fun r0 =>
 bif inB (shrI IntKind.u8 (bt s i) 4) ((⟨#[48, 49, 50, 51, 52, 53, 54, 55, 56, 57, 97, 98, 99, 100, 101, 102]⟩ : ByteArray)).size then
 (G.strings_Builder_WriteByte r0.snd (bt ((⟨#[48, 49, 50, 51, 52, 53, 54, 55, 56, 57, 97, 98, 99, 100, 101, 102]⟩ : ByteArray)) (shrI IntKind.u8 (bt s i) 4))).bind fun r1 =>
 bif inB (bitAnd IntKind.u8 (bt s i) 15) ((⟨#[48, 49, 50, 51, 52, 53, 54, 55, 56, 57, 97, 98, 99, 100, 101, 102]⟩ : ByteArray)).size then
 (G.strings_Builder_WriteByte r1.snd (bt ((⟨#[48, 49, 50, 51, 52, 53, 54, 55, 56, 57, 97, 98, 99, 100, 101, 102]⟩ : ByteArray)) (bitAnd IntKind.u8 (bt s i) 15))).bind fun r2 =>
 I.quote.l244 s (IntKind.i64.wrap (i + 1)) r2.snd.fst r2.snd.snd
 else
 none
 else
 none
 else
 bif decide (bt s i > 126) then
 (G.strings_Builder_WriteByte (m, m_1) 92).bind fun r0 =>
 bif inB (shrI IntKind.u8 (bt s i) 4) ((⟨#[48, 49, 50, 51, 52, 53, 54, 55, 56, 57, 97, 98, 99, 100, 101, 102]⟩ : ByteArray)).size then
 (G.strings_Builder_WriteByte r0.snd (bt ((⟨#[48, 49, 50, 51, 52, 53, 54, 55, 56, 57, 97, 98, 99, 100, 101, 102]⟩ : ByteArray)) (shrI IntKind.u8 (bt s i) 4))).bind fun r1 =>
 bif inB (bitAnd IntKind.u8 (bt s i) 15) ((⟨#[48, 49, 50, 51, 52, 53, 54, 55, 56, 57, 97, 98, 99, 100, 101, 102]⟩ : ByteArray)).size then
 (G.strings_Builder_WriteByte r1.snd (bt ((⟨#[48, 49, 50, 51, 52, 53, 54, 55, 56, 57, 97, 98, 99, 100, 101, 102]⟩ : ByteArray)) (bitAnd IntKind.u8 (bt s i) 15))).bind fun r2 =>
 I.quote.l244 s (IntKind.i64.wrap (i + 1)) r2.snd.fst r2.snd.snd
 else
 none
 else
 none
 else
 bif bt s i == 34 then
 (G.strings_Builder_WriteByte (m, m_1) 92).bind fun r0 =>
 bif inB (shrI IntKind.u8 (bt s i) 4) ((⟨#[48, 49, 50, 51, 52, 53, 54, 55, 56, 57, 97, 98, 99, 100, 101, 102]⟩ : ByteArray)).size then
 (G.strings_Builder_WriteByte r0.snd (bt ((⟨#[48, 49, 50, 51, 52, 53, 54, 55, 56, 57, 97, 98, 99, 100, 101, 102]⟩ : ByteArray)) (shrI IntKind.u8 (bt s i) 4))).bind fun r1 =>
 bif inB (bitAnd IntKind.u8 (bt s i) 15) ((⟨#[48, 49, 50, 51, 52, 53, 54, 55, 56, 57, 97, 98, 99, 100, 101, 102]⟩ : ByteArray)).size then
 (G.strings_Builder_WriteByte r1.snd (bt ((⟨#[48, 49, 50, 51, 52, 53, 54, 55, 56, 57, 97, 98, 99, 100, 101, 102]⟩ : ByteArray)) (bitAnd IntKind.u8 (bt s i) 15))).bind fun r2 =>
 I.quote.l244 s (IntKind.i64.wrap (i + 1)) r2.snd.fst r2.snd.snd
 else
 none
 else
 none
 else
 bif bt s i == 92 then
 (G.strings_Builder_WriteByte (m, m_1) 92).bind fun r0 =>
 bif inB (shrI IntKind.u8 (bt s i) 4) ((⟨#[48, 49, 50, 51, 52, 53, 54, 55, 56, 57, 97, 98, 99, 100, 101, 102]⟩ : ByteArray)).size then
 (G.strings_Builder_WriteByte r0.snd (bt ((⟨#[48, 49, 50, 51, 52, 53, 54, 55, 56, 57, 97, 98, 99, 100, 101, 102]⟩ : ByteArray)) (shrI IntKind.u8 (bt s i) 4))).bind fun r1 =>
 bif inB (bitAnd IntKind.u8 (bt s i) 15) ((⟨#[48, 49, 50, 51, 52, 53, 54, 55, 56, 57, 97, 98, 99, 100, 101, 102]⟩ : ByteArray)).size then
 (G.strings_Builder_WriteByte r1.snd (bt ((⟨#[48, 49, 50, 51, 52, 53, 54, 55, 56, 57, 97, 98, 99, 100, 101, 102]⟩ : ByteArray)) (bitAnd IntKind.u8 (bt s i) 15))).bind fun r2 =>
 I.quote.l244 s (IntKind.i64.wrap (i + 1)) r2.snd.fst r2.snd.snd
 else
 none
 else
 none
 else
 (G.strings_Builder_WriteByte (m, m_1) (bt s i)).bind fun r0 =>
 I.quote.l244 s (IntKind.i64.wrap (i + 1)) r0.snd.fst r0.snd.snd
 else
 none
 else
 (G.strings_Builder_WriteByte (m, m_1) 34).bind fun r0 =>
 some (strOfBytes (List.map (fun (x : Int) ↦ x) r0.snd.snd)) :=
 (runA_eq 52 _ _).trans (by kernel_rfl)
theorem I.node_show_eq (n : Option TNode_) : I.node_show n =
 bif n.isSome then
 bif (n.getD TNode_.z).gNode.gKind == 1 then
 bif n.isSome then
 bif decide (0 ≤ IntKind.u64.wrap (n.getD TNode_.z).gNode.gN) && decide (IntKind.u64.wrap (n.getD TNode_.z).gNode.gN < 18446744073709551616) && 10 == 10 then
 bif n.isSome then
 bif (n.getD TNode_.z).gNode.gType != 10 then
 bif n.isSome then
 bif inB (n.getD TNode_.z).gNode.gType WL0.length then
 bif decide ((ByteArray.mk (Lib.decDigits (IntKind.u64.wrap (n.getD TNode_.z).gNode.gN).toNat).toArray).size + ByteArray.size (WL0.getD (n.getD TNode_.z).gNode.gType.toNat (⟨#[]⟩ : ByteArray)) < 2 ^ 62) then
 some (ByteArray.mk (Lib.decDigits (IntKind.u64.wrap (n.getD TNode_.z).gNode.gN).toNat).toArray ++ WL0.getD (n.getD TNode_.z).gNode.gType.toNat (⟨#[]⟩ : ByteArray))
 else
 none
 else
 none
 else
 none
 else
 some (ByteArray.mk (Lib.decDigits (IntKind.u64.wrap (n.getD TNode_.z).gNode.gN).toNat).toArray)
 else
 none
 else
 none
 else
 none
 else
 bif (n.getD TNode_.z).gNode.gKind == 2 then
 bif n.isSome then
 (I.quote ((n.getD TNode_.z).gNode.gText)).bind fun r0 =>
 some r0
 else
 none
 else
 bif (n.getD TNode_.z).gNode.gKind == 3 then
 bif n.isSome then
 bif (n.getD TNode_.z).gNode.gN == 1 then
 some ((⟨#[116, 114, 117, 101]⟩ : ByteArray))
 else
 some ((⟨#[102, 97, 108, 115, 101]⟩ : ByteArray))
 else
 none
 else
 bif (n.getD TNode_.z).gNode.gKind == 4 then
 bif n.isSome then
 some ((n.getD TNode_.z).gNode.gText)
 else
 none
 else
 bif (n.getD TNode_.z).gNode.gKind == 5 then
 bif n.isSome then
 bif inB (n.getD TNode_.z).gNode.gOp WL3.length then
 bif n.isSome then
 bif inB 0 (n.getD TNode_.z).gkids.length then
 (I.node_show_1 ((n.getD TNode_.z).gkids.getD 0 none)).bind fun r0 =>
 bif decide (ByteArray.size (WL3.getD (n.getD TNode_.z).gNode.gOp.toNat (⟨#[]⟩ : ByteArray)) + ByteArray.size r0 < 2 ^ 62) then
 some (WL3.getD (n.getD TNode_.z).gNode.gOp.toNat (⟨#[]⟩ : ByteArray) ++ r0)
 else
 none
 else
 none
 else
 none
 else
 none
 else
 none
 else
 bif (n.getD TNode_.z).gNode.gKind == 6 then
 bif n.isSome then
 bif inB 0 (n.getD TNode_.z).gkids.length then
 (I.node_show_1 ((n.getD TNode_.z).gkids.getD 0 none)).bind fun r0 =>
 bif decide (ByteArray.size r0 + ((⟨#[32]⟩ : ByteArray)).size < 2 ^ 62) then
 bif n.isSome then
 bif inB (n.getD TNode_.z).gNode.gOp WL1.length then
 bif decide ((r0 ++ ⟨#[32]⟩).size + ByteArray.size (WL1.getD (n.getD TNode_.z).gNode.gOp.toNat (⟨#[]⟩ : ByteArray)) < 2 ^ 62) then
 bif decide ((r0 ++ ⟨#[32]⟩ ++ WL1.getD (n.getD TNode_.z).gNode.gOp.toNat (⟨#[]⟩ : ByteArray)).size + ((⟨#[32]⟩ : ByteArray)).size < 2 ^ 62) then
 bif n.isSome then
 bif inB 1 (n.getD TNode_.z).gkids.length then
 (I.node_show_1 ((n.getD TNode_.z).gkids.getD 1 none)).bind fun r1 =>
 bif decide ((r0 ++ ⟨#[32]⟩ ++ WL1.getD (n.getD TNode_.z).gNode.gOp.toNat (⟨#[]⟩ : ByteArray) ++ ⟨#[32]⟩).size + ByteArray.size r1 < 2 ^ 62) then
 some (r0 ++ ⟨#[32]⟩ ++ WL1.getD (n.getD TNode_.z).gNode.gOp.toNat (⟨#[]⟩ : ByteArray) ++ ⟨#[32]⟩ ++ r1)
 else
 none
 else
 none
 else
 none
 else
 none
 else
 none
 else
 none
 else
 none
 else
 none
 else
 none
 else
 none
 else
 bif (n.getD TNode_.z).gNode.gKind == 7 then
 bif n.isSome then
 (I.node_show_2 n).bind fun r0 =>
 same [[PV.fp 54 n]] [[PV.fp 54 r0.snd]]
 (bif decide ((n.getD TNode_.z).gNode.gText.size + ByteArray.size r0.fst < 2 ^ 62) then
 some ((n.getD TNode_.z).gNode.gText ++ r0.fst)
 else
 none)
 else
 none
 else
 bif (n.getD TNode_.z).gNode.gKind == 8 then
 bif n.isSome then
 bif inB (n.getD TNode_.z).gNode.gOp WL2.length then
 (I.node_show_2 n).bind fun r0 =>
 same [[PV.fp 54 n]] [[PV.fp 54 r0.snd]]
 (bif decide (ByteArray.size (WL2.getD (n.getD TNode_.z).gNode.gOp.toNat (⟨#[]⟩ : ByteArray)) + ByteArray.size r0.fst < 2 ^ 62) then
 some (WL2.getD (n.getD TNode_.z).gNode.gOp.toNat (⟨#[]⟩ : ByteArray) ++ r0.fst)
 else
 none)
 else
 none
 else
 none
 else
 bif n.isSome then
 bif inB (n.getD TNode_.z).gNode.gType WL0.length then
 (I.node_show_2 n).bind fun r0 =>
 same [[PV.fp 54 n]] [[PV.fp 54 r0.snd]]
 (bif decide (ByteArray.size (WL0.getD (n.getD TNode_.z).gNode.gType.toNat (⟨#[]⟩ : ByteArray)) + ByteArray.size r0.fst < 2 ^ 62) then
 some (WL0.getD (n.getD TNode_.z).gNode.gType.toNat (⟨#[]⟩ : ByteArray) ++ r0.fst)
 else
 none)
 else
 none
 else
 none
 else
 none :=
 (fnA_eq 33 [PV.fp 54 n] rfl).trans (by kernel_rfl)
noncomputable def I.node_lines.l64488 (n : Option TNode_) (m : Bool) (m_1 : List Int) (m_2 : ByteArray) : Option ((Unit × (Bool × List Int))) := Y.runB 17 (fun ct c => at_ ct [true, true, true, true, false, true, true, true, true, true, false, true, false, false, false] c) ⟨[(0, .fp 54 n), (6, .clo 31 [(2, 0), (1, 0)]), (7, .clo 32 [(1, 0), (2, 0)])], [], [[.slf 49 0 m, .ol 5 m_1], [.s m_2], [.ad (.obj 0) 0]], [], []⟩
theorem I.node_lines_eq (b : (Bool × List Int)) (n : Option TNode_) (ind : ByteArray) : I.node_lines b n ind =
 bif n.isSome then
 bif (n.getD TNode_.z).gNode.gKind == 10 then
 bif n.isSome then
 bif decide (((⟨#[108, 101, 116, 32]⟩ : ByteArray)).size + (n.getD TNode_.z).gNode.gText.size < 2 ^ 62) then
 bif decide (((⟨#[108, 101, 116, 32]⟩ : ByteArray) ++ (n.getD TNode_.z).gNode.gText).size + ((⟨#[32, 61, 32]⟩ : ByteArray)).size < 2 ^ 62) then
 bif n.isSome then
 bif inB 0 (n.getD TNode_.z).gkids.length then
 (I.node_show ((n.getD TNode_.z).gkids.getD 0 none)).bind fun r0 =>
 bif decide (((⟨#[108, 101, 116, 32]⟩ : ByteArray) ++ (n.getD TNode_.z).gNode.gText ++ ⟨#[32, 61, 32]⟩).size + ByteArray.size r0 < 2 ^ 62) then
 bif decide (((⟨#[108, 101, 116, 32]⟩ : ByteArray) ++ (n.getD TNode_.z).gNode.gText ++ ⟨#[32, 61, 32]⟩ ++ r0).size + ((⟨#[59]⟩ : ByteArray)).size < 2 ^ 62) then
 (I.node_lines_1 b ind () ((⟨#[108, 101, 116, 32]⟩ : ByteArray) ++ (n.getD TNode_.z).gNode.gText ++ ⟨#[32, 61, 32]⟩ ++ r0 ++ ⟨#[59]⟩)).bind fun r1 =>
 some ((), (r1.snd.fst.fst, r1.snd.fst.snd))
 else
 none
 else
 none
 else
 none
 else
 none
 else
 none
 else
 none
 else
 none
 else
 bif (n.getD TNode_.z).gNode.gKind == 11 then
 bif n.isSome then
 bif decide ((n.getD TNode_.z).gNode.gText.size + ((⟨#[32, 61, 32]⟩ : ByteArray)).size < 2 ^ 62) then
 bif n.isSome then
 bif inB 0 (n.getD TNode_.z).gkids.length then
 (I.node_show ((n.getD TNode_.z).gkids.getD 0 none)).bind fun r0 =>
 bif decide (((n.getD TNode_.z).gNode.gText ++ ⟨#[32, 61, 32]⟩).size + ByteArray.size r0 < 2 ^ 62) then
 bif decide (((n.getD TNode_.z).gNode.gText ++ ⟨#[32, 61, 32]⟩ ++ r0).size + ((⟨#[59]⟩ : ByteArray)).size < 2 ^ 62) then
 (I.node_lines_1 b ind () ((n.getD TNode_.z).gNode.gText ++ ⟨#[32, 61, 32]⟩ ++ r0 ++ ⟨#[59]⟩)).bind fun r1 =>
 some ((), (r1.snd.fst.fst, r1.snd.fst.snd))
 else
 none
 else
 none
 else
 none
 else
 none
 else
 none
 else
 none
 else
 bif (n.getD TNode_.z).gNode.gKind == 12 then
 bif n.isSome then
 bif inB 0 (n.getD TNode_.z).gkids.length then
 (I.node_show ((n.getD TNode_.z).gkids.getD 0 none)).bind fun r0 =>
 bif decide (((⟨#[105, 102, 32]⟩ : ByteArray)).size + ByteArray.size r0 < 2 ^ 62) then
 bif decide (((⟨#[105, 102, 32]⟩ : ByteArray) ++ r0).size + ((⟨#[32, 123]⟩ : ByteArray)).size < 2 ^ 62) then
 (I.node_lines_1 b ind () ((⟨#[105, 102, 32]⟩ : ByteArray) ++ r0 ++ ⟨#[32, 123]⟩)).bind fun r1 =>
 I.node_lines.l64488 n r1.snd.fst.fst r1.snd.fst.snd r1.snd.snd.fst
 else
 none
 else
 none
 else
 none
 else
 none
 else
 bif (n.getD TNode_.z).gNode.gKind == 13 then
 bif n.isSome then
 bif inB 0 (n.getD TNode_.z).gkids.length then
 (I.node_show ((n.getD TNode_.z).gkids.getD 0 none)).bind fun r0 =>
 bif decide (((⟨#[119, 104, 105, 108, 101, 32]⟩ : ByteArray)).size + ByteArray.size r0 < 2 ^ 62) then
 bif decide (((⟨#[119, 104, 105, 108, 101, 32]⟩ : ByteArray) ++ r0).size + ((⟨#[32, 123]⟩ : ByteArray)).size < 2 ^ 62) then
 (I.node_lines_1 b ind () ((⟨#[119, 104, 105, 108, 101, 32]⟩ : ByteArray) ++ r0 ++ ⟨#[32, 123]⟩)).bind fun r1 =>
 bif n.isSome then
 bif inB 1 (n.getD TNode_.z).gkids.length then
 (I.node_lines_2 r1.snd.fst r1.snd.snd.fst () ((n.getD TNode_.z).gkids.getD 1 none)).bind fun r2 =>
 (I.node_lines_1 r2.snd.fst r2.snd.snd.fst () ((⟨#[125]⟩ : ByteArray))).bind fun r3 =>
 some ((), (r3.snd.fst.fst, r3.snd.fst.snd))
 else
 none
 else
 none
 else
 none
 else
 none
 else
 none
 else
 none
 else
 bif (n.getD TNode_.z).gNode.gKind == 14 then
 (I.node_lines_1 b ind () ((⟨#[98, 114, 101, 97, 107, 59]⟩ : ByteArray))).bind fun r0 =>
 some ((), (r0.snd.fst.fst, r0.snd.fst.snd))
 else
 bif (n.getD TNode_.z).gNode.gKind == 15 then
 (I.node_lines_1 b ind () ((⟨#[99, 111, 110, 116, 105, 110, 117, 101, 59]⟩ : ByteArray))).bind fun r0 =>
 some ((), (r0.snd.fst.fst, r0.snd.fst.snd))
 else
 bif (n.getD TNode_.z).gNode.gKind == 16 then
 bif n.isSome then
 bif (↑(n.getD TNode_.z).gkids.length : Int) == 0 then
 (I.node_lines_1 b ind () ((⟨#[114, 101, 116, 117, 114, 110, 59]⟩ : ByteArray))).bind fun r0 =>
 some ((), (r0.snd.fst.fst, r0.snd.fst.snd))
 else
 bif n.isSome then
 bif inB 0 (n.getD TNode_.z).gkids.length then
 (I.node_show ((n.getD TNode_.z).gkids.getD 0 none)).bind fun r0 =>
 bif decide (((⟨#[114, 101, 116, 117, 114, 110, 32]⟩ : ByteArray)).size + ByteArray.size r0 < 2 ^ 62) then
 bif decide (((⟨#[114, 101, 116, 117, 114, 110, 32]⟩ : ByteArray) ++ r0).size + ((⟨#[59]⟩ : ByteArray)).size < 2 ^ 62) then
 (I.node_lines_1 b ind () ((⟨#[114, 101, 116, 117, 114, 110, 32]⟩ : ByteArray) ++ r0 ++ ⟨#[59]⟩)).bind fun r1 =>
 some ((), (r1.snd.fst.fst, r1.snd.fst.snd))
 else
 none
 else
 none
 else
 none
 else
 none
 else
 none
 else
 bif (n.getD TNode_.z).gNode.gKind == 17 then
 bif n.isSome then
 bif inB 0 (n.getD TNode_.z).gkids.length then
 (I.node_show ((n.getD TNode_.z).gkids.getD 0 none)).bind fun r0 =>
 bif decide (((⟨#[102, 97, 105, 108, 32]⟩ : ByteArray)).size + ByteArray.size r0 < 2 ^ 62) then
 bif decide (((⟨#[102, 97, 105, 108, 32]⟩ : ByteArray) ++ r0).size + ((⟨#[59]⟩ : ByteArray)).size < 2 ^ 62) then
 (I.node_lines_1 b ind () ((⟨#[102, 97, 105, 108, 32]⟩ : ByteArray) ++ r0 ++ ⟨#[59]⟩)).bind fun r1 =>
 some ((), (r1.snd.fst.fst, r1.snd.fst.snd))
 else
 none
 else
 none
 else
 none
 else
 none
 else
 bif (n.getD TNode_.z).gNode.gKind == 18 then
 bif n.isSome then
 bif inB 0 (n.getD TNode_.z).gkids.length then
 (I.node_show ((n.getD TNode_.z).gkids.getD 0 none)).bind fun r0 =>
 bif decide (((⟨#[119, 114, 105, 116, 101, 32]⟩ : ByteArray)).size + ByteArray.size r0 < 2 ^ 62) then
 bif decide (((⟨#[119, 114, 105, 116, 101, 32]⟩ : ByteArray) ++ r0).size + ((⟨#[44, 32]⟩ : ByteArray)).size < 2 ^ 62) then
 bif n.isSome then
 bif inB 1 (n.getD TNode_.z).gkids.length then
 (I.node_show ((n.getD TNode_.z).gkids.getD 1 none)).bind fun r1 =>
 bif decide (((⟨#[119, 114, 105, 116, 101, 32]⟩ : ByteArray) ++ r0 ++ ⟨#[44, 32]⟩).size + ByteArray.size r1 < 2 ^ 62) then
 bif decide (((⟨#[119, 114, 105, 116, 101, 32]⟩ : ByteArray) ++ r0 ++ ⟨#[44, 32]⟩ ++ r1).size + ((⟨#[59]⟩ : ByteArray)).size < 2 ^ 62) then
 (I.node_lines_1 b ind () ((⟨#[119, 114, 105, 116, 101, 32]⟩ : ByteArray) ++ r0 ++ ⟨#[44, 32]⟩ ++ r1 ++ ⟨#[59]⟩)).bind fun r2 =>
 some ((), (r2.snd.fst.fst, r2.snd.fst.snd))
 else
 none
 else
 none
 else
 none
 else
 none
 else
 none
 else
 none
 else
 none
 else
 none
 else
 bif (n.getD TNode_.z).gNode.gKind == 19 then
 bif n.isSome then
 bif inB 0 (n.getD TNode_.z).gkids.length then
 (I.node_show ((n.getD TNode_.z).gkids.getD 0 none)).bind fun r0 =>
 bif decide (((⟨#[115, 97, 121, 32]⟩ : ByteArray)).size + ByteArray.size r0 < 2 ^ 62) then
 bif decide (((⟨#[115, 97, 121, 32]⟩ : ByteArray) ++ r0).size + ((⟨#[59]⟩ : ByteArray)).size < 2 ^ 62) then
 (I.node_lines_1 b ind () ((⟨#[115, 97, 121, 32]⟩ : ByteArray) ++ r0 ++ ⟨#[59]⟩)).bind fun r1 =>
 some ((), (r1.snd.fst.fst, r1.snd.fst.snd))
 else
 none
 else
 none
 else
 none
 else
 none
 else
 bif (n.getD TNode_.z).gNode.gKind == 20 then
 bif n.isSome then
 bif inB 0 (n.getD TNode_.z).gkids.length then
 (I.node_show ((n.getD TNode_.z).gkids.getD 0 none)).bind fun r0 =>
 bif decide (ByteArray.size r0 + ((⟨#[59]⟩ : ByteArray)).size < 2 ^ 62) then
 (I.node_lines_1 b ind () (r0 ++ ⟨#[59]⟩)).bind fun r1 =>
 some ((), (r1.snd.fst.fst, r1.snd.fst.snd))
 else
 none
 else
 none
 else
 none
 else
 some ((), (b.fst, b.snd))
 else
 none :=
 (fnB_eq 17 [PV.fp 54 n, PV.s ind, PV.ad (Base.obj 0) 0] [[PV.slf 49 0 b.fst, PV.ol 5 b.snd]] rfl).trans (by kernel_rfl)
theorem I.node_lines.l64488_eq (n : Option TNode_) (m : Bool) (m_1 : List Int) (m_2 : ByteArray) : I.node_lines.l64488 n m m_1 m_2 =
 bif n.isSome then
 bif inB 1 (n.getD TNode_.z).gkids.length then
 (I.node_lines_2 (m, m_1) m_2 () ((n.getD TNode_.z).gkids.getD 1 none)).bind fun r0 =>
 bif n.isSome then
 bif (↑(n.getD TNode_.z).gkids.length : Int) == 2 then
 (I.node_lines_1 r0.snd.fst r0.snd.snd.fst () ((⟨#[125]⟩ : ByteArray))).bind fun r1 =>
 some ((), (r1.snd.fst.fst, r1.snd.fst.snd))
 else
 bif n.isSome then
 bif inB 2 (n.getD TNode_.z).gkids.length then
 bif Option.isSome ((n.getD TNode_.z).gkids.getD 2 none) then
 bif (Option.getD ((n.getD TNode_.z).gkids.getD 2 none) TNode_.z).gNode.gKind == 12 then
 bif Option.isSome ((n.getD TNode_.z).gkids.getD 2 none) then
 bif inB 0 (Option.getD ((n.getD TNode_.z).gkids.getD 2 none) TNode_.z).gkids.length then
 (I.node_show ((Option.getD ((n.getD TNode_.z).gkids.getD 2 none) TNode_.z).gkids.getD 0 none)).bind fun r1 =>
 bif decide (((⟨#[125, 32, 101, 108, 115, 101, 32, 105, 102, 32]⟩ : ByteArray)).size + ByteArray.size r1 < 2 ^ 62) then
 bif decide (((⟨#[125, 32, 101, 108, 115, 101, 32, 105, 102, 32]⟩ : ByteArray) ++ r1).size + ((⟨#[32, 123]⟩ : ByteArray)).size < 2 ^ 62) then
 (I.node_lines_1 r0.snd.fst r0.snd.snd.fst () ((⟨#[125, 32, 101, 108, 115, 101, 32, 105, 102, 32]⟩ : ByteArray) ++ r1 ++ ⟨#[32, 123]⟩)).bind fun r2 =>
 I.node_lines.l64488 ((n.getD TNode_.z).gkids.getD 2 none) r2.snd.fst.fst r2.snd.fst.snd r2.snd.snd.fst
 else
 none
 else
 none
 else
 none
 else
 none
 else
 (I.node_lines_1 r0.snd.fst r0.snd.snd.fst () ((⟨#[125, 32, 101, 108, 115, 101, 32, 123]⟩ : ByteArray))).bind fun r1 =>
 (I.node_lines_2 r1.snd.fst r1.snd.snd.fst () ((n.getD TNode_.z).gkids.getD 2 none)).bind fun r2 =>
 (I.node_lines_1 r2.snd.fst r2.snd.snd.fst () ((⟨#[125]⟩ : ByteArray))).bind fun r3 =>
 some ((), (r3.snd.fst.fst, r3.snd.fst.snd))
 else
 none
 else
 none
 else
 none
 else
 none
 else
 none
 else
 none :=
 (runB_eq 17 _ _).trans (by kernel_rfl)
theorem G.strings_Builder_Len_eq (b : (Bool × List Int)) : G.strings_Builder_Len b =
 some ((↑b.snd.length : Int), (b.fst, b.snd)) :=
 (fnB_eq 18 [PV.ad (Base.obj 0) 0] [[PV.slf 49 0 b.fst, PV.ol 5 b.snd]] rfl).trans (by kernel_rfl)
noncomputable def I.Print.l500 (t20 : List (Option TNode_)) (t21 : Int) (t22 : Int) (m : Bool) (m_1 : List Int) : Option ByteArray := Y.runA 7 (fun ct c => at_ ct [true, true, true, true, false, true, false, false] c) ⟨[(4, .ad (.obj 0) 0), (20, .fl 45 t20), (21, .i IntKind.i64 t21), (22, .i IntKind.i64 t22)], [], [[.slf 49 0 m, .ol 5 m_1]], [], []⟩
noncomputable def I.Print.l1025652 (f : Option TNode_) (ps : List ByteArray) (last : Int) (t20 : List (Option TNode_)) (t21 : Int) (t22 : Int) (t37 : List (Option TNode_)) (t38 : Int) (t39 : Int) (m : Bool) (m_1 : List Int) : Option ByteArray := Y.runA 7 (fun ct c => at_ ct [true, true, true, true, false, true, false, false, true, true, false, false, true, true, true, false, true, false, false] c) ⟨[(4, .ad (.obj 0) 0), (6, .fp 54 f), (7, .ol 9 ps), (8, .i IntKind.i64 last), (20, .fl 45 t20), (21, .i IntKind.i64 t21), (22, .i IntKind.i64 t22), (37, .fl 45 t37), (38, .i IntKind.i64 t38), (39, .i IntKind.i64 t39)], [], [[.slf 49 0 m, .ol 5 m_1]], [], []⟩
noncomputable def I.Print.l512831 (f : Option TNode_) (last : Int) (t20 : List (Option TNode_)) (t21 : Int) (t22 : Int) (m : Bool) (m_1 : List Int) : Option ByteArray := Y.runA 7 (fun ct c => at_ ct [true, true, true, true, false, true, false, false, true, true, false, false, true, true, true, true, true, true] c) ⟨[(4, .ad (.obj 0) 0), (6, .fp 54 f), (8, .i IntKind.i64 last), (20, .fl 45 t20), (21, .i IntKind.i64 t21), (22, .i IntKind.i64 t22)], [], [[.slf 49 0 m, .ol 5 m_1]], [], []⟩
noncomputable def I.Print.l16410612 (t20 : List (Option TNode_)) (t21 : Int) (t22 : Int) (t100 : List (Option TNode_)) (t101 : Int) (t102 : Int) (m : Bool) (m_1 : List Int) : Option ByteArray := Y.runA 7 (fun ct c => at_ ct [true, true, true, true, false, true, false, false, true, true, false, false, true, true, true, true, true, true, true, false, true, false, false] c) ⟨[(4, .ad (.obj 0) 0), (20, .fl 45 t20), (21, .i IntKind.i64 t21), (22, .i IntKind.i64 t22), (100, .fl 45 t100), (101, .i IntKind.i64 t101), (102, .i IntKind.i64 t102)], [], [[.slf 49 0 m, .ol 5 m_1]], [], []⟩
theorem I.Print_eq (t : TTree) : I.Print t =
 (I.validRoot t).bind fun r0 =>
 bif Option.isNone r0 then
 some ((⟨#[]⟩ : ByteArray))
 else
 bif Option.isSome r0 then
 I.Print.l500 ((Option.getD r0 TNode_.z).gkids) (↑(Option.getD r0 TNode_.z).gkids.length : Int) 0 false ([])
 else
 none :=
 (fnA_eq 7 [PV.st (cells 29 t)] rfl).trans (by kernel_rfl)
theorem I.Print.l500_eq (t20 : List (Option TNode_)) (t21 : Int) (t22 : Int) (m : Bool) (m_1 : List Int) : I.Print.l500 t20 t21 t22 m m_1 =
 bif decide (t22 < t21) then
 bif inB t22 t20.length then
 bif Option.isSome (t20.getD t22.toNat none) then
 bif Option.isSome (t20.getD t22.toNat none) then
 bif inS 0 (IntKind.i64.wrap ((↑(Option.getD (t20.getD t22.toNat none) TNode_.z).gkids.length : Int) - 1)) (Option.getD (t20.getD t22.toNat none) TNode_.z).gkids.length then
 I.Print.l1025652 (t20.getD t22.toNat none) ([]) (IntKind.i64.wrap ((↑(Option.getD (t20.getD t22.toNat none) TNode_.z).gkids.length : Int) - 1)) t20 t21 t22 (sub (Option.getD (t20.getD t22.toNat none) TNode_.z).gkids 0 (IntKind.i64.wrap ((↑(Option.getD (t20.getD t22.toNat none) TNode_.z).gkids.length : Int) - 1))) (↑(sub (Option.getD (t20.getD t22.toNat none) TNode_.z).gkids 0 (IntKind.i64.wrap ((↑(Option.getD (t20.getD t22.toNat none) TNode_.z).gkids.length : Int) - 1))).length : Int) 0 m m_1
 else
 none
 else
 none
 else
 none
 else
 none
 else
 (G.strings_Builder_Len (m, m_1)).bind fun r0 =>
 bif decide (r0.fst > 12000) then
 some ((⟨#[]⟩ : ByteArray))
 else
 some (strOfBytes (List.map (fun (x : Int) ↦ x) r0.snd.snd)) :=
 (runA_eq 7 _ _).trans (by kernel_rfl)
theorem I.Print.l1025652_eq (f : Option TNode_) (ps : List ByteArray) (last : Int) (t20 : List (Option TNode_)) (t21 : Int) (t22 : Int) (t37 : List (Option TNode_)) (t38 : Int) (t39 : Int) (m : Bool) (m_1 : List Int) : I.Print.l1025652 f ps last t20 t21 t22 t37 t38 t39 m m_1 =
 bif decide (t39 < t38) then
 bif inB t39 t37.length then
 bif Option.isSome (t37.getD t39.toNat none) then
 bif decide ((Option.getD (t37.getD t39.toNat none) TNode_.z).gNode.gText.size + ((⟨#[32]⟩ : ByteArray)).size < 2 ^ 62) then
 bif Option.isSome (t37.getD t39.toNat none) then
 bif inB (Option.getD (t37.getD t39.toNat none) TNode_.z).gNode.gType WL0.length then
 bif decide (((Option.getD (t37.getD t39.toNat none) TNode_.z).gNode.gText ++ ⟨#[32]⟩).size + ByteArray.size (WL0.getD (Option.getD (t37.getD t39.toNat none) TNode_.z).gNode.gType.toNat (⟨#[]⟩ : ByteArray)) < 2 ^ 62) then
 bif room (ps.length + [(Option.getD (t37.getD t39.toNat none) TNode_.z).gNode.gText ++ ⟨#[32]⟩ ++ WL0.getD (Option.getD (t37.getD t39.toNat none) TNode_.z).gNode.gType.toNat (⟨#[]⟩ : ByteArray)].length) 16 then
 I.Print.l1025652 f (ps ++ [(Option.getD (t37.getD t39.toNat none) TNode_.z).gNode.gText ++ ⟨#[32]⟩ ++ WL0.getD (Option.getD (t37.getD t39.toNat none) TNode_.z).gNode.gType.toNat (⟨#[]⟩ : ByteArray)]) last t20 t21 t22 t37 t38 (IntKind.i64.wrap (t39 + 1)) m m_1
 else
 none
 else
 none
 else
 none
 else
 none
 else
 none
 else
 none
 else
 none
 else
 bif Option.isSome f then
 bif decide (((⟨#[102, 110, 32]⟩ : ByteArray)).size + (Option.getD f TNode_.z).gNode.gText.size < 2 ^ 62) then
 bif decide (((⟨#[102, 110, 32]⟩ : ByteArray) ++ (Option.getD f TNode_.z).gNode.gText).size + ((⟨#[40]⟩ : ByteArray)).size < 2 ^ 62) then
 bif decide (ps.length ≤ 140737488355328) && decide ((joinB ps ((⟨#[44, 32]⟩ : ByteArray))).size ≤ 140737488355328) then
 bif decide (((⟨#[102, 110, 32]⟩ : ByteArray) ++ (Option.getD f TNode_.z).gNode.gText ++ ⟨#[40]⟩).size + (joinB ps ((⟨#[44, 32]⟩ : ByteArray))).size < 2 ^ 62) then
 bif decide (((⟨#[102, 110, 32]⟩ : ByteArray) ++ (Option.getD f TNode_.z).gNode.gText ++ ⟨#[40]⟩ ++ joinB ps ((⟨#[44, 32]⟩ : ByteArray))).size + ((⟨#[41]⟩ : ByteArray)).size < 2 ^ 62) then
 (G.strings_Builder_WriteString (m, m_1) ((⟨#[102, 110, 32]⟩ : ByteArray) ++ (Option.getD f TNode_.z).gNode.gText ++ ⟨#[40]⟩ ++ joinB ps ((⟨#[44, 32]⟩ : ByteArray)) ++ ⟨#[41]⟩)).bind fun r0 =>
 bif Option.isSome f then
 bif (Option.getD f TNode_.z).gNode.gType != 0 then
 bif Option.isSome f then
 bif inB (Option.getD f TNode_.z).gNode.gType WL0.length then
 bif decide (((⟨#[32, 45, 62, 32]⟩ : ByteArray)).size + ByteArray.size (WL0.getD (Option.getD f TNode_.z).gNode.gType.toNat (⟨#[]⟩ : ByteArray)) < 2 ^ 62) then
 (G.strings_Builder_WriteString r0.snd ((⟨#[32, 45, 62, 32]⟩ : ByteArray) ++ WL0.getD (Option.getD f TNode_.z).gNode.gType.toNat (⟨#[]⟩ : ByteArray))).bind fun r1 =>
 I.Print.l512831 f last t20 t21 t22 r1.snd.fst r1.snd.snd
 else
 none
 else
 none
 else
 none
 else
 I.Print.l512831 f last t20 t21 t22 r0.snd.fst r0.snd.snd
 else
 none
 else
 none
 else
 none
 else
 none
 else
 none
 else
 none
 else
 none :=
 (runA_eq 7 _ _).trans (by kernel_rfl)
theorem I.Print.l512831_eq (f : Option TNode_) (last : Int) (t20 : List (Option TNode_)) (t21 : Int) (t22 : Int) (m : Bool) (m_1 : List Int) : I.Print.l512831 f last t20 t21 t22 m m_1 =
 (G.strings_Builder_WriteString (m, m_1) ((⟨#[32, 123, 10]⟩ : ByteArray))).bind fun r0 =>
 bif Option.isSome f then
 bif inB last (Option.getD f TNode_.z).gkids.length then
 bif Option.isSome ((Option.getD f TNode_.z).gkids.getD last.toNat none) then
 I.Print.l16410612 t20 t21 t22 ((Option.getD ((Option.getD f TNode_.z).gkids.getD last.toNat none) TNode_.z).gkids) (↑(Option.getD ((Option.getD f TNode_.z).gkids.getD last.toNat none) TNode_.z).gkids.length : Int) 0 r0.snd.fst r0.snd.snd
 else
 none
 else
 none
 else
 none :=
 (runA_eq 7 _ _).trans (by kernel_rfl)
theorem I.Print.l16410612_eq (t20 : List (Option TNode_)) (t21 : Int) (t22 : Int) (t100 : List (Option TNode_)) (t101 : Int) (t102 : Int) (m : Bool) (m_1 : List Int) : I.Print.l16410612 t20 t21 t22 t100 t101 t102 m m_1 =
 bif decide (t102 < t101) then
 bif inB t102 t100.length then
 (I.node_lines (m, m_1) (t100.getD t102.toNat none) ((⟨#[32, 32]⟩ : ByteArray))).bind fun r0 =>
 I.Print.l16410612 t20 t21 t22 t100 t101 (IntKind.i64.wrap (t102 + 1)) r0.snd.fst r0.snd.snd
 else
 none
 else
 (G.strings_Builder_WriteString (m, m_1) ((⟨#[125, 10]⟩ : ByteArray))).bind fun r0 =>
 I.Print.l500 t20 t21 (IntKind.i64.wrap (t22 + 1)) r0.snd.fst r0.snd.snd :=
 (runA_eq 7 _ _).trans (by kernel_rfl)
theorem L.eqNode_eq (a : TNode) (b : TNode) : L.eqNode a b =
 bif a.gKind != b.gKind then
 some false
 else
 bif a.gOp != b.gOp then
 some false
 else
 bif a.gType != b.gType then
 some false
 else
 bif a.gN != b.gN then
 some false
 else
 bif !bEq a.gText b.gText then
 some false
 else
 bif a.gKids != b.gKids then
 some false
 else
 some true :=
 (fnA_eq 34 [PV.st (cells 51 a), PV.st (cells 51 b)] rfl).trans (by kernel_rfl)
noncomputable def L.eqNodeS.l116 (a : List TNode) (b : List TNode) (i : Int) : Option Bool := Y.runA 20 (fun ct c => at_ ct [true, true, false, true, false, false] c) ⟨[(0, .fl 51 a), (1, .fl 51 b), (5, .i IntKind.i64 i)], [], [], [], []⟩
theorem L.eqNodeS_eq (a : List TNode) (b : List TNode) : L.eqNodeS a b =
 bif (↑a.length : Int) != (↑b.length : Int) then
 some false
 else
 L.eqNodeS.l116 a b 0 :=
 (fnA_eq 20 [PV.fl 51 a, PV.fl 51 b] rfl).trans (by kernel_rfl)
theorem L.eqNodeS.l116_eq (a : List TNode) (b : List TNode) (i : Int) : L.eqNodeS.l116 a b i =
 bif decide (i < (↑a.length : Int)) then
 bif inB i a.length then
 bif inB i b.length then
 (L.eqNode (a.getD i.toNat TNode.z) (b.getD i.toNat TNode.z)).bind fun r0 =>
 bif !r0 then
 some false
 else
 L.eqNodeS.l116 a b (IntKind.i64.wrap (i + 1))
 else
 none
 else
 none
 else
 some true :=
 (runA_eq 20 _ _).trans (by kernel_rfl)
theorem L.eqTree_eq (a : TTree) (b : TTree) : L.eqTree a b =
 (L.eqNodeS a.gNodes b.gNodes).bind fun r0 =>
 bif !r0 then
 some false
 else
 some true :=
 (fnA_eq 8 [PV.st (cells 29 a), PV.st (cells 29 b)] rfl).trans (by kernel_rfl)
theorem L.FnExactPrint_eq (aT : TTree) : L.FnExactPrint aT =
 (L.szTree aT 1048576).bind fun r0 =>
 bif decide (r0 < 0) then
 some true
 else
 (L.toTree aT).bind fun r1 =>
 (R.Print r1).bind fun r2 =>
 (L.toTree aT).bind fun r3 =>
 (I.Print r3).bind fun r4 =>
 bif !bEq r4 r2 then
 some false
 else
 (L.toTree aT).bind fun r5 =>
 (L.eqTree r3 r5).bind fun r6 =>
 bif !r6 then
 some false
 else
 some true :=
 (fnA_eq 3 [PV.st (cells 24 aT)] rfl).trans (by kernel_rfl)
end Go.KM.P1
