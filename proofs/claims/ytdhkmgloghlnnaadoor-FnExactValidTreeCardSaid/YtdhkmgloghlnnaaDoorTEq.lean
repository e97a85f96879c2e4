/- The equations of the law's functions. Conditions: none. -/
import Derived.Test.YtdhkmgloghlnnaaDoorTSg
namespace Go.KM.T1
open Go Go.KM
open Go.KM.Fam (Dn dflt)
open Go.KM.Enc (cells sz mkE glob gany u8)
set_option autoImplicit false
set_option linter.unusedVariables false
set_option maxRecDepth 100000
theorem L.szNode_eq (a : TNode) (left : Int) : L.szNode a left =
  bif decide (IntKind.i64.wrap (left - (↑a.gText.size : Int)) < 0) then
  some (-1)
 else
 some (IntKind.i64.wrap (left - (↑a.gText.size : Int))) :=
  (fnA_eq 43 [PV.st (cells 88 a), PV.i IntKind.i64 left] rfl).trans (by kernel_rfl)
noncomputable def L.szNodeS.l244 (a : List TNode) (left : Int) (i : Int) : Option Int := Y.runA 22 (fun ct c => at_ ct [true, true, true, false, true, false, false] c) ⟨[(0, .fl 88 a), (1, .i IntKind.i64 left), (5, .i IntKind.i64 i)], [], [], []⟩
theorem L.szNodeS_eq (a : List TNode) (left : Int) : L.szNodeS a left =
  bif decide (IntKind.i64.wrap (left - (↑a.length : Int)) < 0) then
  some (-1)
 else
 L.szNodeS.l244 a (IntKind.i64.wrap (left - (↑a.length : Int))) 0 :=
  (fnA_eq 22 [PV.fl 88 a, PV.i IntKind.i64 left] rfl).trans (by kernel_rfl)
theorem L.szNodeS.l244_eq (a : List TNode) (left : Int) (i : Int) : L.szNodeS.l244 a left i =
  bif decide (i < (↑a.length : Int)) then
  bif inB i a.length then
   (L.szNode (a.getD i.toNat TNode.z) left).bind fun (r0 : Int) =>
   bif decide (r0 < 0) then
    some (-1)
   else
   L.szNodeS.l244 a r0 (IntKind.i64.wrap (i + 1))
  else
  none
 else
 some left :=
  (runA_eq 22 _ _).trans (by kernel_rfl)
theorem L.szTree_eq (a : TTree) (left : Int) : L.szTree a left =
  (L.szNodeS a.gNodes left).bind fun (r0 : Int) =>
 bif decide (r0 < 0) then
  some (-1)
 else
 some r0 :=
  (fnA_eq 7 [PV.st (cells 24 a), PV.i IntKind.i64 left] rfl).trans (by kernel_rfl)
theorem L.toNode_eq (a : TNode) : L.toNode a =
  some a :=
  (fnA_eq 53 [PV.st (cells 88 a)] rfl).trans (by kernel_rfl)
noncomputable def L.toNodeS.l116 (a : List TNode) (out : List TNode) (i : Int) : Option (List TNode) := Y.runA 26 (fun ct c => at_ ct [true, true, false, true, false, false] c) ⟨[(0, .fl 88 a), (3, .ol 56 out), (4, .i IntKind.i64 i)], [], [], []⟩
theorem L.toNodeS_eq (a : List TNode) : L.toNodeS a =
  bif decide (0 ≤ (↑a.length : Int)) && (↑a.length : Int) == (↑a.length : Int) && room a.length 56 then
  L.toNodeS.l116 a (List.replicate a.length (TNode.mk 0 0 0 0 ((⟨#[]⟩ : ByteArray)) 0)) 0
 else
 none :=
  (fnA_eq 26 [PV.fl 88 a] rfl).trans (by kernel_rfl)
theorem L.toNodeS.l116_eq (a : List TNode) (out : List TNode) (i : Int) : L.toNodeS.l116 a out i =
  bif decide (i < (↑a.length : Int)) then
  bif inB i a.length then
   (L.toNode (a.getD i.toNat TNode.z)).bind fun (r0 : TNode) =>
   bif inB i out.length then
    L.toNodeS.l116 a (out.set i.toNat (TNode.mk r0.gKind r0.gOp r0.gType r0.gN r0.gText r0.gKids)) (IntKind.i64.wrap (i + 1))
   else
   none
  else
  none
 else
 some out :=
  (runA_eq 26 _ _).trans (by kernel_rfl)
theorem L.toTree_eq (a : TTree) : L.toTree a =
  (L.toNodeS a.gNodes).bind fun (r0 : List TNode) =>
 some (⟨r0⟩ : TTree) :=
  (fnA_eq 9 [PV.st (cells 24 a)] rfl).trans (by kernel_rfl)
noncomputable def R.l2Kids.l1012 (n : Int) (out : List (List Int)) (open_ : List Int) (i : Int) (t : TTree) : Option ((List (List Int) × Bool)) := Y.runA 23 (fun ct c => at_ ct [true, true, true, true, true, false, true, false, false] c) ⟨[(1, .ad (.loc 1) 0), (4, .i IntKind.i64 n), (5, .ol 54 out), (6, .ol 3 open_), (7, .i IntKind.i64 i)], [(1, cells 29 t)], [], []⟩
theorem R.l2Kids_eq (t : TTree) : R.l2Kids t =
  bif decide ((↑t.gNodes.length : Int) < 1) then
  some ([], false)
 else
 bif decide ((↑t.gNodes.length : Int) > 12001) then
   some ([], false)
  else
  R.l2Kids.l1012 (↑t.gNodes.length : Int) ([]) ([]) 0 t :=
  (fnA_eq 23 [PV.st (cells 29 t)] rfl).trans (by kernel_rfl)
theorem R.l2Kids.l1012_eq (n : Int) (out : List (List Int)) (open_ : List Int) (i : Int) (t : TTree) : R.l2Kids.l1012 n out open_ i t =
  bif decide (i < n) then
  bif inB i t.gNodes.length then
   bif decide ((t.gNodes.getD i.toNat TNode.z).gKids < 0) then
    some ([], false)
   else
   bif decide ((t.gNodes.getD i.toNat TNode.z).gKids > (↑open_.length : Int)) then
     some ([], false)
    else
    bif inS (IntKind.i64.wrap ((↑open_.length : Int) - (t.gNodes.getD i.toNat TNode.z).gKids)) (↑open_.length : Int) open_.length then
      bif room (0 + (sub open_ (IntKind.i64.wrap ((↑open_.length : Int) - (t.gNodes.getD i.toNat TNode.z).gKids)) (↑open_.length : Int)).length) 8 then
       bif room (out.length + [sub open_ (IntKind.i64.wrap ((↑open_.length : Int) - (t.gNodes.getD i.toNat TNode.z).gKids)) (↑open_.length : Int)].length) 24 then
        bif inS 0 (IntKind.i64.wrap ((↑open_.length : Int) - (t.gNodes.getD i.toNat TNode.z).gKids)) open_.length then
         bif room ((List.take (IntKind.i64.wrap ((↑open_.length : Int) - (t.gNodes.getD i.toNat TNode.z).gKids)).toNat open_).length + [i].length) 8 then
          R.l2Kids.l1012 n (out ++ [sub open_ (IntKind.i64.wrap ((↑open_.length : Int) - (t.gNodes.getD i.toNat TNode.z).gKids)) (↑open_.length : Int)]) (List.take (IntKind.i64.wrap ((↑open_.length : Int) - (t.gNodes.getD i.toNat TNode.z).gKids)).toNat open_ ++ [i]) (IntKind.i64.wrap (i + 1)) t
         else
         none
        else
        none
       else
       none
      else
      none
     else
     none
  else
  none
 else
 some (out, (↑open_.length : Int) == 1) :=
  (runA_eq 23 _ _).trans (by kernel_rfl)
noncomputable def R.l2Uses.l215 (t6 : Int) (t9 : Bool) : Option ((Bool × (Bool × (Bool × Bool)))) := Y.runA 44 (fun ct c => at_ ct [true, false, true, false, true, true, true] c) ⟨[(6, .i IntKind.i64 t6), (9, .b t9)], [], [], []⟩
noncomputable def R.l2Uses.l3455 (t6 : Int) (t17 : Bool) : Option ((Bool × (Bool × (Bool × Bool)))) := Y.runA 44 (fun ct c => at_ ct [true, false, true, false, true, true, true, true, true, true, true] c) ⟨[(6, .i IntKind.i64 t6), (17, .b t17)], [], [], []⟩
theorem R.l2Uses_eq (kind : Int) : R.l2Uses kind =
  bif kind == 1 then
  some (false, (true, (true, false)))
 else
 bif kind == 2 then
   R.l2Uses.l215 kind (kind == 2)
  else
  bif kind == 4 then
    R.l2Uses.l215 kind (kind == 4)
   else
   bif kind == 7 then
     R.l2Uses.l215 kind (kind == 7)
    else
    bif kind == 10 then
      R.l2Uses.l215 kind (kind == 10)
     else
     R.l2Uses.l215 kind (kind == 11) :=
  (fnA_eq 44 [PV.i IntKind.i64 kind] rfl).trans (by kernel_rfl)
theorem R.l2Uses.l215_eq (t6 : Int) (t9 : Bool) : R.l2Uses.l215 t6 t9 =
  bif t9 then
  some (false, (false, (false, true)))
 else
 bif t6 == 3 then
   some (false, (false, (true, false)))
  else
  bif t6 == 5 then
    R.l2Uses.l3455 t6 (t6 == 5)
   else
   bif t6 == 6 then
     R.l2Uses.l3455 t6 (t6 == 6)
    else
    R.l2Uses.l3455 t6 (t6 == 8) :=
  (runA_eq 44 _ _).trans (by kernel_rfl)
theorem R.l2Uses.l3455_eq (t6 : Int) (t17 : Bool) : R.l2Uses.l3455 t6 t17 =
  bif t17 then
  some (true, (false, (false, false)))
 else
 bif t6 == 9 then
   some (false, (true, (false, false)))
  else
  bif t6 == 22 then
    bif t6 == 22 then
     some (false, (true, (false, true)))
    else
    some (false, (false, (false, false)))
   else
   bif t6 == 23 then
     some (false, (true, (false, true)))
    else
    some (false, (false, (false, false))) :=
  (runA_eq 44 _ _).trans (by kernel_rfl)
theorem R.l2Named_eq (kind : Int) : R.l2Named kind =
  bif kind == 4 then
  some true
 else
 bif kind == 7 then
   some true
  else
  bif kind == 10 then
    some true
   else
   bif kind == 11 then
     some true
    else
    bif kind == 22 then
      some true
     else
     some (kind == 23) :=
  (fnA_eq 45 [PV.i IntKind.i64 kind] rfl).trans (by kernel_rfl)
theorem R.l1Letter_eq (b : Int) : R.l1Letter b =
  bif decide (b ≥ 97) then
  some (decide (b ≤ 122))
 else
 some false :=
  (fnA_eq 86 [PV.i IntKind.u8 b] rfl).trans (by kernel_rfl)
theorem R.l1TypeWord_eq (t : Int) : R.l1TypeWord t =
  bif t == 1 then
  some ((⟨#[98, 111, 111, 108]⟩ : ByteArray))
 else
 bif t == 2 then
   some ((⟨#[116, 101, 120, 116]⟩ : ByteArray))
  else
  bif t == 3 then
    some ((⟨#[117, 56]⟩ : ByteArray))
   else
   bif t == 4 then
     some ((⟨#[117, 49, 54]⟩ : ByteArray))
    else
    bif t == 5 then
      some ((⟨#[117, 51, 50]⟩ : ByteArray))
     else
     bif t == 6 then
       some ((⟨#[117, 54, 52]⟩ : ByteArray))
      else
      bif t == 7 then
        some ((⟨#[105, 56]⟩ : ByteArray))
       else
       bif t == 8 then
         some ((⟨#[105, 49, 54]⟩ : ByteArray))
        else
        bif t == 9 then
          some ((⟨#[105, 51, 50]⟩ : ByteArray))
         else
         bif t == 10 then
           some ((⟨#[105, 54, 52]⟩ : ByteArray))
          else
          some ((⟨#[]⟩ : ByteArray)) :=
  (fnA_eq 151 [PV.i IntKind.i64 t] rfl).trans (by kernel_rfl)
noncomputable def R.l1Type.l52 (w : ByteArray) (t : Int) : Option Int := Y.runA 121 (fun ct c => at_ ct [true, false, true, false, false] c) ⟨[(0, .s w), (3, .i IntKind.i64 t)], [], [], []⟩
theorem R.l1Type_eq (w : ByteArray) : R.l1Type w =
  R.l1Type.l52 w 1 :=
  (fnA_eq 121 [PV.s w] rfl).trans (by kernel_rfl)
theorem R.l1Type.l52_eq (w : ByteArray) (t : Int) : R.l1Type.l52 w t =
  bif decide (t ≤ 10) then
  (R.l1TypeWord t).bind fun (r0 : ByteArray) =>
  bif bEq r0 w then
   some t
  else
  R.l1Type.l52 w (IntKind.i64.wrap (t + 1))
 else
 some 0 :=
  (runA_eq 121 _ _).trans (by kernel_rfl)
theorem R.l1BuiltWord_eq (op : Int) : R.l1BuiltWord op =
  bif op == 1 then
  some ((⟨#[114, 101, 97, 100]⟩ : ByteArray), 1)
 else
 bif op == 2 then
   some ((⟨#[104, 97, 115]⟩ : ByteArray), 1)
  else
  bif op == 3 then
    some ((⟨#[108, 105, 115, 116]⟩ : ByteArray), 1)
   else
   bif op == 4 then
     some ((⟨#[116, 111, 111, 108]⟩ : ByteArray), 2)
    else
    bif op == 5 then
      some ((⟨#[97, 114, 103]⟩ : ByteArray), 0)
     else
     bif op == 6 then
       some ((⟨#[108, 101, 110]⟩ : ByteArray), 1)
      else
      bif op == 7 then
        some ((⟨#[97, 116]⟩ : ByteArray), 2)
       else
       bif op == 8 then
         some ((⟨#[99, 117, 116]⟩ : ByteArray), 3)
        else
        bif op == 9 then
          some ((⟨#[102, 105, 110, 100]⟩ : ByteArray), 2)
         else
         bif op == 10 then
           some ((⟨#[99, 104, 114]⟩ : ByteArray), 1)
          else
          bif op == 11 then
            some ((⟨#[100, 101, 99]⟩ : ByteArray), 1)
           else
           bif op == 12 then
            some ((⟨#[110, 117, 109]⟩ : ByteArray), 1)
            else
            some ((⟨#[]⟩ : ByteArray), 0) :=
  (fnA_eq 51 [PV.i IntKind.i64 op] rfl).trans (by kernel_rfl)
theorem R.l1Plain_eq : R.l1Plain =
  some ([(⟨#[102, 110]⟩ : ByteArray), (⟨#[108, 101, 116]⟩ : ByteArray), (⟨#[105, 102]⟩ : ByteArray), (⟨#[101, 108, 115, 101]⟩ : ByteArray), (⟨#[119, 104, 105, 108, 101]⟩ : ByteArray), (⟨#[98, 114, 101, 97, 107]⟩ : ByteArray), (⟨#[99, 111, 110, 116, 105, 110, 117, 101]⟩ : ByteArray), (⟨#[114, 101, 116, 117, 114, 110]⟩ : ByteArray), (⟨#[102, 97, 105, 108]⟩ : ByteArray), (⟨#[119, 114, 105, 116, 101]⟩ : ByteArray), (⟨#[115, 97, 121]⟩ : ByteArray), (⟨#[116, 114, 117, 101]⟩ : ByteArray), (⟨#[102, 97, 108, 115, 101]⟩ : ByteArray)]) :=
  (fnA_eq 122 [] rfl).trans (by kernel_rfl)
noncomputable def R.l1Taken.l116 (w : ByteArray) (op : Int) : Option Bool := Y.runA 87 (fun ct c => at_ ct [true, true, false, true, false, false] c) ⟨[(0, .s w), (3, .i IntKind.i64 op)], [], [], []⟩
noncomputable def R.l1Taken.l500 (w : ByteArray) (plain : List ByteArray) (i : Int) : Option Bool := Y.runA 87 (fun ct c => at_ ct [true, true, true, true, false, true, false, false] c) ⟨[(0, .s w), (6, .fl 9 plain), (7, .i IntKind.i64 i)], [], [], []⟩
theorem R.l1Taken_eq (w : ByteArray) : R.l1Taken w =
  (R.l1Type w).bind fun (r0 : Int) =>
 bif r0 != 0 then
  some true
 else
 R.l1Taken.l116 w 1 :=
  (fnA_eq 87 [PV.s w] rfl).trans (by kernel_rfl)
theorem R.l1Taken.l116_eq (w : ByteArray) (op : Int) : R.l1Taken.l116 w op =
  bif decide (op ≤ 12) then
  (R.l1BuiltWord op).bind fun (r0 : (ByteArray × Int)) =>
  bif bEq r0.fst w then
   some true
  else
  R.l1Taken.l116 w (IntKind.i64.wrap (op + 1))
 else
 (R.l1Plain).bind fun (r0 : List ByteArray) =>
  R.l1Taken.l500 w r0 0 :=
  (runA_eq 87 _ _).trans (by kernel_rfl)
theorem R.l1Taken.l500_eq (w : ByteArray) (plain : List ByteArray) (i : Int) : R.l1Taken.l500 w plain i =
  bif decide (i < (↑(List.length plain) : Int)) then
  bif inB i (List.length plain) then
   bif bEq (List.getD plain i.toNat (⟨#[]⟩ : ByteArray)) w then
    some true
   else
   R.l1Taken.l500 w plain (IntKind.i64.wrap (i + 1))
  else
  none
 else
 some false :=
  (runA_eq 87 _ _).trans (by kernel_rfl)
theorem R.l1Digit_eq (b : Int) : R.l1Digit b =
  bif decide (b ≥ 48) then
  some (decide (b ≤ 57))
 else
 some false :=
  (fnA_eq 123 [PV.i IntKind.u8 b] rfl).trans (by kernel_rfl)
theorem R.l1Tail_eq (b : Int) : R.l1Tail b =
  (R.l1Letter b).bind fun (r0 : Bool) =>
 bif r0 then
  some true
 else
 (R.l1Digit b).bind fun (r1 : Bool) =>
  bif r1 then
   some true
  else
  some (b == 95) :=
  (fnA_eq 88 [PV.i IntKind.u8 b] rfl).trans (by kernel_rfl)
noncomputable def R.l1NameOk.l116 (s : ByteArray) (i : Int) : Option Bool := Y.runA 46 (fun ct c => at_ ct [true, true, false, true, false, false] c) ⟨[(0, .s s), (3, .i IntKind.i64 i)], [], [], []⟩
theorem R.l1NameOk_eq (s : ByteArray) : R.l1NameOk s =
  bif decide ((↑s.size : Int) < 1) then
  some false
 else
 bif decide ((↑s.size : Int) > 30) then
   some false
  else
  bif inB 0 s.size then
    (R.l1Letter (bt s 0)).bind fun (r0 : Bool) =>
    bif !r0 then
     some false
    else
    (R.l1Taken s).bind fun (r1 : Bool) =>
     bif r1 then
      some false
     else
     R.l1NameOk.l116 s 0
   else
   none :=
  (fnA_eq 46 [PV.s s] rfl).trans (by kernel_rfl)
theorem R.l1NameOk.l116_eq (s : ByteArray) (i : Int) : R.l1NameOk.l116 s i =
  bif decide (i < (↑s.size : Int)) then
  bif inB i s.size then
   (R.l1Tail (bt s i)).bind fun (r0 : Bool) =>
   bif !r0 then
    some false
   else
   R.l1NameOk.l116 s (IntKind.i64.wrap (i + 1))
  else
  none
 else
 some true :=
  (runA_eq 46 _ _).trans (by kernel_rfl)
theorem R.l1Integer_eq (t : Int) : R.l1Integer t =
  bif decide (t ≥ 3) then
  some (decide (t ≤ 10))
 else
 some false :=
  (fnA_eq 47 [PV.i IntKind.i64 t] rfl).trans (by kernel_rfl)
noncomputable def R.l1Bits.l53 (t3 : Int) (t4 : Bool) : Option Int := Y.runA 89 (fun ct c => at_ ct [true, false, true, false, true] c) ⟨[(3, .i IntKind.i64 t3), (4, .b t4)], [], [], []⟩
noncomputable def R.l1Bits.l215 (t3 : Int) (t7 : Bool) : Option Int := Y.runA 89 (fun ct c => at_ ct [true, false, true, false, true, true, true] c) ⟨[(3, .i IntKind.i64 t3), (7, .b t7)], [], [], []⟩
theorem R.l1Bits_eq (t : Int) : R.l1Bits t =
  bif t == 3 then
  R.l1Bits.l53 t (t == 3)
 else
 R.l1Bits.l53 t (t == 7) :=
  (fnA_eq 89 [PV.i IntKind.i64 t] rfl).trans (by kernel_rfl)
theorem R.l1Bits.l53_eq (t3 : Int) (t4 : Bool) : R.l1Bits.l53 t3 t4 =
  bif t4 then
  some 8
 else
 bif t3 == 4 then
   R.l1Bits.l215 t3 (t3 == 4)
  else
  R.l1Bits.l215 t3 (t3 == 8) :=
  (runA_eq 89 _ _).trans (by kernel_rfl)
theorem R.l1Bits.l215_eq (t3 : Int) (t7 : Bool) : R.l1Bits.l215 t3 t7 =
  bif t7 then
  some 16
 else
 bif t3 == 5 then
   bif t3 == 5 then
    some 32
   else
   some 64
  else
  bif t3 == 9 then
    some 32
   else
   some 64 :=
  (runA_eq 89 _ _).trans (by kernel_rfl)
theorem R.l1Signed_eq (t : Int) : R.l1Signed t =
  bif decide (t ≥ 7) then
  some (decide (t ≤ 10))
 else
 some false :=
  (fnA_eq 90 [PV.i IntKind.i64 t] rfl).trans (by kernel_rfl)
noncomputable def R.l1Max.l500 (n : Int) (m : Int) (i : Int) : Option Int := Y.runA 48 (fun ct c => at_ ct [true, true, true, true, false, true, false, false] c) ⟨[(3, .i IntKind.i64 n), (4, .i IntKind.u64 m), (5, .i IntKind.i64 i)], [], [], []⟩
theorem R.l1Max_eq (t : Int) : R.l1Max t =
  (R.l1Bits t).bind fun (r0 : Int) =>
 (R.l1Signed t).bind fun (r1 : Bool) =>
 bif r1 then
  R.l1Max.l500 (IntKind.i64.wrap (r0 - 1)) 0 0
 else
 R.l1Max.l500 r0 0 0 :=
  (fnA_eq 48 [PV.i IntKind.i64 t] rfl).trans (by kernel_rfl)
theorem R.l1Max.l500_eq (n : Int) (m : Int) (i : Int) : R.l1Max.l500 n m i =
  bif decide (i < n) then
  R.l1Max.l500 n (IntKind.u64.wrap (IntKind.u64.wrap (m * 2) + 1)) (IntKind.i64.wrap (i + 1))
 else
 some m :=
  (runA_eq 48 _ _).trans (by kernel_rfl)
theorem R.l2Fields_eq (n : TNode) : R.l2Fields n =
  (R.l2Uses n.gKind).bind fun (r0 : (Bool × (Bool × (Bool × Bool)))) =>
 bif !r0.fst then
  bif n.gOp != 0 then
   some false
  else
  bif !r0.snd.fst then
    bif n.gType != 0 then
     some false
    else
    bif !r0.snd.snd.fst then
      bif n.gN != 0 then
       some false
      else
      bif !r0.snd.snd.snd then
        bif !bEq n.gText ((⟨#[]⟩ : ByteArray)) then
         some false
        else
        (R.l2Named n.gKind).bind fun (r1 : Bool) =>
         bif r1 then
          (R.l1NameOk n.gText).bind fun (r2 : Bool) =>
          bif !r2 then
           some false
          else
          bif n.gKind == 1 then
            (R.l1Integer n.gType).bind fun (r3 : Bool) =>
            bif r3 then
            (R.l1Max n.gType).bind fun (r4 : Int) =>
            some (decide (IntKind.u64.wrap n.gN ≤ r4))
            else
            some false
           else
           bif n.gKind == 2 then
            some (decide ((↑n.gText.size : Int) ≤ 3000))
            else
            bif n.gKind == 3 then
            bif n.gN == 0 then
            some true
            else
            some (n.gN == 1)
            else
            bif n.gKind == 5 then
            bif decide (n.gOp ≥ 1) then
            some (decide (n.gOp ≤ 3))
            else
            some false
            else
            bif n.gKind == 6 then
            bif decide (n.gOp ≥ 1) then
            some (decide (n.gOp ≤ 18))
            else
            some false
            else
            bif n.gKind == 8 then
            bif decide (n.gOp ≥ 1) then
            some (decide (n.gOp ≤ 12))
            else
            some false
            else
            bif n.gKind == 9 then
            (R.l1Integer n.gType).bind fun (r3 : Bool) =>
            some r3
            else
            bif n.gKind == 22 then
            bif decide (n.gType ≥ 1) then
            some (decide (n.gType ≤ 10))
            else
            some false
            else
            bif n.gKind == 23 then
            bif decide (n.gType ≥ 0) then
            some (decide (n.gType ≤ 10))
            else
            some false
            else
            some true
         else
         bif n.gKind == 1 then
           (R.l1Integer n.gType).bind fun (r2 : Bool) =>
           bif r2 then
            (R.l1Max n.gType).bind fun (r3 : Int) =>
            some (decide (IntKind.u64.wrap n.gN ≤ r3))
           else
           some false
          else
          bif n.gKind == 2 then
            some (decide ((↑n.gText.size : Int) ≤ 3000))
           else
           bif n.gKind == 3 then
            bif n.gN == 0 then
            some true
            else
            some (n.gN == 1)
            else
            bif n.gKind == 5 then
            bif decide (n.gOp ≥ 1) then
            some (decide (n.gOp ≤ 3))
            else
            some false
            else
            bif n.gKind == 6 then
            bif decide (n.gOp ≥ 1) then
            some (decide (n.gOp ≤ 18))
            else
            some false
            else
            bif n.gKind == 8 then
            bif decide (n.gOp ≥ 1) then
            some (decide (n.gOp ≤ 12))
            else
            some false
            else
            bif n.gKind == 9 then
            (R.l1Integer n.gType).bind fun (r2 : Bool) =>
            some r2
            else
            bif n.gKind == 22 then
            bif decide (n.gType ≥ 1) then
            some (decide (n.gType ≤ 10))
            else
            some false
            else
            bif n.gKind == 23 then
            bif decide (n.gType ≥ 0) then
            some (decide (n.gType ≤ 10))
            else
            some false
            else
            some true
       else
       (R.l2Named n.gKind).bind fun (r1 : Bool) =>
        bif r1 then
         (R.l1NameOk n.gText).bind fun (r2 : Bool) =>
         bif !r2 then
          some false
         else
         bif n.gKind == 1 then
           (R.l1Integer n.gType).bind fun (r3 : Bool) =>
           bif r3 then
            (R.l1Max n.gType).bind fun (r4 : Int) =>
            some (decide (IntKind.u64.wrap n.gN ≤ r4))
           else
           some false
          else
          bif n.gKind == 2 then
            some (decide ((↑n.gText.size : Int) ≤ 3000))
           else
           bif n.gKind == 3 then
            bif n.gN == 0 then
            some true
            else
            some (n.gN == 1)
            else
            bif n.gKind == 5 then
            bif decide (n.gOp ≥ 1) then
            some (decide (n.gOp ≤ 3))
            else
            some false
            else
            bif n.gKind == 6 then
            bif decide (n.gOp ≥ 1) then
            some (decide (n.gOp ≤ 18))
            else
            some false
            else
            bif n.gKind == 8 then
            bif decide (n.gOp ≥ 1) then
            some (decide (n.gOp ≤ 12))
            else
            some false
            else
            bif n.gKind == 9 then
            (R.l1Integer n.gType).bind fun (r3 : Bool) =>
            some r3
            else
            bif n.gKind == 22 then
            bif decide (n.gType ≥ 1) then
            some (decide (n.gType ≤ 10))
            else
            some false
            else
            bif n.gKind == 23 then
            bif decide (n.gType ≥ 0) then
            some (decide (n.gType ≤ 10))
            else
            some false
            else
            some true
        else
        bif n.gKind == 1 then
          (R.l1Integer n.gType).bind fun (r2 : Bool) =>
          bif r2 then
           (R.l1Max n.gType).bind fun (r3 : Int) =>
           some (decide (IntKind.u64.wrap n.gN ≤ r3))
          else
          some false
         else
         bif n.gKind == 2 then
           some (decide ((↑n.gText.size : Int) ≤ 3000))
          else
          bif n.gKind == 3 then
            bif n.gN == 0 then
            some true
            else
            some (n.gN == 1)
           else
           bif n.gKind == 5 then
            bif decide (n.gOp ≥ 1) then
            some (decide (n.gOp ≤ 3))
            else
            some false
            else
            bif n.gKind == 6 then
            bif decide (n.gOp ≥ 1) then
            some (decide (n.gOp ≤ 18))
            else
            some false
            else
            bif n.gKind == 8 then
            bif decide (n.gOp ≥ 1) then
            some (decide (n.gOp ≤ 12))
            else
            some false
            else
            bif n.gKind == 9 then
            (R.l1Integer n.gType).bind fun (r2 : Bool) =>
            some r2
            else
            bif n.gKind == 22 then
            bif decide (n.gType ≥ 1) then
            some (decide (n.gType ≤ 10))
            else
            some false
            else
            bif n.gKind == 23 then
            bif decide (n.gType ≥ 0) then
            some (decide (n.gType ≤ 10))
            else
            some false
            else
            some true
     else
     bif !r0.snd.snd.snd then
       bif !bEq n.gText ((⟨#[]⟩ : ByteArray)) then
        some false
       else
       (R.l2Named n.gKind).bind fun (r1 : Bool) =>
        bif r1 then
         (R.l1NameOk n.gText).bind fun (r2 : Bool) =>
         bif !r2 then
          some false
         else
         bif n.gKind == 1 then
           (R.l1Integer n.gType).bind fun (r3 : Bool) =>
           bif r3 then
            (R.l1Max n.gType).bind fun (r4 : Int) =>
            some (decide (IntKind.u64.wrap n.gN ≤ r4))
           else
           some false
          else
          bif n.gKind == 2 then
            some (decide ((↑n.gText.size : Int) ≤ 3000))
           else
           bif n.gKind == 3 then
            bif n.gN == 0 then
            some true
            else
            some (n.gN == 1)
            else
            bif n.gKind == 5 then
            bif decide (n.gOp ≥ 1) then
            some (decide (n.gOp ≤ 3))
            else
            some false
            else
            bif n.gKind == 6 then
            bif decide (n.gOp ≥ 1) then
            some (decide (n.gOp ≤ 18))
            else
            some false
            else
            bif n.gKind == 8 then
            bif decide (n.gOp ≥ 1) then
            some (decide (n.gOp ≤ 12))
            else
            some false
            else
            bif n.gKind == 9 then
            (R.l1Integer n.gType).bind fun (r3 : Bool) =>
            some r3
            else
            bif n.gKind == 22 then
            bif decide (n.gType ≥ 1) then
            some (decide (n.gType ≤ 10))
            else
            some false
            else
            bif n.gKind == 23 then
            bif decide (n.gType ≥ 0) then
            some (decide (n.gType ≤ 10))
            else
            some false
            else
            some true
        else
        bif n.gKind == 1 then
          (R.l1Integer n.gType).bind fun (r2 : Bool) =>
          bif r2 then
           (R.l1Max n.gType).bind fun (r3 : Int) =>
           some (decide (IntKind.u64.wrap n.gN ≤ r3))
          else
          some false
         else
         bif n.gKind == 2 then
           some (decide ((↑n.gText.size : Int) ≤ 3000))
          else
          bif n.gKind == 3 then
            bif n.gN == 0 then
            some true
            else
            some (n.gN == 1)
           else
           bif n.gKind == 5 then
            bif decide (n.gOp ≥ 1) then
            some (decide (n.gOp ≤ 3))
            else
            some false
            else
            bif n.gKind == 6 then
            bif decide (n.gOp ≥ 1) then
            some (decide (n.gOp ≤ 18))
            else
            some false
            else
            bif n.gKind == 8 then
            bif decide (n.gOp ≥ 1) then
            some (decide (n.gOp ≤ 12))
            else
            some false
            else
            bif n.gKind == 9 then
            (R.l1Integer n.gType).bind fun (r2 : Bool) =>
            some r2
            else
            bif n.gKind == 22 then
            bif decide (n.gType ≥ 1) then
            some (decide (n.gType ≤ 10))
            else
            some false
            else
            bif n.gKind == 23 then
            bif decide (n.gType ≥ 0) then
            some (decide (n.gType ≤ 10))
            else
            some false
            else
            some true
      else
      (R.l2Named n.gKind).bind fun (r1 : Bool) =>
       bif r1 then
        (R.l1NameOk n.gText).bind fun (r2 : Bool) =>
        bif !r2 then
         some false
        else
        bif n.gKind == 1 then
          (R.l1Integer n.gType).bind fun (r3 : Bool) =>
          bif r3 then
           (R.l1Max n.gType).bind fun (r4 : Int) =>
           some (decide (IntKind.u64.wrap n.gN ≤ r4))
          else
          some false
         else
         bif n.gKind == 2 then
           some (decide ((↑n.gText.size : Int) ≤ 3000))
          else
          bif n.gKind == 3 then
            bif n.gN == 0 then
            some true
            else
            some (n.gN == 1)
           else
           bif n.gKind == 5 then
            bif decide (n.gOp ≥ 1) then
            some (decide (n.gOp ≤ 3))
            else
            some false
            else
            bif n.gKind == 6 then
            bif decide (n.gOp ≥ 1) then
            some (decide (n.gOp ≤ 18))
            else
            some false
            else
            bif n.gKind == 8 then
            bif decide (n.gOp ≥ 1) then
            some (decide (n.gOp ≤ 12))
            else
            some false
            else
            bif n.gKind == 9 then
            (R.l1Integer n.gType).bind fun (r3 : Bool) =>
            some r3
            else
            bif n.gKind == 22 then
            bif decide (n.gType ≥ 1) then
            some (decide (n.gType ≤ 10))
            else
            some false
            else
            bif n.gKind == 23 then
            bif decide (n.gType ≥ 0) then
            some (decide (n.gType ≤ 10))
            else
            some false
            else
            some true
       else
       bif n.gKind == 1 then
         (R.l1Integer n.gType).bind fun (r2 : Bool) =>
         bif r2 then
          (R.l1Max n.gType).bind fun (r3 : Int) =>
          some (decide (IntKind.u64.wrap n.gN ≤ r3))
         else
         some false
        else
        bif n.gKind == 2 then
          some (decide ((↑n.gText.size : Int) ≤ 3000))
         else
         bif n.gKind == 3 then
           bif n.gN == 0 then
            some true
           else
           some (n.gN == 1)
          else
          bif n.gKind == 5 then
            bif decide (n.gOp ≥ 1) then
            some (decide (n.gOp ≤ 3))
            else
            some false
           else
           bif n.gKind == 6 then
            bif decide (n.gOp ≥ 1) then
            some (decide (n.gOp ≤ 18))
            else
            some false
            else
            bif n.gKind == 8 then
            bif decide (n.gOp ≥ 1) then
            some (decide (n.gOp ≤ 12))
            else
            some false
            else
            bif n.gKind == 9 then
            (R.l1Integer n.gType).bind fun (r2 : Bool) =>
            some r2
            else
            bif n.gKind == 22 then
            bif decide (n.gType ≥ 1) then
            some (decide (n.gType ≤ 10))
            else
            some false
            else
            bif n.gKind == 23 then
            bif decide (n.gType ≥ 0) then
            some (decide (n.gType ≤ 10))
            else
            some false
            else
            some true
   else
   bif !r0.snd.snd.fst then
     bif n.gN != 0 then
      some false
     else
     bif !r0.snd.snd.snd then
       bif !bEq n.gText ((⟨#[]⟩ : ByteArray)) then
        some false
       else
       (R.l2Named n.gKind).bind fun (r1 : Bool) =>
        bif r1 then
         (R.l1NameOk n.gText).bind fun (r2 : Bool) =>
         bif !r2 then
          some false
         else
         bif n.gKind == 1 then
           (R.l1Integer n.gType).bind fun (r3 : Bool) =>
           bif r3 then
            (R.l1Max n.gType).bind fun (r4 : Int) =>
            some (decide (IntKind.u64.wrap n.gN ≤ r4))
           else
           some false
          else
          bif n.gKind == 2 then
            some (decide ((↑n.gText.size : Int) ≤ 3000))
           else
           bif n.gKind == 3 then
            bif n.gN == 0 then
            some true
            else
            some (n.gN == 1)
            else
            bif n.gKind == 5 then
            bif decide (n.gOp ≥ 1) then
            some (decide (n.gOp ≤ 3))
            else
            some false
            else
            bif n.gKind == 6 then
            bif decide (n.gOp ≥ 1) then
            some (decide (n.gOp ≤ 18))
            else
            some false
            else
            bif n.gKind == 8 then
            bif decide (n.gOp ≥ 1) then
            some (decide (n.gOp ≤ 12))
            else
            some false
            else
            bif n.gKind == 9 then
            (R.l1Integer n.gType).bind fun (r3 : Bool) =>
            some r3
            else
            bif n.gKind == 22 then
            bif decide (n.gType ≥ 1) then
            some (decide (n.gType ≤ 10))
            else
            some false
            else
            bif n.gKind == 23 then
            bif decide (n.gType ≥ 0) then
            some (decide (n.gType ≤ 10))
            else
            some false
            else
            some true
        else
        bif n.gKind == 1 then
          (R.l1Integer n.gType).bind fun (r2 : Bool) =>
          bif r2 then
           (R.l1Max n.gType).bind fun (r3 : Int) =>
           some (decide (IntKind.u64.wrap n.gN ≤ r3))
          else
          some false
         else
         bif n.gKind == 2 then
           some (decide ((↑n.gText.size : Int) ≤ 3000))
          else
          bif n.gKind == 3 then
            bif n.gN == 0 then
            some true
            else
            some (n.gN == 1)
           else
           bif n.gKind == 5 then
            bif decide (n.gOp ≥ 1) then
            some (decide (n.gOp ≤ 3))
            else
            some false
            else
            bif n.gKind == 6 then
            bif decide (n.gOp ≥ 1) then
            some (decide (n.gOp ≤ 18))
            else
            some false
            else
            bif n.gKind == 8 then
            bif decide (n.gOp ≥ 1) then
            some (decide (n.gOp ≤ 12))
            else
            some false
            else
            bif n.gKind == 9 then
            (R.l1Integer n.gType).bind fun (r2 : Bool) =>
            some r2
            else
            bif n.gKind == 22 then
            bif decide (n.gType ≥ 1) then
            some (decide (n.gType ≤ 10))
            else
            some false
            else
            bif n.gKind == 23 then
            bif decide (n.gType ≥ 0) then
            some (decide (n.gType ≤ 10))
            else
            some false
            else
            some true
      else
      (R.l2Named n.gKind).bind fun (r1 : Bool) =>
       bif r1 then
        (R.l1NameOk n.gText).bind fun (r2 : Bool) =>
        bif !r2 then
         some false
        else
        bif n.gKind == 1 then
          (R.l1Integer n.gType).bind fun (r3 : Bool) =>
          bif r3 then
           (R.l1Max n.gType).bind fun (r4 : Int) =>
           some (decide (IntKind.u64.wrap n.gN ≤ r4))
          else
          some false
         else
         bif n.gKind == 2 then
           some (decide ((↑n.gText.size : Int) ≤ 3000))
          else
          bif n.gKind == 3 then
            bif n.gN == 0 then
            some true
            else
            some (n.gN == 1)
           else
           bif n.gKind == 5 then
            bif decide (n.gOp ≥ 1) then
            some (decide (n.gOp ≤ 3))
            else
            some false
            else
            bif n.gKind == 6 then
            bif decide (n.gOp ≥ 1) then
            some (decide (n.gOp ≤ 18))
            else
            some false
            else
            bif n.gKind == 8 then
            bif decide (n.gOp ≥ 1) then
            some (decide (n.gOp ≤ 12))
            else
            some false
            else
            bif n.gKind == 9 then
            (R.l1Integer n.gType).bind fun (r3 : Bool) =>
            some r3
            else
            bif n.gKind == 22 then
            bif decide (n.gType ≥ 1) then
            some (decide (n.gType ≤ 10))
            else
            some false
            else
            bif n.gKind == 23 then
            bif decide (n.gType ≥ 0) then
            some (decide (n.gType ≤ 10))
            else
            some false
            else
            some true
       else
       bif n.gKind == 1 then
         (R.l1Integer n.gType).bind fun (r2 : Bool) =>
         bif r2 then
          (R.l1Max n.gType).bind fun (r3 : Int) =>
          some (decide (IntKind.u64.wrap n.gN ≤ r3))
         else
         some false
        else
        bif n.gKind == 2 then
          some (decide ((↑n.gText.size : Int) ≤ 3000))
         else
         bif n.gKind == 3 then
           bif n.gN == 0 then
            some true
           else
           some (n.gN == 1)
          else
          bif n.gKind == 5 then
            bif decide (n.gOp ≥ 1) then
            some (decide (n.gOp ≤ 3))
            else
            some false
           else
           bif n.gKind == 6 then
            bif decide (n.gOp ≥ 1) then
            some (decide (n.gOp ≤ 18))
            else
            some false
            else
            bif n.gKind == 8 then
            bif decide (n.gOp ≥ 1) then
            some (decide (n.gOp ≤ 12))
            else
            some false
            else
            bif n.gKind == 9 then
            (R.l1Integer n.gType).bind fun (r2 : Bool) =>
            some r2
            else
            bif n.gKind == 22 then
            bif decide (n.gType ≥ 1) then
            some (decide (n.gType ≤ 10))
            else
            some false
            else
            bif n.gKind == 23 then
            bif decide (n.gType ≥ 0) then
            some (decide (n.gType ≤ 10))
            else
            some false
            else
            some true
    else
    bif !r0.snd.snd.snd then
      bif !bEq n.gText ((⟨#[]⟩ : ByteArray)) then
       some false
      else
      (R.l2Named n.gKind).bind fun (r1 : Bool) =>
       bif r1 then
        (R.l1NameOk n.gText).bind fun (r2 : Bool) =>
        bif !r2 then
         some false
        else
        bif n.gKind == 1 then
          (R.l1Integer n.gType).bind fun (r3 : Bool) =>
          bif r3 then
           (R.l1Max n.gType).bind fun (r4 : Int) =>
           some (decide (IntKind.u64.wrap n.gN ≤ r4))
          else
          some false
         else
         bif n.gKind == 2 then
           some (decide ((↑n.gText.size : Int) ≤ 3000))
          else
          bif n.gKind == 3 then
            bif n.gN == 0 then
            some true
            else
            some (n.gN == 1)
           else
           bif n.gKind == 5 then
            bif decide (n.gOp ≥ 1) then
            some (decide (n.gOp ≤ 3))
            else
            some false
            else
            bif n.gKind == 6 then
            bif decide (n.gOp ≥ 1) then
            some (decide (n.gOp ≤ 18))
            else
            some false
            else
            bif n.gKind == 8 then
            bif decide (n.gOp ≥ 1) then
            some (decide (n.gOp ≤ 12))
            else
            some false
            else
            bif n.gKind == 9 then
            (R.l1Integer n.gType).bind fun (r3 : Bool) =>
            some r3
            else
            bif n.gKind == 22 then
            bif decide (n.gType ≥ 1) then
            some (decide (n.gType ≤ 10))
            else
            some false
            else
            bif n.gKind == 23 then
            bif decide (n.gType ≥ 0) then
            some (decide (n.gType ≤ 10))
            else
            some false
            else
            some true
       else
       bif n.gKind == 1 then
         (R.l1Integer n.gType).bind fun (r2 : Bool) =>
         bif r2 then
          (R.l1Max n.gType).bind fun (r3 : Int) =>
          some (decide (IntKind.u64.wrap n.gN ≤ r3))
         else
         some false
        else
        bif n.gKind == 2 then
          some (decide ((↑n.gText.size : Int) ≤ 3000))
         else
         bif n.gKind == 3 then
           bif n.gN == 0 then
            some true
           else
           some (n.gN == 1)
          else
          bif n.gKind == 5 then
            bif decide (n.gOp ≥ 1) then
            some (decide (n.gOp ≤ 3))
            else
            some false
           else
           bif n.gKind == 6 then
            bif decide (n.gOp ≥ 1) then
            some (decide (n.gOp ≤ 18))
            else
            some false
            else
            bif n.gKind == 8 then
            bif decide (n.gOp ≥ 1) then
            some (decide (n.gOp ≤ 12))
            else
            some false
            else
            bif n.gKind == 9 then
            (R.l1Integer n.gType).bind fun (r2 : Bool) =>
            some r2
            else
            bif n.gKind == 22 then
            bif decide (n.gType ≥ 1) then
            some (decide (n.gType ≤ 10))
            else
            some false
            else
            bif n.gKind == 23 then
            bif decide (n.gType ≥ 0) then
            some (decide (n.gType ≤ 10))
            else
            some false
            else
            some true
     else
     (R.l2Named n.gKind).bind fun (r1 : Bool) =>
      bif r1 then
       (R.l1NameOk n.gText).bind fun (r2 : Bool) =>
       bif !r2 then
        some false
       else
       bif n.gKind == 1 then
         (R.l1Integer n.gType).bind fun (r3 : Bool) =>
         bif r3 then
          (R.l1Max n.gType).bind fun (r4 : Int) =>
          some (decide (IntKind.u64.wrap n.gN ≤ r4))
         else
         some false
        else
        bif n.gKind == 2 then
          some (decide ((↑n.gText.size : Int) ≤ 3000))
         else
         bif n.gKind == 3 then
           bif n.gN == 0 then
            some true
           else
           some (n.gN == 1)
          else
          bif n.gKind == 5 then
            bif decide (n.gOp ≥ 1) then
            some (decide (n.gOp ≤ 3))
            else
            some false
           else
           bif n.gKind == 6 then
            bif decide (n.gOp ≥ 1) then
            some (decide (n.gOp ≤ 18))
            else
            some false
            else
            bif n.gKind == 8 then
            bif decide (n.gOp ≥ 1) then
            some (decide (n.gOp ≤ 12))
            else
            some false
            else
            bif n.gKind == 9 then
            (R.l1Integer n.gType).bind fun (r3 : Bool) =>
            some r3
            else
            bif n.gKind == 22 then
            bif decide (n.gType ≥ 1) then
            some (decide (n.gType ≤ 10))
            else
            some false
            else
            bif n.gKind == 23 then
            bif decide (n.gType ≥ 0) then
            some (decide (n.gType ≤ 10))
            else
            some false
            else
            some true
      else
      bif n.gKind == 1 then
        (R.l1Integer n.gType).bind fun (r2 : Bool) =>
        bif r2 then
         (R.l1Max n.gType).bind fun (r3 : Int) =>
         some (decide (IntKind.u64.wrap n.gN ≤ r3))
        else
        some false
       else
       bif n.gKind == 2 then
         some (decide ((↑n.gText.size : Int) ≤ 3000))
        else
        bif n.gKind == 3 then
          bif n.gN == 0 then
           some true
          else
          some (n.gN == 1)
         else
         bif n.gKind == 5 then
           bif decide (n.gOp ≥ 1) then
            some (decide (n.gOp ≤ 3))
           else
           some false
          else
          bif n.gKind == 6 then
            bif decide (n.gOp ≥ 1) then
            some (decide (n.gOp ≤ 18))
            else
            some false
           else
           bif n.gKind == 8 then
            bif decide (n.gOp ≥ 1) then
            some (decide (n.gOp ≤ 12))
            else
            some false
            else
            bif n.gKind == 9 then
            (R.l1Integer n.gType).bind fun (r2 : Bool) =>
            some r2
            else
            bif n.gKind == 22 then
            bif decide (n.gType ≥ 1) then
            some (decide (n.gType ≤ 10))
            else
            some false
            else
            bif n.gKind == 23 then
            bif decide (n.gType ≥ 0) then
            some (decide (n.gType ≤ 10))
            else
            some false
            else
            some true
 else
 bif !r0.snd.fst then
   bif n.gType != 0 then
    some false
   else
   bif !r0.snd.snd.fst then
     bif n.gN != 0 then
      some false
     else
     bif !r0.snd.snd.snd then
       bif !bEq n.gText ((⟨#[]⟩ : ByteArray)) then
        some false
       else
       (R.l2Named n.gKind).bind fun (r1 : Bool) =>
        bif r1 then
         (R.l1NameOk n.gText).bind fun (r2 : Bool) =>
         bif !r2 then
          some false
         else
         bif n.gKind == 1 then
           (R.l1Integer n.gType).bind fun (r3 : Bool) =>
           bif r3 then
            (R.l1Max n.gType).bind fun (r4 : Int) =>
            some (decide (IntKind.u64.wrap n.gN ≤ r4))
           else
           some false
          else
          bif n.gKind == 2 then
            some (decide ((↑n.gText.size : Int) ≤ 3000))
           else
           bif n.gKind == 3 then
            bif n.gN == 0 then
            some true
            else
            some (n.gN == 1)
            else
            bif n.gKind == 5 then
            bif decide (n.gOp ≥ 1) then
            some (decide (n.gOp ≤ 3))
            else
            some false
            else
            bif n.gKind == 6 then
            bif decide (n.gOp ≥ 1) then
            some (decide (n.gOp ≤ 18))
            else
            some false
            else
            bif n.gKind == 8 then
            bif decide (n.gOp ≥ 1) then
            some (decide (n.gOp ≤ 12))
            else
            some false
            else
            bif n.gKind == 9 then
            (R.l1Integer n.gType).bind fun (r3 : Bool) =>
            some r3
            else
            bif n.gKind == 22 then
            bif decide (n.gType ≥ 1) then
            some (decide (n.gType ≤ 10))
            else
            some false
            else
            bif n.gKind == 23 then
            bif decide (n.gType ≥ 0) then
            some (decide (n.gType ≤ 10))
            else
            some false
            else
            some true
        else
        bif n.gKind == 1 then
          (R.l1Integer n.gType).bind fun (r2 : Bool) =>
          bif r2 then
           (R.l1Max n.gType).bind fun (r3 : Int) =>
           some (decide (IntKind.u64.wrap n.gN ≤ r3))
          else
          some false
         else
         bif n.gKind == 2 then
           some (decide ((↑n.gText.size : Int) ≤ 3000))
          else
          bif n.gKind == 3 then
            bif n.gN == 0 then
            some true
            else
            some (n.gN == 1)
           else
           bif n.gKind == 5 then
            bif decide (n.gOp ≥ 1) then
            some (decide (n.gOp ≤ 3))
            else
            some false
            else
            bif n.gKind == 6 then
            bif decide (n.gOp ≥ 1) then
            some (decide (n.gOp ≤ 18))
            else
            some false
            else
            bif n.gKind == 8 then
            bif decide (n.gOp ≥ 1) then
            some (decide (n.gOp ≤ 12))
            else
            some false
            else
            bif n.gKind == 9 then
            (R.l1Integer n.gType).bind fun (r2 : Bool) =>
            some r2
            else
            bif n.gKind == 22 then
            bif decide (n.gType ≥ 1) then
            some (decide (n.gType ≤ 10))
            else
            some false
            else
            bif n.gKind == 23 then
            bif decide (n.gType ≥ 0) then
            some (decide (n.gType ≤ 10))
            else
            some false
            else
            some true
      else
      (R.l2Named n.gKind).bind fun (r1 : Bool) =>
       bif r1 then
        (R.l1NameOk n.gText).bind fun (r2 : Bool) =>
        bif !r2 then
         some false
        else
        bif n.gKind == 1 then
          (R.l1Integer n.gType).bind fun (r3 : Bool) =>
          bif r3 then
           (R.l1Max n.gType).bind fun (r4 : Int) =>
           some (decide (IntKind.u64.wrap n.gN ≤ r4))
          else
          some false
         else
         bif n.gKind == 2 then
           some (decide ((↑n.gText.size : Int) ≤ 3000))
          else
          bif n.gKind == 3 then
            bif n.gN == 0 then
            some true
            else
            some (n.gN == 1)
           else
           bif n.gKind == 5 then
            bif decide (n.gOp ≥ 1) then
            some (decide (n.gOp ≤ 3))
            else
            some false
            else
            bif n.gKind == 6 then
            bif decide (n.gOp ≥ 1) then
            some (decide (n.gOp ≤ 18))
            else
            some false
            else
            bif n.gKind == 8 then
            bif decide (n.gOp ≥ 1) then
            some (decide (n.gOp ≤ 12))
            else
            some false
            else
            bif n.gKind == 9 then
            (R.l1Integer n.gType).bind fun (r3 : Bool) =>
            some r3
            else
            bif n.gKind == 22 then
            bif decide (n.gType ≥ 1) then
            some (decide (n.gType ≤ 10))
            else
            some false
            else
            bif n.gKind == 23 then
            bif decide (n.gType ≥ 0) then
            some (decide (n.gType ≤ 10))
            else
            some false
            else
            some true
       else
       bif n.gKind == 1 then
         (R.l1Integer n.gType).bind fun (r2 : Bool) =>
         bif r2 then
          (R.l1Max n.gType).bind fun (r3 : Int) =>
          some (decide (IntKind.u64.wrap n.gN ≤ r3))
         else
         some false
        else
        bif n.gKind == 2 then
          some (decide ((↑n.gText.size : Int) ≤ 3000))
         else
         bif n.gKind == 3 then
           bif n.gN == 0 then
            some true
           else
           some (n.gN == 1)
          else
          bif n.gKind == 5 then
            bif decide (n.gOp ≥ 1) then
            some (decide (n.gOp ≤ 3))
            else
            some false
           else
           bif n.gKind == 6 then
            bif decide (n.gOp ≥ 1) then
            some (decide (n.gOp ≤ 18))
            else
            some false
            else
            bif n.gKind == 8 then
            bif decide (n.gOp ≥ 1) then
            some (decide (n.gOp ≤ 12))
            else
            some false
            else
            bif n.gKind == 9 then
            (R.l1Integer n.gType).bind fun (r2 : Bool) =>
            some r2
            else
            bif n.gKind == 22 then
            bif decide (n.gType ≥ 1) then
            some (decide (n.gType ≤ 10))
            else
            some false
            else
            bif n.gKind == 23 then
            bif decide (n.gType ≥ 0) then
            some (decide (n.gType ≤ 10))
            else
            some false
            else
            some true
    else
    bif !r0.snd.snd.snd then
      bif !bEq n.gText ((⟨#[]⟩ : ByteArray)) then
       some false
      else
      (R.l2Named n.gKind).bind fun (r1 : Bool) =>
       bif r1 then
        (R.l1NameOk n.gText).bind fun (r2 : Bool) =>
        bif !r2 then
         some false
        else
        bif n.gKind == 1 then
          (R.l1Integer n.gType).bind fun (r3 : Bool) =>
          bif r3 then
           (R.l1Max n.gType).bind fun (r4 : Int) =>
           some (decide (IntKind.u64.wrap n.gN ≤ r4))
          else
          some false
         else
         bif n.gKind == 2 then
           some (decide ((↑n.gText.size : Int) ≤ 3000))
          else
          bif n.gKind == 3 then
            bif n.gN == 0 then
            some true
            else
            some (n.gN == 1)
           else
           bif n.gKind == 5 then
            bif decide (n.gOp ≥ 1) then
            some (decide (n.gOp ≤ 3))
            else
            some false
            else
            bif n.gKind == 6 then
            bif decide (n.gOp ≥ 1) then
            some (decide (n.gOp ≤ 18))
            else
            some false
            else
            bif n.gKind == 8 then
            bif decide (n.gOp ≥ 1) then
            some (decide (n.gOp ≤ 12))
            else
            some false
            else
            bif n.gKind == 9 then
            (R.l1Integer n.gType).bind fun (r3 : Bool) =>
            some r3
            else
            bif n.gKind == 22 then
            bif decide (n.gType ≥ 1) then
            some (decide (n.gType ≤ 10))
            else
            some false
            else
            bif n.gKind == 23 then
            bif decide (n.gType ≥ 0) then
            some (decide (n.gType ≤ 10))
            else
            some false
            else
            some true
       else
       bif n.gKind == 1 then
         (R.l1Integer n.gType).bind fun (r2 : Bool) =>
         bif r2 then
          (R.l1Max n.gType).bind fun (r3 : Int) =>
          some (decide (IntKind.u64.wrap n.gN ≤ r3))
         else
         some false
        else
        bif n.gKind == 2 then
          some (decide ((↑n.gText.size : Int) ≤ 3000))
         else
         bif n.gKind == 3 then
           bif n.gN == 0 then
            some true
           else
           some (n.gN == 1)
          else
          bif n.gKind == 5 then
            bif decide (n.gOp ≥ 1) then
            some (decide (n.gOp ≤ 3))
            else
            some false
           else
           bif n.gKind == 6 then
            bif decide (n.gOp ≥ 1) then
            some (decide (n.gOp ≤ 18))
            else
            some false
            else
            bif n.gKind == 8 then
            bif decide (n.gOp ≥ 1) then
            some (decide (n.gOp ≤ 12))
            else
            some false
            else
            bif n.gKind == 9 then
            (R.l1Integer n.gType).bind fun (r2 : Bool) =>
            some r2
            else
            bif n.gKind == 22 then
            bif decide (n.gType ≥ 1) then
            some (decide (n.gType ≤ 10))
            else
            some false
            else
            bif n.gKind == 23 then
            bif decide (n.gType ≥ 0) then
            some (decide (n.gType ≤ 10))
            else
            some false
            else
            some true
     else
     (R.l2Named n.gKind).bind fun (r1 : Bool) =>
      bif r1 then
       (R.l1NameOk n.gText).bind fun (r2 : Bool) =>
       bif !r2 then
        some false
       else
       bif n.gKind == 1 then
         (R.l1Integer n.gType).bind fun (r3 : Bool) =>
         bif r3 then
          (R.l1Max n.gType).bind fun (r4 : Int) =>
          some (decide (IntKind.u64.wrap n.gN ≤ r4))
         else
         some false
        else
        bif n.gKind == 2 then
          some (decide ((↑n.gText.size : Int) ≤ 3000))
         else
         bif n.gKind == 3 then
           bif n.gN == 0 then
            some true
           else
           some (n.gN == 1)
          else
          bif n.gKind == 5 then
            bif decide (n.gOp ≥ 1) then
            some (decide (n.gOp ≤ 3))
            else
            some false
           else
           bif n.gKind == 6 then
            bif decide (n.gOp ≥ 1) then
            some (decide (n.gOp ≤ 18))
            else
            some false
            else
            bif n.gKind == 8 then
            bif decide (n.gOp ≥ 1) then
            some (decide (n.gOp ≤ 12))
            else
            some false
            else
            bif n.gKind == 9 then
            (R.l1Integer n.gType).bind fun (r3 : Bool) =>
            some r3
            else
            bif n.gKind == 22 then
            bif decide (n.gType ≥ 1) then
            some (decide (n.gType ≤ 10))
            else
            some false
            else
            bif n.gKind == 23 then
            bif decide (n.gType ≥ 0) then
            some (decide (n.gType ≤ 10))
            else
            some false
            else
            some true
      else
      bif n.gKind == 1 then
        (R.l1Integer n.gType).bind fun (r2 : Bool) =>
        bif r2 then
         (R.l1Max n.gType).bind fun (r3 : Int) =>
         some (decide (IntKind.u64.wrap n.gN ≤ r3))
        else
        some false
       else
       bif n.gKind == 2 then
         some (decide ((↑n.gText.size : Int) ≤ 3000))
        else
        bif n.gKind == 3 then
          bif n.gN == 0 then
           some true
          else
          some (n.gN == 1)
         else
         bif n.gKind == 5 then
           bif decide (n.gOp ≥ 1) then
            some (decide (n.gOp ≤ 3))
           else
           some false
          else
          bif n.gKind == 6 then
            bif decide (n.gOp ≥ 1) then
            some (decide (n.gOp ≤ 18))
            else
            some false
           else
           bif n.gKind == 8 then
            bif decide (n.gOp ≥ 1) then
            some (decide (n.gOp ≤ 12))
            else
            some false
            else
            bif n.gKind == 9 then
            (R.l1Integer n.gType).bind fun (r2 : Bool) =>
            some r2
            else
            bif n.gKind == 22 then
            bif decide (n.gType ≥ 1) then
            some (decide (n.gType ≤ 10))
            else
            some false
            else
            bif n.gKind == 23 then
            bif decide (n.gType ≥ 0) then
            some (decide (n.gType ≤ 10))
            else
            some false
            else
            some true
  else
  bif !r0.snd.snd.fst then
    bif n.gN != 0 then
     some false
    else
    bif !r0.snd.snd.snd then
      bif !bEq n.gText ((⟨#[]⟩ : ByteArray)) then
       some false
      else
      (R.l2Named n.gKind).bind fun (r1 : Bool) =>
       bif r1 then
        (R.l1NameOk n.gText).bind fun (r2 : Bool) =>
        bif !r2 then
         some false
        else
        bif n.gKind == 1 then
          (R.l1Integer n.gType).bind fun (r3 : Bool) =>
          bif r3 then
           (R.l1Max n.gType).bind fun (r4 : Int) =>
           some (decide (IntKind.u64.wrap n.gN ≤ r4))
          else
          some false
         else
         bif n.gKind == 2 then
           some (decide ((↑n.gText.size : Int) ≤ 3000))
          else
          bif n.gKind == 3 then
            bif n.gN == 0 then
            some true
            else
            some (n.gN == 1)
           else
           bif n.gKind == 5 then
            bif decide (n.gOp ≥ 1) then
            some (decide (n.gOp ≤ 3))
            else
            some false
            else
            bif n.gKind == 6 then
            bif decide (n.gOp ≥ 1) then
            some (decide (n.gOp ≤ 18))
            else
            some false
            else
            bif n.gKind == 8 then
            bif decide (n.gOp ≥ 1) then
            some (decide (n.gOp ≤ 12))
            else
            some false
            else
            bif n.gKind == 9 then
            (R.l1Integer n.gType).bind fun (r3 : Bool) =>
            some r3
            else
            bif n.gKind == 22 then
            bif decide (n.gType ≥ 1) then
            some (decide (n.gType ≤ 10))
            else
            some false
            else
            bif n.gKind == 23 then
            bif decide (n.gType ≥ 0) then
            some (decide (n.gType ≤ 10))
            else
            some false
            else
            some true
       else
       bif n.gKind == 1 then
         (R.l1Integer n.gType).bind fun (r2 : Bool) =>
         bif r2 then
          (R.l1Max n.gType).bind fun (r3 : Int) =>
          some (decide (IntKind.u64.wrap n.gN ≤ r3))
         else
         some false
        else
        bif n.gKind == 2 then
          some (decide ((↑n.gText.size : Int) ≤ 3000))
         else
         bif n.gKind == 3 then
           bif n.gN == 0 then
            some true
           else
           some (n.gN == 1)
          else
          bif n.gKind == 5 then
            bif decide (n.gOp ≥ 1) then
            some (decide (n.gOp ≤ 3))
            else
            some false
           else
           bif n.gKind == 6 then
            bif decide (n.gOp ≥ 1) then
            some (decide (n.gOp ≤ 18))
            else
            some false
            else
            bif n.gKind == 8 then
            bif decide (n.gOp ≥ 1) then
            some (decide (n.gOp ≤ 12))
            else
            some false
            else
            bif n.gKind == 9 then
            (R.l1Integer n.gType).bind fun (r2 : Bool) =>
            some r2
            else
            bif n.gKind == 22 then
            bif decide (n.gType ≥ 1) then
            some (decide (n.gType ≤ 10))
            else
            some false
            else
            bif n.gKind == 23 then
            bif decide (n.gType ≥ 0) then
            some (decide (n.gType ≤ 10))
            else
            some false
            else
            some true
     else
     (R.l2Named n.gKind).bind fun (r1 : Bool) =>
      bif r1 then
       (R.l1NameOk n.gText).bind fun (r2 : Bool) =>
       bif !r2 then
        some false
       else
       bif n.gKind == 1 then
         (R.l1Integer n.gType).bind fun (r3 : Bool) =>
         bif r3 then
          (R.l1Max n.gType).bind fun (r4 : Int) =>
          some (decide (IntKind.u64.wrap n.gN ≤ r4))
         else
         some false
        else
        bif n.gKind == 2 then
          some (decide ((↑n.gText.size : Int) ≤ 3000))
         else
         bif n.gKind == 3 then
           bif n.gN == 0 then
            some true
           else
           some (n.gN == 1)
          else
          bif n.gKind == 5 then
            bif decide (n.gOp ≥ 1) then
            some (decide (n.gOp ≤ 3))
            else
            some false
           else
           bif n.gKind == 6 then
            bif decide (n.gOp ≥ 1) then
            some (decide (n.gOp ≤ 18))
            else
            some false
            else
            bif n.gKind == 8 then
            bif decide (n.gOp ≥ 1) then
            some (decide (n.gOp ≤ 12))
            else
            some false
            else
            bif n.gKind == 9 then
            (R.l1Integer n.gType).bind fun (r3 : Bool) =>
            some r3
            else
            bif n.gKind == 22 then
            bif decide (n.gType ≥ 1) then
            some (decide (n.gType ≤ 10))
            else
            some false
            else
            bif n.gKind == 23 then
            bif decide (n.gType ≥ 0) then
            some (decide (n.gType ≤ 10))
            else
            some false
            else
            some true
      else
      bif n.gKind == 1 then
        (R.l1Integer n.gType).bind fun (r2 : Bool) =>
        bif r2 then
         (R.l1Max n.gType).bind fun (r3 : Int) =>
         some (decide (IntKind.u64.wrap n.gN ≤ r3))
        else
        some false
       else
       bif n.gKind == 2 then
         some (decide ((↑n.gText.size : Int) ≤ 3000))
        else
        bif n.gKind == 3 then
          bif n.gN == 0 then
           some true
          else
          some (n.gN == 1)
         else
         bif n.gKind == 5 then
           bif decide (n.gOp ≥ 1) then
            some (decide (n.gOp ≤ 3))
           else
           some false
          else
          bif n.gKind == 6 then
            bif decide (n.gOp ≥ 1) then
            some (decide (n.gOp ≤ 18))
            else
            some false
           else
           bif n.gKind == 8 then
            bif decide (n.gOp ≥ 1) then
            some (decide (n.gOp ≤ 12))
            else
            some false
            else
            bif n.gKind == 9 then
            (R.l1Integer n.gType).bind fun (r2 : Bool) =>
            some r2
            else
            bif n.gKind == 22 then
            bif decide (n.gType ≥ 1) then
            some (decide (n.gType ≤ 10))
            else
            some false
            else
            bif n.gKind == 23 then
            bif decide (n.gType ≥ 0) then
            some (decide (n.gType ≤ 10))
            else
            some false
            else
            some true
   else
   bif !r0.snd.snd.snd then
     bif !bEq n.gText ((⟨#[]⟩ : ByteArray)) then
      some false
     else
     (R.l2Named n.gKind).bind fun (r1 : Bool) =>
      bif r1 then
       (R.l1NameOk n.gText).bind fun (r2 : Bool) =>
       bif !r2 then
        some false
       else
       bif n.gKind == 1 then
         (R.l1Integer n.gType).bind fun (r3 : Bool) =>
         bif r3 then
          (R.l1Max n.gType).bind fun (r4 : Int) =>
          some (decide (IntKind.u64.wrap n.gN ≤ r4))
         else
         some false
        else
        bif n.gKind == 2 then
          some (decide ((↑n.gText.size : Int) ≤ 3000))
         else
         bif n.gKind == 3 then
           bif n.gN == 0 then
            some true
           else
           some (n.gN == 1)
          else
          bif n.gKind == 5 then
            bif decide (n.gOp ≥ 1) then
            some (decide (n.gOp ≤ 3))
            else
            some false
           else
           bif n.gKind == 6 then
            bif decide (n.gOp ≥ 1) then
            some (decide (n.gOp ≤ 18))
            else
            some false
            else
            bif n.gKind == 8 then
            bif decide (n.gOp ≥ 1) then
            some (decide (n.gOp ≤ 12))
            else
            some false
            else
            bif n.gKind == 9 then
            (R.l1Integer n.gType).bind fun (r3 : Bool) =>
            some r3
            else
            bif n.gKind == 22 then
            bif decide (n.gType ≥ 1) then
            some (decide (n.gType ≤ 10))
            else
            some false
            else
            bif n.gKind == 23 then
            bif decide (n.gType ≥ 0) then
            some (decide (n.gType ≤ 10))
            else
            some false
            else
            some true
      else
      bif n.gKind == 1 then
        (R.l1Integer n.gType).bind fun (r2 : Bool) =>
        bif r2 then
         (R.l1Max n.gType).bind fun (r3 : Int) =>
         some (decide (IntKind.u64.wrap n.gN ≤ r3))
        else
        some false
       else
       bif n.gKind == 2 then
         some (decide ((↑n.gText.size : Int) ≤ 3000))
        else
        bif n.gKind == 3 then
          bif n.gN == 0 then
           some true
          else
          some (n.gN == 1)
         else
         bif n.gKind == 5 then
           bif decide (n.gOp ≥ 1) then
            some (decide (n.gOp ≤ 3))
           else
           some false
          else
          bif n.gKind == 6 then
            bif decide (n.gOp ≥ 1) then
            some (decide (n.gOp ≤ 18))
            else
            some false
           else
           bif n.gKind == 8 then
            bif decide (n.gOp ≥ 1) then
            some (decide (n.gOp ≤ 12))
            else
            some false
            else
            bif n.gKind == 9 then
            (R.l1Integer n.gType).bind fun (r2 : Bool) =>
            some r2
            else
            bif n.gKind == 22 then
            bif decide (n.gType ≥ 1) then
            some (decide (n.gType ≤ 10))
            else
            some false
            else
            bif n.gKind == 23 then
            bif decide (n.gType ≥ 0) then
            some (decide (n.gType ≤ 10))
            else
            some false
            else
            some true
    else
    (R.l2Named n.gKind).bind fun (r1 : Bool) =>
     bif r1 then
      (R.l1NameOk n.gText).bind fun (r2 : Bool) =>
      bif !r2 then
       some false
      else
      bif n.gKind == 1 then
        (R.l1Integer n.gType).bind fun (r3 : Bool) =>
        bif r3 then
         (R.l1Max n.gType).bind fun (r4 : Int) =>
         some (decide (IntKind.u64.wrap n.gN ≤ r4))
        else
        some false
       else
       bif n.gKind == 2 then
         some (decide ((↑n.gText.size : Int) ≤ 3000))
        else
        bif n.gKind == 3 then
          bif n.gN == 0 then
           some true
          else
          some (n.gN == 1)
         else
         bif n.gKind == 5 then
           bif decide (n.gOp ≥ 1) then
            some (decide (n.gOp ≤ 3))
           else
           some false
          else
          bif n.gKind == 6 then
            bif decide (n.gOp ≥ 1) then
            some (decide (n.gOp ≤ 18))
            else
            some false
           else
           bif n.gKind == 8 then
            bif decide (n.gOp ≥ 1) then
            some (decide (n.gOp ≤ 12))
            else
            some false
            else
            bif n.gKind == 9 then
            (R.l1Integer n.gType).bind fun (r3 : Bool) =>
            some r3
            else
            bif n.gKind == 22 then
            bif decide (n.gType ≥ 1) then
            some (decide (n.gType ≤ 10))
            else
            some false
            else
            bif n.gKind == 23 then
            bif decide (n.gType ≥ 0) then
            some (decide (n.gType ≤ 10))
            else
            some false
            else
            some true
     else
     bif n.gKind == 1 then
       (R.l1Integer n.gType).bind fun (r2 : Bool) =>
       bif r2 then
        (R.l1Max n.gType).bind fun (r3 : Int) =>
        some (decide (IntKind.u64.wrap n.gN ≤ r3))
       else
       some false
      else
      bif n.gKind == 2 then
        some (decide ((↑n.gText.size : Int) ≤ 3000))
       else
       bif n.gKind == 3 then
         bif n.gN == 0 then
          some true
         else
         some (n.gN == 1)
        else
        bif n.gKind == 5 then
          bif decide (n.gOp ≥ 1) then
           some (decide (n.gOp ≤ 3))
          else
          some false
         else
         bif n.gKind == 6 then
           bif decide (n.gOp ≥ 1) then
            some (decide (n.gOp ≤ 18))
           else
           some false
          else
          bif n.gKind == 8 then
            bif decide (n.gOp ≥ 1) then
            some (decide (n.gOp ≤ 12))
            else
            some false
           else
           bif n.gKind == 9 then
            (R.l1Integer n.gType).bind fun (r2 : Bool) =>
            some r2
            else
            bif n.gKind == 22 then
            bif decide (n.gType ≥ 1) then
            some (decide (n.gType ≤ 10))
            else
            some false
            else
            bif n.gKind == 23 then
            bif decide (n.gType ≥ 0) then
            some (decide (n.gType ≤ 10))
            else
            some false
            else
            some true :=
  (fnA_eq 24 [PV.st (cells 56 n)] rfl).trans (by kernel_rfl)
theorem R.l2E_eq (kind : Int) : R.l2E kind =
  bif decide (kind ≥ 1) then
  some (decide (kind ≤ 9))
 else
 some false :=
  (fnA_eq 49 [PV.i IntKind.i64 kind] rfl).trans (by kernel_rfl)
noncomputable def R.l2AllE.l52 (kinds : List Int) (i : Int) : Option Bool := Y.runA 50 (fun ct c => at_ ct [true, false, true, false, false] c) ⟨[(0, .fl 3 kinds), (3, .i IntKind.i64 i)], [], [], []⟩
theorem R.l2AllE_eq (kinds : List Int) : R.l2AllE kinds =
  R.l2AllE.l52 kinds 0 :=
  (fnA_eq 50 [PV.fl 3 kinds] rfl).trans (by kernel_rfl)
theorem R.l2AllE.l52_eq (kinds : List Int) (i : Int) : R.l2AllE.l52 kinds i =
  bif decide (i < (↑kinds.length : Int)) then
  bif inB i kinds.length then
   (R.l2E (kinds.getD i.toNat 0)).bind fun (r0 : Bool) =>
   bif !r0 then
    some false
   else
   R.l2AllE.l52 kinds (IntKind.i64.wrap (i + 1))
  else
  none
 else
 some true :=
  (runA_eq 50 _ _).trans (by kernel_rfl)
theorem R.l2S_eq (kind : Int) : R.l2S kind =
  bif decide (kind ≥ 10) then
  some (decide (kind ≤ 20))
 else
 some false :=
  (fnA_eq 52 [PV.i IntKind.i64 kind] rfl).trans (by kernel_rfl)
noncomputable def R.l2Fits.l117 (kinds : List Int) (k : Int) (t14 : Int) (t15 : Bool) (n : TNode) : Option Bool := Y.runA 25 (fun ct c => at_ ct [true, true, false, true, false, true] c) ⟨[(1, .fl 3 kinds), (2, .ad (.loc 2) 0), (5, .i IntKind.i64 k), (14, .i IntKind.i64 t14), (15, .b t15)], [(2, cells 56 n)], [], []⟩
noncomputable def R.l2Fits.l471 (kinds : List Int) (k : Int) (t14 : Int) (t25 : Bool) (n : TNode) : Option Bool := Y.runA 25 (fun ct c => at_ ct [true, true, false, true, false, true, true, true] c) ⟨[(1, .fl 3 kinds), (2, .ad (.loc 2) 0), (5, .i IntKind.i64 k), (14, .i IntKind.i64 t14), (25, .b t25)], [(2, cells 56 n)], [], []⟩
noncomputable def R.l2Fits.l1887 (kinds : List Int) (k : Int) (t14 : Int) (t40 : Bool) (n : TNode) : Option Bool := Y.runA 25 (fun ct c => at_ ct [true, true, false, true, false, true, true, true, true, true] c) ⟨[(1, .fl 3 kinds), (2, .ad (.loc 2) 0), (5, .i IntKind.i64 k), (14, .i IntKind.i64 t14), (40, .b t40)], [(2, cells 56 n)], [], []⟩
noncomputable def R.l2Fits.l989855716 (kinds : List Int) (k : Int) (i : Int) : Option Bool := Y.runA 25 (fun ct c => at_ ct [true, true, false, true, false, true, true, true, true, true, true, true, true, true, true, true, true, true, true, true, true, true, true, true, false, false, true, false, false] c) ⟨[(1, .fl 3 kinds), (5, .i IntKind.i64 k), (8, .i IntKind.i64 i)], [], [], []⟩
noncomputable def R.l2Fits.l3959422948 (kinds : List Int) (k : Int) (i : Int) : Option Bool := Y.runA 25 (fun ct c => at_ ct [true, true, false, true, false, true, true, true, true, true, true, true, true, true, true, true, true, true, true, true, true, true, true, true, true, true, false, false, true, false, false] c) ⟨[(1, .fl 3 kinds), (5, .i IntKind.i64 k), (9, .i IntKind.i64 i)], [], [], []⟩
noncomputable def R.l2Fits.l15837691876 (kinds : List Int) (k : Int) (i : Int) : Option Bool := Y.runA 25 (fun ct c => at_ ct [true, true, false, true, false, true, true, true, true, true, true, true, true, true, true, true, true, true, true, true, true, true, true, true, true, true, true, true, false, false, true, false, false] c) ⟨[(1, .fl 3 kinds), (5, .i IntKind.i64 k), (10, .i IntKind.i64 i)], [], [], []⟩
theorem R.l2Fits_eq (n : TNode) (kinds : List Int) : R.l2Fits n kinds =
  bif n.gKind == 1 then
  R.l2Fits.l117 kinds (↑kinds.length : Int) n.gKind (n.gKind == 1) n
 else
 bif n.gKind == 2 then
   R.l2Fits.l117 kinds (↑kinds.length : Int) n.gKind (n.gKind == 2) n
  else
  bif n.gKind == 3 then
    R.l2Fits.l117 kinds (↑kinds.length : Int) n.gKind (n.gKind == 3) n
   else
   bif n.gKind == 4 then
     R.l2Fits.l117 kinds (↑kinds.length : Int) n.gKind (n.gKind == 4) n
    else
    bif n.gKind == 14 then
      R.l2Fits.l117 kinds (↑kinds.length : Int) n.gKind (n.gKind == 14) n
     else
     bif n.gKind == 15 then
       R.l2Fits.l117 kinds (↑kinds.length : Int) n.gKind (n.gKind == 15) n
      else
      R.l2Fits.l117 kinds (↑kinds.length : Int) n.gKind (n.gKind == 22) n :=
  (fnA_eq 25 [PV.st (cells 56 n), PV.fl 3 kinds] rfl).trans (by kernel_rfl)
theorem R.l2Fits.l117_eq (kinds : List Int) (k : Int) (t14 : Int) (t15 : Bool) (n : TNode) : R.l2Fits.l117 kinds k t14 t15 n =
  bif t15 then
  some (k == 0)
 else
 bif t14 == 5 then
   R.l2Fits.l471 kinds k t14 (t14 == 5) n
  else
  bif t14 == 9 then
    R.l2Fits.l471 kinds k t14 (t14 == 9) n
   else
   bif t14 == 10 then
     R.l2Fits.l471 kinds k t14 (t14 == 10) n
    else
    bif t14 == 11 then
      R.l2Fits.l471 kinds k t14 (t14 == 11) n
     else
     bif t14 == 17 then
       R.l2Fits.l471 kinds k t14 (t14 == 17) n
      else
      R.l2Fits.l471 kinds k t14 (t14 == 19) n :=
  (runA_eq 25 _ _).trans (by kernel_rfl)
theorem R.l2Fits.l471_eq (kinds : List Int) (k : Int) (t14 : Int) (t25 : Bool) (n : TNode) : R.l2Fits.l471 kinds k t14 t25 n =
  bif t25 then
  bif k == 1 then
   bif inB 0 kinds.length then
    (R.l2E (kinds.getD 0 0)).bind fun (r0 : Bool) =>
    some r0
   else
   none
  else
  some false
 else
 bif t14 == 6 then
   R.l2Fits.l1887 kinds k t14 (t14 == 6) n
  else
  R.l2Fits.l1887 kinds k t14 (t14 == 18) n :=
  (runA_eq 25 _ _).trans (by kernel_rfl)
theorem R.l2Fits.l1887_eq (kinds : List Int) (k : Int) (t14 : Int) (t40 : Bool) (n : TNode) : R.l2Fits.l1887 kinds k t14 t40 n =
  bif t40 then
  bif k == 2 then
   (R.l2AllE kinds).bind fun (r0 : Bool) =>
   some r0
  else
  some false
 else
 bif t14 == 7 then
   bif decide (k ≤ 8) then
    (R.l2AllE kinds).bind fun (r0 : Bool) =>
    some r0
   else
   some false
  else
  bif t14 == 8 then
    (R.l1BuiltWord n.gOp).bind fun (r0 : (ByteArray × Int)) =>
    bif k == r0.snd then
     (R.l2AllE kinds).bind fun (r1 : Bool) =>
     some r1
    else
    some false
   else
   bif t14 == 12 then
     bif decide (k ≥ 2) then
      bif decide (k ≤ 3) then
       bif inB 0 kinds.length then
        (R.l2E (kinds.getD 0 0)).bind fun (r0 : Bool) =>
        bif r0 then
         bif inB 1 kinds.length then
          bif kinds.getD 1 0 == 21 then
           bif k == 2 then
            some true
           else
           bif inB 2 kinds.length then
            bif kinds.getD 2 0 == 21 then
            some true
            else
            bif inB 2 kinds.length then
            some (kinds.getD 2 0 == 12)
            else
            none
            else
            none
          else
          some false
         else
         none
        else
        some false
       else
       none
      else
      some false
     else
     some false
    else
    bif t14 == 13 then
      bif k == 2 then
       bif inB 0 kinds.length then
        (R.l2E (kinds.getD 0 0)).bind fun (r0 : Bool) =>
        bif r0 then
         bif inB 1 kinds.length then
          some (kinds.getD 1 0 == 21)
         else
         none
        else
        some false
       else
       none
      else
      some false
     else
     bif t14 == 16 then
       bif decide (k ≤ 1) then
        (R.l2AllE kinds).bind fun (r0 : Bool) =>
        some r0
       else
       some false
      else
      bif t14 == 20 then
        bif k == 1 then
         bif inB 0 kinds.length then
          some (kinds.getD 0 0 == 7)
         else
         none
        else
        some false
       else
       bif t14 == 21 then
         R.l2Fits.l989855716 kinds k 0
        else
        bif t14 == 23 then
          R.l2Fits.l3959422948 kinds k 0
         else
         bif t14 == 24 then
           R.l2Fits.l15837691876 kinds k 0
          else
          some false :=
  (runA_eq 25 _ _).trans (by kernel_rfl)
theorem R.l2Fits.l989855716_eq (kinds : List Int) (k : Int) (i : Int) : R.l2Fits.l989855716 kinds k i =
  bif decide (i < k) then
  bif inB i kinds.length then
   (R.l2S (kinds.getD i.toNat 0)).bind fun (r0 : Bool) =>
   bif !r0 then
    some false
   else
   R.l2Fits.l989855716 kinds k (IntKind.i64.wrap (i + 1))
  else
  none
 else
 some true :=
  (runA_eq 25 _ _).trans (by kernel_rfl)
theorem R.l2Fits.l3959422948_eq (kinds : List Int) (k : Int) (i : Int) : R.l2Fits.l3959422948 kinds k i =
  bif decide (IntKind.i64.wrap (i + 1) < k) then
  bif inB i kinds.length then
   bif kinds.getD i.toNat 0 != 22 then
    some false
   else
   R.l2Fits.l3959422948 kinds k (IntKind.i64.wrap (i + 1))
  else
  none
 else
 bif decide (k ≥ 1) then
   bif decide (IntKind.i64.wrap (k - 1) ≤ 8) then
    bif inB (IntKind.i64.wrap (k - 1)) kinds.length then
     some (kinds.getD (IntKind.i64.wrap (k - 1)).toNat 0 == 21)
    else
    none
   else
   some false
  else
  some false :=
  (runA_eq 25 _ _).trans (by kernel_rfl)
theorem R.l2Fits.l15837691876_eq (kinds : List Int) (k : Int) (i : Int) : R.l2Fits.l15837691876 kinds k i =
  bif decide (i < k) then
  bif inB i kinds.length then
   bif kinds.getD i.toNat 0 != 23 then
    some false
   else
   R.l2Fits.l15837691876 kinds k (IntKind.i64.wrap (i + 1))
  else
  none
 else
 bif decide (k ≥ 1) then
   some (decide (k ≤ 60))
  else
  some false :=
  (runA_eq 25 _ _).trans (by kernel_rfl)
noncomputable def R.ValidTree.l500 (kids : List (List Int)) (high : List Int) (i : Int) (t : TTree) : Option Bool := Y.runA 8 (fun ct c => at_ ct [true, true, true, true, false, true, false, false] c) ⟨[(1, .ad (.loc 1) 0), (3, .fl 54 kids), (5, .ol 3 high), (6, .i IntKind.i64 i)], [(1, cells 29 t)], [], []⟩
noncomputable def R.ValidTree.l256308 (kids : List (List Int)) (high : List Int) (i : Int) (kinds : List Int) (h0 : Int) (k : Int) (t : TTree) : Option Bool := Y.runA 8 (fun ct c => at_ ct [true, true, true, true, false, true, false, false, true, false, false, true, true, false, true, false, false] c) ⟨[(1, .ad (.loc 1) 0), (3, .fl 54 kids), (5, .ol 3 high), (6, .i IntKind.i64 i), (7, .ol 3 kinds), (8, .i IntKind.i64 h0), (9, .i IntKind.i64 k)], [(1, cells 29 t)], [], []⟩
theorem R.ValidTree_eq (t : TTree) : R.ValidTree t =
  (R.l2Kids t).bind fun (r0 : (List (List Int) × Bool)) =>
 bif !r0.snd then
  some false
 else
 R.ValidTree.l500 r0.fst ([]) 0 t :=
  (fnA_eq 8 [PV.st (cells 29 t)] rfl).trans (by kernel_rfl)
theorem R.ValidTree.l500_eq (kids : List (List Int)) (high : List Int) (i : Int) (t : TTree) : R.ValidTree.l500 kids high i t =
  bif decide (i < (↑(List.length kids) : Int)) then
  R.ValidTree.l256308 kids high i ([]) 0 0 t
 else
 bif inB (IntKind.i64.wrap ((↑t.gNodes.length : Int) - 1)) t.gNodes.length then
   some ((t.gNodes.getD (IntKind.i64.wrap ((↑t.gNodes.length : Int) - 1)).toNat TNode.z).gKind == 24)
  else
  none :=
  (runA_eq 8 _ _).trans (by kernel_rfl)
theorem R.ValidTree.l256308_eq (kids : List (List Int)) (high : List Int) (i : Int) (kinds : List Int) (h0 : Int) (k : Int) (t : TTree) : R.ValidTree.l256308 kids high i kinds h0 k t =
  bif inB i (List.length kids) then
  bif decide (k < (↑(List.length (List.getD kids i.toNat [])) : Int)) then
   bif inB i (List.length kids) then
    bif inB k (List.length (List.getD kids i.toNat [])) then
     bif inB (List.getD (List.getD kids i.toNat []) k.toNat 0) t.gNodes.length then
      bif room (kinds.length + [(t.gNodes.getD (Int.toNat (List.getD (List.getD kids i.toNat []) k.toNat 0)) TNode.z).gKind].length) 8 then
       bif inB i (List.length kids) then
        bif inB k (List.length (List.getD kids i.toNat [])) then
         bif inB (List.getD (List.getD kids i.toNat []) k.toNat 0) high.length then
          bif decide (IntKind.i64.wrap (high.getD (Int.toNat (List.getD (List.getD kids i.toNat []) k.toNat 0)) 0 + 1) > h0) then
           bif inB i (List.length kids) then
            bif inB k (List.length (List.getD kids i.toNat [])) then
            bif inB (List.getD (List.getD kids i.toNat []) k.toNat 0) high.length then
            R.ValidTree.l256308 kids high i (kinds ++ [(t.gNodes.getD (Int.toNat (List.getD (List.getD kids i.toNat []) k.toNat 0)) TNode.z).gKind]) (IntKind.i64.wrap (high.getD (Int.toNat (List.getD (List.getD kids i.toNat []) k.toNat 0)) 0 + 1)) (IntKind.i64.wrap (k + 1)) t
            else
            none
            else
            none
           else
           none
          else
          R.ValidTree.l256308 kids high i (kinds ++ [(t.gNodes.getD (Int.toNat (List.getD (List.getD kids i.toNat []) k.toNat 0)) TNode.z).gKind]) h0 (IntKind.i64.wrap (k + 1)) t
         else
         none
        else
        none
       else
       none
      else
      none
     else
     none
    else
    none
   else
   none
  else
  bif room (high.length + [h0].length) 8 then
    bif decide (h0 > 60) then
     some false
    else
    bif inB i t.gNodes.length then
      (R.l2Fields (t.gNodes.getD i.toNat TNode.z)).bind fun (r0 : Bool) =>
      bif !r0 then
       some false
      else
      bif inB i t.gNodes.length then
        (R.l2Fits (t.gNodes.getD i.toNat TNode.z) kinds).bind fun (r1 : Bool) =>
        bif !r1 then
         some false
        else
        R.ValidTree.l500 kids (high ++ [h0]) (IntKind.i64.wrap (i + 1)) t
       else
       none
     else
     none
   else
   none
 else
 none :=
  (runA_eq 8 _ _).trans (by kernel_rfl)
noncomputable def I.grow.l244 (stack : List (Option TNode_)) (t18 : List TNode) (t19 : Int) (t20 : Int) : Option (Option TNode_) := Y.runA 54 (fun ct c => at_ ct [true, true, true, false, true, false, false] c) ⟨[(3, .ol 60 stack), (18, .fl 56 t18), (19, .i IntKind.i64 t19), (20, .i IntKind.i64 t20)], [], [], []⟩
theorem I.grow_eq (t : TTree) : I.grow t =
  bif decide ((↑t.gNodes.length : Int) < 1) then
  some none
 else
 bif decide ((↑t.gNodes.length : Int) > 12001) then
   some none
  else
  I.grow.l244 ([]) t.gNodes (↑t.gNodes.length : Int) 0 :=
  (fnA_eq 54 [PV.st (cells 29 t)] rfl).trans (by kernel_rfl)
theorem I.grow.l244_eq (stack : List (Option TNode_)) (t18 : List TNode) (t19 : Int) (t20 : Int) : I.grow.l244 stack t18 t19 t20 =
  bif decide (t20 < t19) then
  bif inB t20 t18.length then
   bif decide ((t18.getD t20.toNat TNode.z).gKids < 0) then
    some none
   else
   bif decide ((t18.getD t20.toNat TNode.z).gKids > (↑stack.length : Int)) then
     some none
    else
    bif inS (IntKind.i64.wrap ((↑stack.length : Int) - (t18.getD t20.toNat TNode.z).gKids)) (↑stack.length : Int) stack.length then
      bif room (sub stack (IntKind.i64.wrap ((↑stack.length : Int) - (t18.getD t20.toNat TNode.z).gKids)) (↑stack.length : Int)).length 8 then
       bif inS 0 (IntKind.i64.wrap ((↑stack.length : Int) - (t18.getD t20.toNat TNode.z).gKids)) stack.length then
        bif room ((List.take (IntKind.i64.wrap ((↑stack.length : Int) - (t18.getD t20.toNat TNode.z).gKids)).toNat stack).length + [some (TNode_.mk (TNode.mk (t18.getD t20.toNat TNode.z).gKind (t18.getD t20.toNat TNode.z).gOp (t18.getD t20.toNat TNode.z).gType (t18.getD t20.toNat TNode.z).gN (t18.getD t20.toNat TNode.z).gText (t18.getD t20.toNat TNode.z).gKids) (sub stack (IntKind.i64.wrap ((↑stack.length : Int) - (t18.getD t20.toNat TNode.z).gKids)) (↑stack.length : Int)) t20)].length) 8 then
         I.grow.l244 (List.take (IntKind.i64.wrap ((↑stack.length : Int) - (t18.getD t20.toNat TNode.z).gKids)).toNat stack ++ [some (TNode_.mk (TNode.mk (t18.getD t20.toNat TNode.z).gKind (t18.getD t20.toNat TNode.z).gOp (t18.getD t20.toNat TNode.z).gType (t18.getD t20.toNat TNode.z).gN (t18.getD t20.toNat TNode.z).gText (t18.getD t20.toNat TNode.z).gKids) (sub stack (IntKind.i64.wrap ((↑stack.length : Int) - (t18.getD t20.toNat TNode.z).gKids)) (↑stack.length : Int)) t20)]) t18 t19 (IntKind.i64.wrap (t20 + 1))
        else
        none
       else
       none
      else
      none
     else
     none
  else
  none
 else
 bif (↑stack.length : Int) != 1 then
   some none
  else
  bif inB 0 stack.length then
    some (stack.getD 0 none)
   else
   none :=
  (runA_eq 54 _ _).trans (by kernel_rfl)
noncomputable def I.node_kinds_c125.l52 (t14 : List (Option TNode_)) (t15 : Int) (t16 : Int) : Option Bool := Y.runA 124 (fun ct c => at_ ct [true, false, true, false, false] c) ⟨[(2, .clo 125 []), (14, .fl 60 t14), (15, .i IntKind.i64 t15), (16, .i IntKind.i64 t16)], [], [], []⟩
theorem I.node_kinds_c125_eq (n : Option TNode_) (from_ : Int) : I.node_kinds_c125 n from_ =
  bif n.isSome then
  bif inS from_ (↑(n.getD TNode_.z).gkids.length : Int) (n.getD TNode_.z).gkids.length then
   I.node_kinds_c125.l52 (sub (n.getD TNode_.z).gkids from_ (↑(n.getD TNode_.z).gkids.length : Int)) (↑(sub (n.getD TNode_.z).gkids from_ (↑(n.getD TNode_.z).gkids.length : Int)).length : Int) 0
  else
  none
 else
 none :=
  (fnA_eq 124 [PV.fp 101 n, PV.i IntKind.i64 from_, PV.clo 125 []] rfl).trans (by kernel_rfl)
theorem I.node_kinds_c125.l52_eq (t14 : List (Option TNode_)) (t15 : Int) (t16 : Int) : I.node_kinds_c125.l52 t14 t15 t16 =
  bif decide (t16 < t15) then
  bif inB t16 t14.length then
   bif Option.isSome (t14.getD t16.toNat none) then
    (I.isE ((Option.getD (t14.getD t16.toNat none) TNode_.z).gNode.gKind)).bind fun (r0 : Bool) =>
    bif !r0 then
     some false
    else
    I.node_kinds_c125.l52 t14 t15 (IntKind.i64.wrap (t16 + 1))
   else
   none
  else
  none
 else
 some true :=
  (runA_eq 124 _ _).trans (by kernel_rfl)
noncomputable def I.node_kinds_c127.l52 (t14 : List (Option TNode_)) (t15 : Int) (t16 : Int) : Option Bool := Y.runA 124 (fun ct c => at_ ct [true, false, true, false, false] c) ⟨[(2, .clo 127 []), (14, .fl 60 t14), (15, .i IntKind.i64 t15), (16, .i IntKind.i64 t16)], [], [], []⟩
theorem I.node_kinds_c127_eq (n : Option TNode_) (from_ : Int) : I.node_kinds_c127 n from_ =
  bif n.isSome then
  bif inS from_ (↑(n.getD TNode_.z).gkids.length : Int) (n.getD TNode_.z).gkids.length then
   I.node_kinds_c127.l52 (sub (n.getD TNode_.z).gkids from_ (↑(n.getD TNode_.z).gkids.length : Int)) (↑(sub (n.getD TNode_.z).gkids from_ (↑(n.getD TNode_.z).gkids.length : Int)).length : Int) 0
  else
  none
 else
 none :=
  (fnA_eq 124 [PV.fp 101 n, PV.i IntKind.i64 from_, PV.clo 127 []] rfl).trans (by kernel_rfl)
theorem I.node_kinds_c127.l52_eq (t14 : List (Option TNode_)) (t15 : Int) (t16 : Int) : I.node_kinds_c127.l52 t14 t15 t16 =
  bif decide (t16 < t15) then
  bif inB t16 t14.length then
   bif Option.isSome (t14.getD t16.toNat none) then
    (I.isS ((Option.getD (t14.getD t16.toNat none) TNode_.z).gNode.gKind)).bind fun (r0 : Bool) =>
    bif !r0 then
     some false
    else
    I.node_kinds_c127.l52 t14 t15 (IntKind.i64.wrap (t16 + 1))
   else
   none
  else
  none
 else
 some true :=
  (runA_eq 124 _ _).trans (by kernel_rfl)
noncomputable def I.node_kinds_c128.l52 (t14 : List (Option TNode_)) (t15 : Int) (t16 : Int) : Option Bool := Y.runA 124 (fun ct c => at_ ct [true, false, true, false, false] c) ⟨[(2, .clo 128 []), (14, .fl 60 t14), (15, .i IntKind.i64 t15), (16, .i IntKind.i64 t16)], [], [], []⟩
theorem I.node_kinds_c128_eq (n : Option TNode_) (from_ : Int) : I.node_kinds_c128 n from_ =
  bif n.isSome then
  bif inS from_ (↑(n.getD TNode_.z).gkids.length : Int) (n.getD TNode_.z).gkids.length then
   I.node_kinds_c128.l52 (sub (n.getD TNode_.z).gkids from_ (↑(n.getD TNode_.z).gkids.length : Int)) (↑(sub (n.getD TNode_.z).gkids from_ (↑(n.getD TNode_.z).gkids.length : Int)).length : Int) 0
  else
  none
 else
 none :=
  (fnA_eq 124 [PV.fp 101 n, PV.i IntKind.i64 from_, PV.clo 128 []] rfl).trans (by kernel_rfl)
theorem I.node_kinds_c128.l52_eq (t14 : List (Option TNode_)) (t15 : Int) (t16 : Int) : I.node_kinds_c128.l52 t14 t15 t16 =
  bif decide (t16 < t15) then
  bif inB t16 t14.length then
   bif Option.isSome (t14.getD t16.toNat none) then
    (I.node_kidsOk_1 ((Option.getD (t14.getD t16.toNat none) TNode_.z).gNode.gKind)).bind fun (r0 : Bool) =>
    bif !r0 then
     some false
    else
    I.node_kinds_c128.l52 t14 t15 (IntKind.i64.wrap (t16 + 1))
   else
   none
  else
  none
 else
 some true :=
  (runA_eq 124 _ _).trans (by kernel_rfl)
theorem I.isE_eq (k : Int) : I.isE k =
  bif decide (k ≥ 1) then
  some (decide (k ≤ 9))
 else
 some false :=
  (fnA_eq 125 [PV.i IntKind.i64 k] rfl).trans (by kernel_rfl)
theorem I.isBlock_eq (k : Int) : I.isBlock k =
  some (k == 21) :=
  (fnA_eq 126 [PV.i IntKind.i64 k] rfl).trans (by kernel_rfl)
theorem I.isS_eq (k : Int) : I.isS k =
  bif decide (k ≥ 10) then
  some (decide (k ≤ 20))
 else
 some false :=
  (fnA_eq 127 [PV.i IntKind.i64 k] rfl).trans (by kernel_rfl)
theorem I.node_kidsOk_1_eq (k : Int) : I.node_kidsOk_1 k =
  some (k == 23) :=
  (fnA_eq 128 [PV.i IntKind.i64 k] rfl).trans (by kernel_rfl)
noncomputable def I.node_kidsOk.l117 (n : Option TNode_) (c : Int) (t15 : Int) (t16 : Bool) : Option Bool := Y.runA 91 (fun ct c => at_ ct [true, true, false, true, false, true] c) ⟨[(0, .fp 101 n), (3, .i IntKind.i64 c), (15, .i IntKind.i64 t15), (16, .b t16)], [], [], []⟩
noncomputable def I.node_kidsOk.l471 (n : Option TNode_) (c : Int) (t15 : Int) (t26 : Bool) : Option Bool := Y.runA 91 (fun ct c => at_ ct [true, true, false, true, false, true, true, true] c) ⟨[(0, .fp 101 n), (3, .i IntKind.i64 c), (15, .i IntKind.i64 t15), (26, .b t26)], [], [], []⟩
noncomputable def I.node_kidsOk.l1887 (n : Option TNode_) (c : Int) (t15 : Int) (t39 : Bool) : Option Bool := Y.runA 91 (fun ct c => at_ ct [true, true, false, true, false, true, true, true, true, true] c) ⟨[(0, .fp 101 n), (3, .i IntKind.i64 c), (15, .i IntKind.i64 t15), (39, .b t39)], [], [], []⟩
noncomputable def I.node_kidsOk.l7918845908 (t253 : List (Option TNode_)) (t254 : Int) (t255 : Int) : Option Bool := Y.runA 91 (fun ct c => at_ ct [true, true, false, true, false, true, true, true, true, true, true, true, true, true, true, true, true, true, true, true, true, true, true, true, true, true, false, true, false, true, false, false] c) ⟨[(253, .fl 60 t253), (254, .i IntKind.i64 t254), (255, .i IntKind.i64 t255)], [], [], []⟩
theorem I.node_kidsOk_eq (n : Option TNode_) : I.node_kidsOk n =
  bif n.isSome then
  bif n.isSome then
   bif (n.getD TNode_.z).gNode.gKind == 1 then
    I.node_kidsOk.l117 n (↑(n.getD TNode_.z).gkids.length : Int) ((n.getD TNode_.z).gNode.gKind) ((n.getD TNode_.z).gNode.gKind == 1)
   else
   bif (n.getD TNode_.z).gNode.gKind == 2 then
     I.node_kidsOk.l117 n (↑(n.getD TNode_.z).gkids.length : Int) ((n.getD TNode_.z).gNode.gKind) ((n.getD TNode_.z).gNode.gKind == 2)
    else
    bif (n.getD TNode_.z).gNode.gKind == 3 then
      I.node_kidsOk.l117 n (↑(n.getD TNode_.z).gkids.length : Int) ((n.getD TNode_.z).gNode.gKind) ((n.getD TNode_.z).gNode.gKind == 3)
     else
     bif (n.getD TNode_.z).gNode.gKind == 4 then
       I.node_kidsOk.l117 n (↑(n.getD TNode_.z).gkids.length : Int) ((n.getD TNode_.z).gNode.gKind) ((n.getD TNode_.z).gNode.gKind == 4)
      else
      bif (n.getD TNode_.z).gNode.gKind == 14 then
        I.node_kidsOk.l117 n (↑(n.getD TNode_.z).gkids.length : Int) ((n.getD TNode_.z).gNode.gKind) ((n.getD TNode_.z).gNode.gKind == 14)
       else
       bif (n.getD TNode_.z).gNode.gKind == 15 then
         I.node_kidsOk.l117 n (↑(n.getD TNode_.z).gkids.length : Int) ((n.getD TNode_.z).gNode.gKind) ((n.getD TNode_.z).gNode.gKind == 15)
        else
        I.node_kidsOk.l117 n (↑(n.getD TNode_.z).gkids.length : Int) ((n.getD TNode_.z).gNode.gKind) ((n.getD TNode_.z).gNode.gKind == 22)
  else
  none
 else
 none :=
  (fnA_eq 91 [PV.fp 101 n] rfl).trans (by kernel_rfl)
theorem I.node_kidsOk.l117_eq (n : Option TNode_) (c : Int) (t15 : Int) (t16 : Bool) : I.node_kidsOk.l117 n c t15 t16 =
  bif t16 then
  some (c == 0)
 else
 bif t15 == 5 then
   I.node_kidsOk.l471 n c t15 (t15 == 5)
  else
  bif t15 == 9 then
    I.node_kidsOk.l471 n c t15 (t15 == 9)
   else
   bif t15 == 10 then
     I.node_kidsOk.l471 n c t15 (t15 == 10)
    else
    bif t15 == 11 then
      I.node_kidsOk.l471 n c t15 (t15 == 11)
     else
     bif t15 == 17 then
       I.node_kidsOk.l471 n c t15 (t15 == 17)
      else
      I.node_kidsOk.l471 n c t15 (t15 == 19) :=
  (runA_eq 91 _ _).trans (by kernel_rfl)
theorem I.node_kidsOk.l471_eq (n : Option TNode_) (c : Int) (t15 : Int) (t26 : Bool) : I.node_kidsOk.l471 n c t15 t26 =
  bif t26 then
  bif c == 1 then
   (I.node_kinds_c125 n 0).bind fun (r0 : Bool) =>
   some r0
  else
  some false
 else
 bif t15 == 6 then
   I.node_kidsOk.l1887 n c t15 (t15 == 6)
  else
  I.node_kidsOk.l1887 n c t15 (t15 == 18) :=
  (runA_eq 91 _ _).trans (by kernel_rfl)
theorem I.node_kidsOk.l1887_eq (n : Option TNode_) (c : Int) (t15 : Int) (t39 : Bool) : I.node_kidsOk.l1887 n c t15 t39 =
  bif t39 then
  bif c == 2 then
   (I.node_kinds_c125 n 0).bind fun (r0 : Bool) =>
   some r0
  else
  some false
 else
 bif t15 == 7 then
   bif decide (c ≤ 8) then
    (I.node_kinds_c125 n 0).bind fun (r0 : Bool) =>
    some r0
   else
   some false
  else
  bif t15 == 8 then
    bif n.isSome then
     bif decide ((n.getD TNode_.z).gNode.gOp ≥ 1) then
      bif n.isSome then
       bif decide ((n.getD TNode_.z).gNode.gOp ≤ 12) then
        bif n.isSome then
         bif inB (n.getD TNode_.z).gNode.gOp [0, 1, 1, 1, 2, 0, 1, 2, 3, 2, 1, 1, 1].length then
          bif c == [0, 1, 1, 1, 2, 0, 1, 2, 3, 2, 1, 1, 1].getD (n.getD TNode_.z).gNode.gOp.toNat 0 then
           (I.node_kinds_c125 n 0).bind fun (r0 : Bool) =>
           some r0
          else
          some false
         else
         none
        else
        none
       else
       some false
      else
      none
     else
     some false
    else
    none
   else
   bif t15 == 12 then
     bif c == 3 then
      bif n.isSome then
       bif inB 2 (n.getD TNode_.z).gkids.length then
        bif Option.isSome ((n.getD TNode_.z).gkids.getD 2 none) then
         (I.isBlock ((Option.getD ((n.getD TNode_.z).gkids.getD 2 none) TNode_.z).gNode.gKind)).bind fun (r0 : Bool) =>
         bif r0 then
          bif c == 2 then
           bif n.isSome then
            bif inB 0 (n.getD TNode_.z).gkids.length then
            bif Option.isSome ((n.getD TNode_.z).gkids.getD 0 none) then
            (I.isE ((Option.getD ((n.getD TNode_.z).gkids.getD 0 none) TNode_.z).gNode.gKind)).bind fun (r1 : Bool) =>
            bif r1 then
            bif n.isSome then
            bif inB 1 (n.getD TNode_.z).gkids.length then
            bif Option.isSome ((n.getD TNode_.z).gkids.getD 1 none) then
            (I.isBlock ((Option.getD ((n.getD TNode_.z).gkids.getD 1 none) TNode_.z).gNode.gKind)).bind fun (r2 : Bool) =>
            some r2
            else
            none
            else
            none
            else
            none
            else
            some false
            else
            none
            else
            none
           else
           none
          else
          bif c == 3 then
            bif n.isSome then
            bif inB 0 (n.getD TNode_.z).gkids.length then
            bif Option.isSome ((n.getD TNode_.z).gkids.getD 0 none) then
            (I.isE ((Option.getD ((n.getD TNode_.z).gkids.getD 0 none) TNode_.z).gNode.gKind)).bind fun (r1 : Bool) =>
            bif r1 then
            bif n.isSome then
            bif inB 1 (n.getD TNode_.z).gkids.length then
            bif Option.isSome ((n.getD TNode_.z).gkids.getD 1 none) then
            (I.isBlock ((Option.getD ((n.getD TNode_.z).gkids.getD 1 none) TNode_.z).gNode.gKind)).bind fun (r2 : Bool) =>
            some r2
            else
            none
            else
            none
            else
            none
            else
            some false
            else
            none
            else
            none
            else
            none
           else
           some false
         else
         bif n.isSome then
           bif inB 2 (n.getD TNode_.z).gkids.length then
            bif Option.isSome ((n.getD TNode_.z).gkids.getD 2 none) then
            bif !(Option.getD ((n.getD TNode_.z).gkids.getD 2 none) TNode_.z).gNode.gKind == 12 then
            some false
            else
            bif c == 2 then
            bif n.isSome then
            bif inB 0 (n.getD TNode_.z).gkids.length then
            bif Option.isSome ((n.getD TNode_.z).gkids.getD 0 none) then
            (I.isE ((Option.getD ((n.getD TNode_.z).gkids.getD 0 none) TNode_.z).gNode.gKind)).bind fun (r1 : Bool) =>
            bif r1 then
            bif n.isSome then
            bif inB 1 (n.getD TNode_.z).gkids.length then
            bif Option.isSome ((n.getD TNode_.z).gkids.getD 1 none) then
            (I.isBlock ((Option.getD ((n.getD TNode_.z).gkids.getD 1 none) TNode_.z).gNode.gKind)).bind fun (r2 : Bool) =>
            some r2
            else
            none
            else
            none
            else
            none
            else
            some false
            else
            none
            else
            none
            else
            none
            else
            bif c == 3 then
            bif n.isSome then
            bif inB 0 (n.getD TNode_.z).gkids.length then
            bif Option.isSome ((n.getD TNode_.z).gkids.getD 0 none) then
            (I.isE ((Option.getD ((n.getD TNode_.z).gkids.getD 0 none) TNode_.z).gNode.gKind)).bind fun (r1 : Bool) =>
            bif r1 then
            bif n.isSome then
            bif inB 1 (n.getD TNode_.z).gkids.length then
            bif Option.isSome ((n.getD TNode_.z).gkids.getD 1 none) then
            (I.isBlock ((Option.getD ((n.getD TNode_.z).gkids.getD 1 none) TNode_.z).gNode.gKind)).bind fun (r2 : Bool) =>
            some r2
            else
            none
            else
            none
            else
            none
            else
            some false
            else
            none
            else
            none
            else
            none
            else
            some false
            else
            none
           else
           none
          else
          none
        else
        none
       else
       none
      else
      none
     else
     bif c == 2 then
       bif n.isSome then
        bif inB 0 (n.getD TNode_.z).gkids.length then
         bif Option.isSome ((n.getD TNode_.z).gkids.getD 0 none) then
          (I.isE ((Option.getD ((n.getD TNode_.z).gkids.getD 0 none) TNode_.z).gNode.gKind)).bind fun (r0 : Bool) =>
          bif r0 then
           bif n.isSome then
            bif inB 1 (n.getD TNode_.z).gkids.length then
            bif Option.isSome ((n.getD TNode_.z).gkids.getD 1 none) then
            (I.isBlock ((Option.getD ((n.getD TNode_.z).gkids.getD 1 none) TNode_.z).gNode.gKind)).bind fun (r1 : Bool) =>
            some r1
            else
            none
            else
            none
           else
           none
          else
          some false
         else
         none
        else
        none
       else
       none
      else
      bif c == 3 then
        bif n.isSome then
         bif inB 0 (n.getD TNode_.z).gkids.length then
          bif Option.isSome ((n.getD TNode_.z).gkids.getD 0 none) then
           (I.isE ((Option.getD ((n.getD TNode_.z).gkids.getD 0 none) TNode_.z).gNode.gKind)).bind fun (r0 : Bool) =>
           bif r0 then
            bif n.isSome then
            bif inB 1 (n.getD TNode_.z).gkids.length then
            bif Option.isSome ((n.getD TNode_.z).gkids.getD 1 none) then
            (I.isBlock ((Option.getD ((n.getD TNode_.z).gkids.getD 1 none) TNode_.z).gNode.gKind)).bind fun (r1 : Bool) =>
            some r1
            else
            none
            else
            none
            else
            none
           else
           some false
          else
          none
         else
         none
        else
        none
       else
       some false
    else
    bif t15 == 13 then
      bif c == 2 then
       bif n.isSome then
        bif inB 0 (n.getD TNode_.z).gkids.length then
         bif Option.isSome ((n.getD TNode_.z).gkids.getD 0 none) then
          (I.isE ((Option.getD ((n.getD TNode_.z).gkids.getD 0 none) TNode_.z).gNode.gKind)).bind fun (r0 : Bool) =>
          bif r0 then
           bif n.isSome then
            bif inB 1 (n.getD TNode_.z).gkids.length then
            bif Option.isSome ((n.getD TNode_.z).gkids.getD 1 none) then
            (I.isBlock ((Option.getD ((n.getD TNode_.z).gkids.getD 1 none) TNode_.z).gNode.gKind)).bind fun (r1 : Bool) =>
            some r1
            else
            none
            else
            none
           else
           none
          else
          some false
         else
         none
        else
        none
       else
       none
      else
      some false
     else
     bif t15 == 16 then
       bif c == 0 then
        some true
       else
       bif c == 1 then
         bif n.isSome then
          bif inB 0 (n.getD TNode_.z).gkids.length then
           bif Option.isSome ((n.getD TNode_.z).gkids.getD 0 none) then
            (I.isE ((Option.getD ((n.getD TNode_.z).gkids.getD 0 none) TNode_.z).gNode.gKind)).bind fun (r0 : Bool) =>
            some r0
           else
           none
          else
          none
         else
         none
        else
        some false
      else
      bif t15 == 20 then
        bif c == 1 then
         bif n.isSome then
          bif inB 0 (n.getD TNode_.z).gkids.length then
           bif Option.isSome ((n.getD TNode_.z).gkids.getD 0 none) then
            some ((Option.getD ((n.getD TNode_.z).gkids.getD 0 none) TNode_.z).gNode.gKind == 7)
           else
           none
          else
          none
         else
         none
        else
        some false
       else
       bif t15 == 21 then
         (I.node_kinds_c127 n 0).bind fun (r0 : Bool) =>
         some r0
        else
        bif t15 == 23 then
          bif decide (c < 1) then
           some false
          else
          bif decide (c > 9) then
            some false
           else
           bif n.isSome then
            bif inB (IntKind.i64.wrap (c - 1)) (n.getD TNode_.z).gkids.length then
            bif Option.isSome ((n.getD TNode_.z).gkids.getD (IntKind.i64.wrap (c - 1)).toNat none) then
            (I.isBlock ((Option.getD ((n.getD TNode_.z).gkids.getD (IntKind.i64.wrap (c - 1)).toNat none) TNode_.z).gNode.gKind)).bind fun (r0 : Bool) =>
            bif !r0 then
            some false
            else
            bif n.isSome then
            bif inS 0 (IntKind.i64.wrap (c - 1)) (n.getD TNode_.z).gkids.length then
            I.node_kidsOk.l7918845908 (sub (n.getD TNode_.z).gkids 0 (IntKind.i64.wrap (c - 1))) (↑(sub (n.getD TNode_.z).gkids 0 (IntKind.i64.wrap (c - 1))).length : Int) 0
            else
            none
            else
            none
            else
            none
            else
            none
            else
            none
         else
         bif t15 == 24 then
           bif decide (c ≥ 1) then
            bif decide (c ≤ 60) then
            (I.node_kinds_c128 n 0).bind fun (r0 : Bool) =>
            some r0
            else
            some false
           else
           some false
          else
          some false :=
  (runA_eq 91 _ _).trans (by kernel_rfl)
theorem I.node_kidsOk.l7918845908_eq (t253 : List (Option TNode_)) (t254 : Int) (t255 : Int) : I.node_kidsOk.l7918845908 t253 t254 t255 =
  bif decide (t255 < t254) then
  bif inB t255 t253.length then
   bif Option.isSome (t253.getD t255.toNat none) then
    bif (Option.getD (t253.getD t255.toNat none) TNode_.z).gNode.gKind != 22 then
     some false
    else
    I.node_kidsOk.l7918845908 t253 t254 (IntKind.i64.wrap (t255 + 1))
   else
   none
  else
  none
 else
 some true :=
  (runA_eq 91 _ _).trans (by kernel_rfl)
theorem I.integer_eq (t : Int) : I.integer t =
  bif decide (t ≥ 3) then
  some (decide (t ≤ 10))
 else
 some false :=
  (fnA_eq 109 [PV.i IntKind.i64 t] rfl).trans (by kernel_rfl)
noncomputable def I.bits.l53 (t3 : Int) (t4 : Bool) : Option Int := Y.runA 155 (fun ct c => at_ ct [true, false, true, false, true] c) ⟨[(3, .i IntKind.i64 t3), (4, .b t4)], [], [], []⟩
noncomputable def I.bits.l215 (t3 : Int) (t7 : Bool) : Option Int := Y.runA 155 (fun ct c => at_ ct [true, false, true, false, true, true, true] c) ⟨[(3, .i IntKind.i64 t3), (7, .b t7)], [], [], []⟩
theorem I.bits_eq (t : Int) : I.bits t =
  bif t == 3 then
  I.bits.l53 t (t == 3)
 else
 I.bits.l53 t (t == 7) :=
  (fnA_eq 155 [PV.i IntKind.i64 t] rfl).trans (by kernel_rfl)
theorem I.bits.l53_eq (t3 : Int) (t4 : Bool) : I.bits.l53 t3 t4 =
  bif t4 then
  some 8
 else
 bif t3 == 4 then
   I.bits.l215 t3 (t3 == 4)
  else
  I.bits.l215 t3 (t3 == 8) :=
  (runA_eq 155 _ _).trans (by kernel_rfl)
theorem I.bits.l215_eq (t3 : Int) (t7 : Bool) : I.bits.l215 t3 t7 =
  bif t7 then
  some 16
 else
 bif t3 == 5 then
   bif t3 == 5 then
    some 32
   else
   some 64
  else
  bif t3 == 9 then
    some 32
   else
   some 64 :=
  (runA_eq 155 _ _).trans (by kernel_rfl)
theorem I.signed_eq (t : Int) : I.signed t =
  some (decide (t ≥ 7)) :=
  (fnA_eq 156 [PV.i IntKind.i64 t] rfl).trans (by kernel_rfl)
theorem I.into_eq (x : Int) (t : Int) : I.into x t =
  (I.bits t).bind fun (r0 : Int) =>
 bif r0 == 64 then
  some (IntKind.i64.wrap x)
 else
 bif decide (0 ≤ r0) then
   (I.signed t).bind fun (r1 : Bool) =>
   bif r1 then
    bif decide (0 ≤ IntKind.u64.wrap (r0 - 1)) then
     bif shrI IntKind.u64 (bitAnd IntKind.u64 x (IntKind.u64.wrap (shlI IntKind.u64 1 r0 - 1))) (IntKind.u64.wrap (r0 - 1)) == 1 then
      bif decide (0 ≤ r0) then
       some (IntKind.i64.wrap (bitOr IntKind.u64 (bitAnd IntKind.u64 x (IntKind.u64.wrap (shlI IntKind.u64 1 r0 - 1))) (shlI IntKind.u64 18446744073709551615 r0)))
      else
      none
     else
     some (IntKind.i64.wrap (bitAnd IntKind.u64 x (IntKind.u64.wrap (shlI IntKind.u64 1 r0 - 1))))
    else
    none
   else
   some (IntKind.i64.wrap (bitAnd IntKind.u64 x (IntKind.u64.wrap (shlI IntKind.u64 1 r0 - 1))))
  else
  none :=
  (fnA_eq 136 [PV.i IntKind.u64 x, PV.i IntKind.i64 t] rfl).trans (by kernel_rfl)
theorem I.ValidValue_eq (v : TValue) : I.ValidValue v =
  bif v.gType == 1 then
  bif v.gN == 0 then
   some (bEq v.gText ((⟨#[]⟩ : ByteArray)))
  else
  bif v.gN == 1 then
    some (bEq v.gText ((⟨#[]⟩ : ByteArray)))
   else
   some false
 else
 bif v.gType == 2 then
   bif v.gN == 0 then
    some (decide ((↑v.gText.size : Int) ≤ 3000))
   else
   some false
  else
  (I.integer v.gType).bind fun (r0 : Bool) =>
   bif r0 then
    bif bEq v.gText ((⟨#[]⟩ : ByteArray)) then
     (I.into (IntKind.u64.wrap v.gN) v.gType).bind fun (r1 : Int) =>
     some (r1 == v.gN)
    else
    some false
   else
   some false :=
  (fnA_eq 103 [PV.st (cells 157 v)] rfl).trans (by kernel_rfl)
theorem I.lower_eq (b : Int) : I.lower b =
  bif decide (b ≥ 97) then
  some (decide (b ≤ 122))
 else
 some false :=
  (fnA_eq 133 [PV.i IntKind.u8 b] rfl).trans (by kernel_rfl)
noncomputable def I.typeOfWord.l52 (s : ByteArray) (t5 : List ByteArray) (t6 : Int) (t7 : Int) : Option Int := Y.runA 153 (fun ct c => at_ ct [true, false, true, false, false] c) ⟨[(0, .s s), (5, .fl 9 t5), (6, .i IntKind.i64 t6), (7, .i IntKind.i64 t7)], [], [], []⟩
theorem I.typeOfWord_eq (s : ByteArray) : I.typeOfWord s =
  I.typeOfWord.l52 s ([(⟨#[]⟩ : ByteArray), (⟨#[98, 111, 111, 108]⟩ : ByteArray), (⟨#[116, 101, 120, 116]⟩ : ByteArray), (⟨#[117, 56]⟩ : ByteArray), (⟨#[117, 49, 54]⟩ : ByteArray), (⟨#[117, 51, 50]⟩ : ByteArray), (⟨#[117, 54, 52]⟩ : ByteArray), (⟨#[105, 56]⟩ : ByteArray), (⟨#[105, 49, 54]⟩ : ByteArray), (⟨#[105, 51, 50]⟩ : ByteArray), (⟨#[105, 54, 52]⟩ : ByteArray)]) (↑[(⟨#[]⟩ : ByteArray), (⟨#[98, 111, 111, 108]⟩ : ByteArray), (⟨#[116, 101, 120, 116]⟩ : ByteArray), (⟨#[117, 56]⟩ : ByteArray), (⟨#[117, 49, 54]⟩ : ByteArray), (⟨#[117, 51, 50]⟩ : ByteArray), (⟨#[117, 54, 52]⟩ : ByteArray), (⟨#[105, 56]⟩ : ByteArray), (⟨#[105, 49, 54]⟩ : ByteArray), (⟨#[105, 51, 50]⟩ : ByteArray), (⟨#[105, 54, 52]⟩ : ByteArray)].length : Int) 0 :=
  (fnA_eq 153 [PV.s s] rfl).trans (by kernel_rfl)
theorem I.typeOfWord.l52_eq (s : ByteArray) (t5 : List ByteArray) (t6 : Int) (t7 : Int) : I.typeOfWord.l52 s t5 t6 t7 =
  bif decide (t7 < t6) then
  bif inB t7 t5.length then
   bif decide (t7 > 0) then
    bif bEq (t5.getD t7.toNat (⟨#[]⟩ : ByteArray)) s then
     some t7
    else
    I.typeOfWord.l52 s t5 t6 (IntKind.i64.wrap (t7 + 1))
   else
   I.typeOfWord.l52 s t5 t6 (IntKind.i64.wrap (t7 + 1))
  else
  none
 else
 some 0 :=
  (runA_eq 153 _ _).trans (by kernel_rfl)
noncomputable def I.isTaken.l52 (s : ByteArray) (t5 : List ByteArray) (t6 : Int) (t7 : Int) : Option Bool := Y.runA 134 (fun ct c => at_ ct [true, false, true, false, false] c) ⟨[(0, .s s), (5, .fl 9 t5), (6, .i IntKind.i64 t6), (7, .i IntKind.i64 t7)], [], [], []⟩
theorem I.isTaken_eq (s : ByteArray) : I.isTaken s =
  I.isTaken.l52 s (fieldsOf (ByteArray.mk ([102, 110, 32, 108, 101, 116, 32, 105, 102, 32, 101, 108, 115, 101, 32, 119, 104, 105, 108, 101, 32, 98, 114, 101, 97, 107, 32, 99, 111, 110, 116, 105, 110, 117, 101, 32, 114, 101, 116, 117, 114, 110, 32, 102, 97, 105, 108, 32, 119, 114, 105, 116, 101, 32, 115, 97, 121, 32, 116].append [114, 117, 101, 32, 102, 97, 108, 115, 101, 32, 114, 101, 97, 100, 32, 104, 97, 115, 32, 108, 105, 115, 116, 32, 116, 111, 111, 108, 32, 97, 114, 103, 32, 108, 101, 110, 32, 97, 116, 32, 99, 117, 116, 32, 102, 105, 110, 100, 32, 99, 104, 114, 32, 100, 101, 99, 32, 110, 117, 109]).toArray)) (↑(fieldsOf (ByteArray.mk ([102, 110, 32, 108, 101, 116, 32, 105, 102, 32, 101, 108, 115, 101, 32, 119, 104, 105, 108, 101, 32, 98, 114, 101, 97, 107, 32, 99, 111, 110, 116, 105, 110, 117, 101, 32, 114, 101, 116, 117, 114, 110, 32, 102, 97, 105, 108, 32, 119, 114, 105, 116, 101, 32, 115, 97, 121, 32, 116].append [114, 117, 101, 32, 102, 97, 108, 115, 101, 32, 114, 101, 97, 100, 32, 104, 97, 115, 32, 108, 105, 115, 116, 32, 116, 111, 111, 108, 32, 97, 114, 103, 32, 108, 101, 110, 32, 97, 116, 32, 99, 117, 116, 32, 102, 105, 110, 100, 32, 99, 104, 114, 32, 100, 101, 99, 32, 110, 117, 109]).toArray)).length : Int) 0 :=
  (fnA_eq 134 [PV.s s] rfl).trans (by kernel_rfl)
theorem I.isTaken.l52_eq (s : ByteArray) (t5 : List ByteArray) (t6 : Int) (t7 : Int) : I.isTaken.l52 s t5 t6 t7 =
  bif decide (t7 < t6) then
  bif inB t7 t5.length then
   bif bEq (t5.getD t7.toNat (⟨#[]⟩ : ByteArray)) s then
    some true
   else
   I.isTaken.l52 s t5 t6 (IntKind.i64.wrap (t7 + 1))
  else
  none
 else
 (I.typeOfWord s).bind fun (r0 : Int) =>
  some (decide (r0 > 0)) :=
  (runA_eq 134 _ _).trans (by kernel_rfl)
theorem I.digit_eq (b : Int) : I.digit b =
  bif decide (b ≥ 48) then
  some (decide (b ≤ 57))
 else
 some false :=
  (fnA_eq 154 [PV.i IntKind.u8 b] rfl).trans (by kernel_rfl)
theorem I.wordy_eq (b : Int) : I.wordy b =
  (I.lower b).bind fun (r0 : Bool) =>
 bif r0 then
  some true
 else
 (I.digit b).bind fun (r1 : Bool) =>
  bif r1 then
   some true
  else
  some (b == 95) :=
  (fnA_eq 135 [PV.i IntKind.u8 b] rfl).trans (by kernel_rfl)
noncomputable def I.nameOk.l116 (s : ByteArray) (i : Int) : Option Bool := Y.runA 102 (fun ct c => at_ ct [true, true, false, true, false, false] c) ⟨[(0, .s s), (3, .i IntKind.i64 i)], [], [], []⟩
theorem I.nameOk_eq (s : ByteArray) : I.nameOk s =
  bif decide ((↑s.size : Int) < 1) then
  some false
 else
 bif decide ((↑s.size : Int) > 30) then
   some false
  else
  bif inB 0 s.size then
    (I.lower (bt s 0)).bind fun (r0 : Bool) =>
    bif !r0 then
     some false
    else
    (I.isTaken s).bind fun (r1 : Bool) =>
     bif r1 then
      some false
     else
     I.nameOk.l116 s 0
   else
   none :=
  (fnA_eq 102 [PV.s s] rfl).trans (by kernel_rfl)
theorem I.nameOk.l116_eq (s : ByteArray) (i : Int) : I.nameOk.l116 s i =
  bif decide (i < (↑s.size : Int)) then
  bif inB i s.size then
   (I.wordy (bt s i)).bind fun (r0 : Bool) =>
   bif !r0 then
    some false
   else
   I.nameOk.l116 s (IntKind.i64.wrap (i + 1))
  else
  none
 else
 some true :=
  (runA_eq 102 _ _).trans (by kernel_rfl)
noncomputable def I.node_fieldsOk.l7551 (n : Option TNode_) (op : Bool) (typ : Bool) (num : Bool) (text : Bool) (t35 : Int) (t123 : Bool) : Option Bool := Y.runA 92 (fun ct c => at_ ct [true, true, false, true, false, true, true, true, true, true, true, true] c) ⟨[(0, .fp 101 n), (3, .b op), (4, .b typ), (5, .b num), (6, .b text), (35, .i IntKind.i64 t35), (123, .b t123)], [], [], []⟩
theorem I.node_fieldsOk_eq (n : Option TNode_) : I.node_fieldsOk n =
  bif n.isSome then
  bif n.isSome then
   bif n.isSome then
    bif n.isSome then
     bif n.isSome then
      bif (n.getD TNode_.z).gNode.gKind == 1 then
       bif (n.getD TNode_.z).gNode.gOp == 0 then
        bif bEq (n.getD TNode_.z).gNode.gText ((⟨#[]⟩ : ByteArray)) then
         bif n.isSome then
          (I.integer ((n.getD TNode_.z).gNode.gType)).bind fun (r0 : Bool) =>
          bif r0 then
           bif n.isSome then
            bif n.isSome then
            (I.ValidValue (TValue.mk (n.getD TNode_.z).gNode.gType (n.getD TNode_.z).gNode.gN ((⟨#[]⟩ : ByteArray)))).bind fun (r1 : Bool) =>
            bif r1 then
            bif n.isSome then
            bif decide ((n.getD TNode_.z).gNode.gN ≥ 0) then
            some true
            else
            bif n.isSome then
            some ((n.getD TNode_.z).gNode.gType == 6)
            else
            none
            else
            none
            else
            some false
            else
            none
           else
           none
          else
          some false
         else
         none
        else
        some false
       else
       some false
      else
      bif (n.getD TNode_.z).gNode.gKind == 2 then
        bif (n.getD TNode_.z).gNode.gOp == 0 then
         bif (n.getD TNode_.z).gNode.gType == 0 then
          bif (n.getD TNode_.z).gNode.gN == 0 then
           bif n.isSome then
            some (decide ((↑(n.getD TNode_.z).gNode.gText.size : Int) ≤ 3000))
           else
           none
          else
          some false
         else
         some false
        else
        some false
       else
       bif (n.getD TNode_.z).gNode.gKind == 3 then
         bif (n.getD TNode_.z).gNode.gOp == 0 then
          bif (n.getD TNode_.z).gNode.gType == 0 then
           bif bEq (n.getD TNode_.z).gNode.gText ((⟨#[]⟩ : ByteArray)) then
            bif n.isSome then
            bif (n.getD TNode_.z).gNode.gN == 0 then
            some true
            else
            bif n.isSome then
            some ((n.getD TNode_.z).gNode.gN == 1)
            else
            none
            else
            none
           else
           some false
          else
          some false
         else
         some false
        else
        bif (n.getD TNode_.z).gNode.gKind == 4 then
          I.node_fieldsOk.l7551 n ((n.getD TNode_.z).gNode.gOp == 0) ((n.getD TNode_.z).gNode.gType == 0) ((n.getD TNode_.z).gNode.gN == 0) (bEq (n.getD TNode_.z).gNode.gText ((⟨#[]⟩ : ByteArray))) ((n.getD TNode_.z).gNode.gKind) ((n.getD TNode_.z).gNode.gKind == 4)
         else
         bif (n.getD TNode_.z).gNode.gKind == 7 then
           I.node_fieldsOk.l7551 n ((n.getD TNode_.z).gNode.gOp == 0) ((n.getD TNode_.z).gNode.gType == 0) ((n.getD TNode_.z).gNode.gN == 0) (bEq (n.getD TNode_.z).gNode.gText ((⟨#[]⟩ : ByteArray))) ((n.getD TNode_.z).gNode.gKind) ((n.getD TNode_.z).gNode.gKind == 7)
          else
          bif (n.getD TNode_.z).gNode.gKind == 10 then
            I.node_fieldsOk.l7551 n ((n.getD TNode_.z).gNode.gOp == 0) ((n.getD TNode_.z).gNode.gType == 0) ((n.getD TNode_.z).gNode.gN == 0) (bEq (n.getD TNode_.z).gNode.gText ((⟨#[]⟩ : ByteArray))) ((n.getD TNode_.z).gNode.gKind) ((n.getD TNode_.z).gNode.gKind == 10)
           else
           I.node_fieldsOk.l7551 n ((n.getD TNode_.z).gNode.gOp == 0) ((n.getD TNode_.z).gNode.gType == 0) ((n.getD TNode_.z).gNode.gN == 0) (bEq (n.getD TNode_.z).gNode.gText ((⟨#[]⟩ : ByteArray))) ((n.getD TNode_.z).gNode.gKind) ((n.getD TNode_.z).gNode.gKind == 11)
     else
     none
    else
    none
   else
   none
  else
  none
 else
 none :=
  (fnA_eq 92 [PV.fp 101 n] rfl).trans (by kernel_rfl)
theorem I.node_fieldsOk.l7551_eq (n : Option TNode_) (op : Bool) (typ : Bool) (num : Bool) (text : Bool) (t35 : Int) (t123 : Bool) : I.node_fieldsOk.l7551 n op typ num text t35 t123 =
  bif t123 then
  bif op then
   bif typ then
    bif num then
     bif n.isSome then
      (I.nameOk ((n.getD TNode_.z).gNode.gText)).bind fun (r0 : Bool) =>
      some r0
     else
     none
    else
    some false
   else
   some false
  else
  some false
 else
 bif t35 == 5 then
   bif typ then
    bif num then
     bif text then
      bif n.isSome then
       bif decide ((n.getD TNode_.z).gNode.gOp ≥ 1) then
        bif n.isSome then
         some (decide ((n.getD TNode_.z).gNode.gOp ≤ 3))
        else
        none
       else
       some false
      else
      none
     else
     some false
    else
    some false
   else
   some false
  else
  bif t35 == 6 then
    bif typ then
     bif num then
      bif text then
       bif n.isSome then
        bif decide ((n.getD TNode_.z).gNode.gOp ≥ 1) then
         bif n.isSome then
          some (decide ((n.getD TNode_.z).gNode.gOp ≤ 18))
         else
         none
        else
        some false
       else
       none
      else
      some false
     else
     some false
    else
    some false
   else
   bif t35 == 8 then
     bif typ then
      bif num then
       some text
      else
      some false
     else
     some false
    else
    bif t35 == 9 then
      bif op then
       bif num then
        bif text then
         bif n.isSome then
          (I.integer ((n.getD TNode_.z).gNode.gType)).bind fun (r0 : Bool) =>
          some r0
         else
         none
        else
        some false
       else
       some false
      else
      some false
     else
     bif t35 == 22 then
       bif op then
        bif num then
         bif n.isSome then
          (I.nameOk ((n.getD TNode_.z).gNode.gText)).bind fun (r0 : Bool) =>
          bif r0 then
           bif n.isSome then
            bif decide ((n.getD TNode_.z).gNode.gType ≥ 1) then
            bif n.isSome then
            some (decide ((n.getD TNode_.z).gNode.gType ≤ 10))
            else
            none
            else
            some false
           else
           none
          else
          some false
         else
         none
        else
        some false
       else
       some false
      else
      bif t35 == 23 then
        bif op then
         bif num then
          bif n.isSome then
           (I.nameOk ((n.getD TNode_.z).gNode.gText)).bind fun (r0 : Bool) =>
           bif r0 then
            bif n.isSome then
            bif decide ((n.getD TNode_.z).gNode.gType ≥ 0) then
            bif n.isSome then
            some (decide ((n.getD TNode_.z).gNode.gType ≤ 10))
            else
            none
            else
            some false
            else
            none
           else
           some false
          else
          none
         else
         some false
        else
        some false
       else
       bif op then
         bif typ then
          bif num then
           some text
          else
          some false
         else
         some false
        else
        some false :=
  (runA_eq 92 _ _).trans (by kernel_rfl)
noncomputable def I.node_ok.l116 (above : Int) (t22 : List (Option TNode_)) (t23 : Int) (t24 : Int) : Option Bool := Y.runA 55 (fun ct c => at_ ct [true, true, false, true, false, false] c) ⟨[(1, .i IntKind.i64 above), (22, .fl 60 t22), (23, .i IntKind.i64 t23), (24, .i IntKind.i64 t24)], [], [], []⟩
theorem I.node_ok_eq (n : Option TNode_) (above : Int) : I.node_ok n above =
  bif decide (above > 60) then
  some false
 else
 (I.node_kidsOk n).bind fun (r0 : Bool) =>
  bif !r0 then
   some false
  else
  (I.node_fieldsOk n).bind fun (r1 : Bool) =>
   bif !r1 then
    some false
   else
   bif n.isSome then
     I.node_ok.l116 above ((n.getD TNode_.z).gkids) (↑(n.getD TNode_.z).gkids.length : Int) 0
    else
    none :=
  (fnA_eq 55 [PV.fp 101 n, PV.i IntKind.i64 above] rfl).trans (by kernel_rfl)
theorem I.node_ok.l116_eq (above : Int) (t22 : List (Option TNode_)) (t23 : Int) (t24 : Int) : I.node_ok.l116 above t22 t23 t24 =
  bif decide (t24 < t23) then
  bif inB t24 t22.length then
   (I.node_ok (t22.getD t24.toNat none) (IntKind.i64.wrap (above + 1))).bind fun (r0 : Bool) =>
   bif !r0 then
    some false
   else
   I.node_ok.l116 above t22 t23 (IntKind.i64.wrap (t24 + 1))
  else
  none
 else
 some true :=
  (runA_eq 55 _ _).trans (by kernel_rfl)
theorem I.validRoot_eq (t : TTree) : I.validRoot t =
  (I.grow t).bind fun (r0 : Option TNode_) =>
 bif Option.isNone r0 then
  some none
 else
 bif Option.isSome r0 then
   bif (Option.getD r0 TNode_.z).gNode.gKind != 24 then
    some none
   else
   (I.node_ok r0 0).bind fun (r1 : Bool) =>
    bif !r1 then
     some none
    else
    some r0
  else
  none :=
  (fnA_eq 27 [PV.st (cells 29 t)] rfl).trans (by kernel_rfl)
theorem I.ValidTree_eq (t : TTree) : I.ValidTree t =
  (I.validRoot t).bind fun (r0 : Option TNode_) =>
 some (!Option.isNone r0) :=
  (fnA_eq 10 [PV.st (cells 29 t)] rfl).trans (by kernel_rfl)
theorem L.eqNode_eq (a : TNode) (b : TNode) : L.eqNode a b =
  bif a.gKind != b.gKind then
  some false
 else
 bif a.gOp != b.gOp then
   some false
  else
  bif a.gType != b.gType then
    some false
   else
   bif a.gN != b.gN then
     some false
    else
    bif !bEq a.gText b.gText then
      some false
     else
     bif a.gKids != b.gKids then
       some false
      else
      some true :=
  (fnA_eq 56 [PV.st (cells 56 a), PV.st (cells 56 b)] rfl).trans (by kernel_rfl)
noncomputable def L.eqNodeS.l116 (a : List TNode) (b : List TNode) (i : Int) : Option Bool := Y.runA 28 (fun ct c => at_ ct [true, true, false, true, false, false] c) ⟨[(0, .fl 56 a), (1, .fl 56 b), (5, .i IntKind.i64 i)], [], [], []⟩
theorem L.eqNodeS_eq (a : List TNode) (b : List TNode) : L.eqNodeS a b =
  bif (↑a.length : Int) != (↑b.length : Int) then
  some false
 else
 L.eqNodeS.l116 a b 0 :=
  (fnA_eq 28 [PV.fl 56 a, PV.fl 56 b] rfl).trans (by kernel_rfl)
theorem L.eqNodeS.l116_eq (a : List TNode) (b : List TNode) (i : Int) : L.eqNodeS.l116 a b i =
  bif decide (i < (↑a.length : Int)) then
  bif inB i a.length then
   bif inB i b.length then
    (L.eqNode (a.getD i.toNat TNode.z) (b.getD i.toNat TNode.z)).bind fun (r0 : Bool) =>
    bif !r0 then
     some false
    else
    L.eqNodeS.l116 a b (IntKind.i64.wrap (i + 1))
   else
   none
  else
  none
 else
 some true :=
  (runA_eq 28 _ _).trans (by kernel_rfl)
theorem L.eqTree_eq (a : TTree) (b : TTree) : L.eqTree a b =
  (L.eqNodeS a.gNodes b.gNodes).bind fun (r0 : Bool) =>
 bif !r0 then
  some false
 else
 some true :=
  (fnA_eq 11 [PV.st (cells 29 a), PV.st (cells 29 b)] rfl).trans (by kernel_rfl)
theorem L.FnExactValidTree_eq (aT : TTree) : L.FnExactValidTree aT =
  (L.szTree aT 1048576).bind fun (r0 : Int) =>
 bif decide (r0 < 0) then
  some true
 else
 (L.toTree aT).bind fun (r1 : TTree) =>
  (R.ValidTree r1).bind fun (r2 : Bool) =>
  (L.toTree aT).bind fun (r3 : TTree) =>
  (I.ValidTree r3).bind fun (r4 : Bool) =>
  bif !r4 == r2 then
   some false
  else
  (L.toTree aT).bind fun (r5 : TTree) =>
   (L.eqTree r3 r5).bind fun (r6 : Bool) =>
   bif !r6 then
    some false
   else
   some true :=
  (fnA_eq 3 [PV.st (cells 24 aT)] rfl).trans (by kernel_rfl)
end Go.KM.T1
