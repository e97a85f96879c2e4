/- The equations of the law's functions. Conditions: none. -/
import Derived.Test.YtdhkmgloghlnnaaDoorWSg
namespace Go.KM.W1
open Go Go.KM
open Go.KM.Fam (Dn dflt)
open Go.KM.Enc (cells sz mkE glob gany u8)
set_option autoImplicit false
set_option linter.unusedVariables false
set_option maxRecDepth 100000
theorem L.szIntS_eq (a : List Int) (left : Int) : L.szIntS a left =
  bif decide (IntKind.i64.wrap (left - (↑a.length : Int)) < 0) then
  some (-1)
 else
 some (IntKind.i64.wrap (left - (↑a.length : Int))) :=
  (fnA_eq 93 [PV.fl 3 a, PV.i IntKind.i64 left] rfl).trans (by kernel_rfl)
theorem L.szIns_eq (a : TIns) (left : Int) : L.szIns a left =
  bif decide (IntKind.i64.wrap (left - (↑a.gText.size : Int)) < 0) then
  some (-1)
 else
 some (IntKind.i64.wrap (left - (↑a.gText.size : Int))) :=
  (fnA_eq 129 [PV.st (cells 175 a), PV.i IntKind.i64 left] rfl).trans (by kernel_rfl)
noncomputable def L.szInsS.l244 (a : List TIns) (left : Int) (i : Int) : Option Int := Y.runA 94 (fun ct c => at_ ct [true, true, true, false, true, false, false] c) ⟨[(0, .fl 175 a), (1, .i IntKind.i64 left), (5, .i IntKind.i64 i)], [], [], [], []⟩
theorem L.szInsS_eq (a : List TIns) (left : Int) : L.szInsS a left =
  bif decide (IntKind.i64.wrap (left - (↑a.length : Int)) < 0) then
  some (-1)
 else
 L.szInsS.l244 a (IntKind.i64.wrap (left - (↑a.length : Int))) 0 :=
  (fnA_eq 94 [PV.fl 175 a, PV.i IntKind.i64 left] rfl).trans (by kernel_rfl)
theorem L.szInsS.l244_eq (a : List TIns) (left : Int) (i : Int) : L.szInsS.l244 a left i =
  bif decide (i < (↑a.length : Int)) then
  bif inB i a.length then
   (L.szIns (a.getD i.toNat TIns.z) left).bind fun (r0 : Int) =>
   bif decide (r0 < 0) then
    some (-1)
   else
   L.szInsS.l244 a r0 (IntKind.i64.wrap (i + 1))
  else
  none
 else
 some left :=
  (runA_eq 94 _ _).trans (by kernel_rfl)
theorem L.szFn_eq (a : TFn) (left : Int) : L.szFn a left =
  bif decide (IntKind.i64.wrap (left - (↑a.gName.size : Int)) < 0) then
  some (-1)
 else
 (L.szIntS a.gParams (IntKind.i64.wrap (left - (↑a.gName.size : Int)))).bind fun (r0 : Int) =>
  bif decide (r0 < 0) then
   some (-1)
  else
  (L.szInsS a.gIns r0).bind fun (r1 : Int) =>
   bif decide (r1 < 0) then
    some (-1)
   else
   some r1 :=
  (fnA_eq 57 [PV.st (cells 106 a), PV.i IntKind.i64 left] rfl).trans (by kernel_rfl)
noncomputable def L.szFnS.l244 (a : List TFn) (left : Int) (i : Int) : Option Int := Y.runA 29 (fun ct c => at_ ct [true, true, true, false, true, false, false] c) ⟨[(0, .fl 106 a), (1, .i IntKind.i64 left), (5, .i IntKind.i64 i)], [], [], [], []⟩
theorem L.szFnS_eq (a : List TFn) (left : Int) : L.szFnS a left =
  bif decide (IntKind.i64.wrap (left - (↑a.length : Int)) < 0) then
  some (-1)
 else
 L.szFnS.l244 a (IntKind.i64.wrap (left - (↑a.length : Int))) 0 :=
  (fnA_eq 29 [PV.fl 106 a, PV.i IntKind.i64 left] rfl).trans (by kernel_rfl)
theorem L.szFnS.l244_eq (a : List TFn) (left : Int) (i : Int) : L.szFnS.l244 a left i =
  bif decide (i < (↑a.length : Int)) then
  bif inB i a.length then
   (L.szFn (a.getD i.toNat TFn.z) left).bind fun (r0 : Int) =>
   bif decide (r0 < 0) then
    some (-1)
   else
   L.szFnS.l244 a r0 (IntKind.i64.wrap (i + 1))
  else
  none
 else
 some left :=
  (runA_eq 29 _ _).trans (by kernel_rfl)
theorem L.szCode_eq (a : TCode) (left : Int) : L.szCode a left =
  (L.szFnS a.gFns left).bind fun (r0 : Int) =>
 bif decide (r0 < 0) then
  some (-1)
 else
 some r0 :=
  (fnA_eq 12 [PV.st (cells 35 a), PV.i IntKind.i64 left] rfl).trans (by kernel_rfl)
noncomputable def L.toIntS.l116 (a : List Int) (out : List Int) (i : Int) : Option (List Int) := Y.runA 100 (fun ct c => at_ ct [true, true, false, true, false, false] c) ⟨[(0, .fl 3 a), (3, .ol 3 out), (4, .i IntKind.i64 i)], [], [], [], []⟩
theorem L.toIntS_eq (a : List Int) : L.toIntS a =
  bif decide (0 ≤ (↑a.length : Int)) && (↑a.length : Int) == (↑a.length : Int) && room a.length 8 then
  L.toIntS.l116 a (List.replicate a.length (0 : Int)) 0
 else
 none :=
  (fnA_eq 100 [PV.fl 3 a] rfl).trans (by kernel_rfl)
theorem L.toIntS.l116_eq (a : List Int) (out : List Int) (i : Int) : L.toIntS.l116 a out i =
  bif decide (i < (↑a.length : Int)) then
  bif inB i a.length then
   bif inB i out.length then
    L.toIntS.l116 a (out.set i.toNat (a.getD i.toNat 0)) (IntKind.i64.wrap (i + 1))
   else
   none
  else
  none
 else
 some out :=
  (runA_eq 100 _ _).trans (by kernel_rfl)
theorem L.toIns_eq (a : TIns) : L.toIns a =
  some a :=
  (fnA_eq 132 [PV.st (cells 175 a)] rfl).trans (by kernel_rfl)
noncomputable def L.toInsS.l116 (a : List TIns) (out : List TIns) (i : Int) : Option (List TIns) := Y.runA 101 (fun ct c => at_ ct [true, true, false, true, false, false] c) ⟨[(0, .fl 175 a), (3, .ol 111 out), (4, .i IntKind.i64 i)], [], [], [], []⟩
theorem L.toInsS_eq (a : List TIns) : L.toInsS a =
  bif decide (0 ≤ (↑a.length : Int)) && (↑a.length : Int) == (↑a.length : Int) && room a.length 40 then
  L.toInsS.l116 a (List.replicate a.length (TIns.mk 0 0 0 ((⟨#[]⟩ : ByteArray)))) 0
 else
 none :=
  (fnA_eq 101 [PV.fl 175 a] rfl).trans (by kernel_rfl)
theorem L.toInsS.l116_eq (a : List TIns) (out : List TIns) (i : Int) : L.toInsS.l116 a out i =
  bif decide (i < (↑a.length : Int)) then
  bif inB i a.length then
   (L.toIns (a.getD i.toNat TIns.z)).bind fun (r0 : TIns) =>
   bif inB i out.length then
    L.toInsS.l116 a (out.set i.toNat (TIns.mk r0.gOp r0.gA r0.gN r0.gText)) (IntKind.i64.wrap (i + 1))
   else
   none
  else
  none
 else
 some out :=
  (runA_eq 101 _ _).trans (by kernel_rfl)
theorem L.toFn_eq (a : TFn) : L.toFn a =
  (L.toIntS a.gParams).bind fun (r0 : List Int) =>
 (L.toInsS a.gIns).bind fun (r1 : List TIns) =>
 some (⟨a.gName, r0, a.gResult, a.gSlots, r1⟩ : TFn) :=
  (fnA_eq 65 [PV.st (cells 106 a)] rfl).trans (by kernel_rfl)
noncomputable def L.toFnS.l116 (a : List TFn) (out : List TFn) (i : Int) : Option (List TFn) := Y.runA 33 (fun ct c => at_ ct [true, true, false, true, false, false] c) ⟨[(0, .fl 106 a), (3, .ol 71 out), (4, .i IntKind.i64 i)], [], [], [], []⟩
theorem L.toFnS_eq (a : List TFn) : L.toFnS a =
  bif decide (0 ≤ (↑a.length : Int)) && (↑a.length : Int) == (↑a.length : Int) && room a.length 80 then
  L.toFnS.l116 a (List.replicate a.length (TFn.mk ((⟨#[]⟩ : ByteArray)) [] 0 0 [])) 0
 else
 none :=
  (fnA_eq 33 [PV.fl 106 a] rfl).trans (by kernel_rfl)
theorem L.toFnS.l116_eq (a : List TFn) (out : List TFn) (i : Int) : L.toFnS.l116 a out i =
  bif decide (i < (↑a.length : Int)) then
  bif inB i a.length then
   (L.toFn (a.getD i.toNat TFn.z)).bind fun (r0 : TFn) =>
   bif inB i out.length then
    L.toFnS.l116 a (out.set i.toNat (TFn.mk r0.gName r0.gParams r0.gResult r0.gSlots r0.gIns)) (IntKind.i64.wrap (i + 1))
   else
   none
  else
  none
 else
 some out :=
  (runA_eq 33 _ _).trans (by kernel_rfl)
theorem L.toCode_eq (a : TCode) : L.toCode a =
  (L.toFnS a.gFns).bind fun (r0 : List TFn) =>
 some (⟨r0⟩ : TCode) :=
  (fnA_eq 14 [PV.st (cells 35 a)] rfl).trans (by kernel_rfl)
theorem R.l7In_eq (n : Int) (low : Int) (high : Int) : R.l7In n low high =
  bif decide (n ≥ low) then
  some (decide (n ≤ high))
 else
 some false :=
  (fnA_eq 58 [PV.i IntKind.i64 n, PV.i IntKind.i64 low, PV.i IntKind.i64 high] rfl).trans (by kernel_rfl)
theorem R.l1Letter_eq (b : Int) : R.l1Letter b =
  bif decide (b ≥ 97) then
  some (decide (b ≤ 122))
 else
 some false :=
  (fnA_eq 86 [PV.i IntKind.u8 b] rfl).trans (by kernel_rfl)
theorem R.l1TypeWord_eq (t : Int) : R.l1TypeWord t =
  bif t == 1 then
  some ((⟨#[98, 111, 111, 108]⟩ : ByteArray))
 else
 bif t == 2 then
   some ((⟨#[116, 101, 120, 116]⟩ : ByteArray))
  else
  bif t == 3 then
    some ((⟨#[117, 56]⟩ : ByteArray))
   else
   bif t == 4 then
     some ((⟨#[117, 49, 54]⟩ : ByteArray))
    else
    bif t == 5 then
      some ((⟨#[117, 51, 50]⟩ : ByteArray))
     else
     bif t == 6 then
       some ((⟨#[117, 54, 52]⟩ : ByteArray))
      else
      bif t == 7 then
        some ((⟨#[105, 56]⟩ : ByteArray))
       else
       bif t == 8 then
         some ((⟨#[105, 49, 54]⟩ : ByteArray))
        else
        bif t == 9 then
          some ((⟨#[105, 51, 50]⟩ : ByteArray))
         else
         bif t == 10 then
           some ((⟨#[105, 54, 52]⟩ : ByteArray))
          else
          some ((⟨#[]⟩ : ByteArray)) :=
  (fnA_eq 151 [PV.i IntKind.i64 t] rfl).trans (by kernel_rfl)
noncomputable def R.l1Type.l52 (w : ByteArray) (t : Int) : Option Int := Y.runA 121 (fun ct c => at_ ct [true, false, true, false, false] c) ⟨[(0, .s w), (3, .i IntKind.i64 t)], [], [], [], []⟩
theorem R.l1Type_eq (w : ByteArray) : R.l1Type w =
  R.l1Type.l52 w 1 :=
  (fnA_eq 121 [PV.s w] rfl).trans (by kernel_rfl)
theorem R.l1Type.l52_eq (w : ByteArray) (t : Int) : R.l1Type.l52 w t =
  bif decide (t ≤ 10) then
  (R.l1TypeWord t).bind fun (r0 : ByteArray) =>
  bif bEq r0 w then
   some t
  else
  R.l1Type.l52 w (IntKind.i64.wrap (t + 1))
 else
 some 0 :=
  (runA_eq 121 _ _).trans (by kernel_rfl)
theorem R.l1BuiltWord_eq (op : Int) : R.l1BuiltWord op =
  bif op == 1 then
  some ((⟨#[114, 101, 97, 100]⟩ : ByteArray), 1)
 else
 bif op == 2 then
   some ((⟨#[104, 97, 115]⟩ : ByteArray), 1)
  else
  bif op == 3 then
    some ((⟨#[108, 105, 115, 116]⟩ : ByteArray), 1)
   else
   bif op == 4 then
     some ((⟨#[116, 111, 111, 108]⟩ : ByteArray), 2)
    else
    bif op == 5 then
      some ((⟨#[97, 114, 103]⟩ : ByteArray), 0)
     else
     bif op == 6 then
       some ((⟨#[108, 101, 110]⟩ : ByteArray), 1)
      else
      bif op == 7 then
        some ((⟨#[97, 116]⟩ : ByteArray), 2)
       else
       bif op == 8 then
         some ((⟨#[99, 117, 116]⟩ : ByteArray), 3)
        else
        bif op == 9 then
          some ((⟨#[102, 105, 110, 100]⟩ : ByteArray), 2)
         else
         bif op == 10 then
           some ((⟨#[99, 104, 114]⟩ : ByteArray), 1)
          else
          bif op == 11 then
            some ((⟨#[100, 101, 99]⟩ : ByteArray), 1)
           else
           bif op == 12 then
            some ((⟨#[110, 117, 109]⟩ : ByteArray), 1)
            else
            some ((⟨#[]⟩ : ByteArray), 0) :=
  (fnA_eq 51 [PV.i IntKind.i64 op] rfl).trans (by kernel_rfl)
theorem R.l1Plain_eq : R.l1Plain =
  some ([(⟨#[102, 110]⟩ : ByteArray), (⟨#[108, 101, 116]⟩ : ByteArray), (⟨#[105, 102]⟩ : ByteArray), (⟨#[101, 108, 115, 101]⟩ : ByteArray), (⟨#[119, 104, 105, 108, 101]⟩ : ByteArray), (⟨#[98, 114, 101, 97, 107]⟩ : ByteArray), (⟨#[99, 111, 110, 116, 105, 110, 117, 101]⟩ : ByteArray), (⟨#[114, 101, 116, 117, 114, 110]⟩ : ByteArray), (⟨#[102, 97, 105, 108]⟩ : ByteArray), (⟨#[119, 114, 105, 116, 101]⟩ : ByteArray), (⟨#[115, 97, 121]⟩ : ByteArray), (⟨#[116, 114, 117, 101]⟩ : ByteArray), (⟨#[102, 97, 108, 115, 101]⟩ : ByteArray)]) :=
  (fnA_eq 122 [] rfl).trans (by kernel_rfl)
noncomputable def R.l1Taken.l116 (w : ByteArray) (op : Int) : Option Bool := Y.runA 87 (fun ct c => at_ ct [true, true, false, true, false, false] c) ⟨[(0, .s w), (3, .i IntKind.i64 op)], [], [], [], []⟩
noncomputable def R.l1Taken.l500 (w : ByteArray) (plain : List ByteArray) (i : Int) : Option Bool := Y.runA 87 (fun ct c => at_ ct [true, true, true, true, false, true, false, false] c) ⟨[(0, .s w), (6, .fl 9 plain), (7, .i IntKind.i64 i)], [], [], [], []⟩
theorem R.l1Taken_eq (w : ByteArray) : R.l1Taken w =
  (R.l1Type w).bind fun (r0 : Int) =>
 bif r0 != 0 then
  some true
 else
 R.l1Taken.l116 w 1 :=
  (fnA_eq 87 [PV.s w] rfl).trans (by kernel_rfl)
theorem R.l1Taken.l116_eq (w : ByteArray) (op : Int) : R.l1Taken.l116 w op =
  bif decide (op ≤ 12) then
  (R.l1BuiltWord op).bind fun (r0 : (ByteArray × Int)) =>
  bif bEq r0.fst w then
   some true
  else
  R.l1Taken.l116 w (IntKind.i64.wrap (op + 1))
 else
 (R.l1Plain).bind fun (r0 : List ByteArray) =>
  R.l1Taken.l500 w r0 0 :=
  (runA_eq 87 _ _).trans (by kernel_rfl)
theorem R.l1Taken.l500_eq (w : ByteArray) (plain : List ByteArray) (i : Int) : R.l1Taken.l500 w plain i =
  bif decide (i < (↑(List.length plain) : Int)) then
  bif inB i (List.length plain) then
   bif bEq (List.getD plain i.toNat (⟨#[]⟩ : ByteArray)) w then
    some true
   else
   R.l1Taken.l500 w plain (IntKind.i64.wrap (i + 1))
  else
  none
 else
 some false :=
  (runA_eq 87 _ _).trans (by kernel_rfl)
theorem R.l1Digit_eq (b : Int) : R.l1Digit b =
  bif decide (b ≥ 48) then
  some (decide (b ≤ 57))
 else
 some false :=
  (fnA_eq 123 [PV.i IntKind.u8 b] rfl).trans (by kernel_rfl)
theorem R.l1Tail_eq (b : Int) : R.l1Tail b =
  (R.l1Letter b).bind fun (r0 : Bool) =>
 bif r0 then
  some true
 else
 (R.l1Digit b).bind fun (r1 : Bool) =>
  bif r1 then
   some true
  else
  some (b == 95) :=
  (fnA_eq 88 [PV.i IntKind.u8 b] rfl).trans (by kernel_rfl)
noncomputable def R.l1NameOk.l116 (s : ByteArray) (i : Int) : Option Bool := Y.runA 46 (fun ct c => at_ ct [true, true, false, true, false, false] c) ⟨[(0, .s s), (3, .i IntKind.i64 i)], [], [], [], []⟩
theorem R.l1NameOk_eq (s : ByteArray) : R.l1NameOk s =
  bif decide ((↑s.size : Int) < 1) then
  some false
 else
 bif decide ((↑s.size : Int) > 30) then
   some false
  else
  bif inB 0 s.size then
    (R.l1Letter (bt s 0)).bind fun (r0 : Bool) =>
    bif !r0 then
     some false
    else
    (R.l1Taken s).bind fun (r1 : Bool) =>
     bif r1 then
      some false
     else
     R.l1NameOk.l116 s 0
   else
   none :=
  (fnA_eq 46 [PV.s s] rfl).trans (by kernel_rfl)
theorem R.l1NameOk.l116_eq (s : ByteArray) (i : Int) : R.l1NameOk.l116 s i =
  bif decide (i < (↑s.size : Int)) then
  bif inB i s.size then
   (R.l1Tail (bt s i)).bind fun (r0 : Bool) =>
   bif !r0 then
    some false
   else
   R.l1NameOk.l116 s (IntKind.i64.wrap (i + 1))
  else
  none
 else
 some true :=
  (runA_eq 46 _ _).trans (by kernel_rfl)
noncomputable def R.l7FnOk.l244 (k : Int) (i : Int) (c : TCode) (f : TFn) : Option Bool := Y.runA 59 (fun ct c => at_ ct [true, true, true, false, true, false, false] c) ⟨[(1, .i IntKind.i64 k), (2, .ad (.loc 2) 0), (5, .ad (.loc 5) 0), (6, .i IntKind.i64 i)], [(2, cells 41 c), (5, cells 71 f)], [], [], []⟩
noncomputable def R.l7FnOk.l500 (k : Int) (i : Int) (c : TCode) (f : TFn) : Option Bool := Y.runA 59 (fun ct c => at_ ct [true, true, true, true, false, true, false, false] c) ⟨[(1, .i IntKind.i64 k), (2, .ad (.loc 2) 0), (5, .ad (.loc 5) 0), (7, .i IntKind.i64 i)], [(2, cells 41 c), (5, cells 71 f)], [], [], []⟩
theorem R.l7FnOk_eq (c : TCode) (k : Int) : R.l7FnOk c k =
  bif inB k c.gFns.length then
  (R.l1NameOk ((c.gFns.getD k.toNat TFn.z).gName)).bind fun (r0 : Bool) =>
  bif !r0 then
   some false
  else
  bif decide ((↑(c.gFns.getD k.toNat TFn.z).gParams.length : Int) > 8) then
    some false
   else
   (R.l7In ((c.gFns.getD k.toNat TFn.z).gResult) 0 10).bind fun (r1 : Bool) =>
    bif !r1 then
     some false
    else
    (R.l7In ((c.gFns.getD k.toNat TFn.z).gSlots) (↑(c.gFns.getD k.toNat TFn.z).gParams.length : Int) 200).bind fun (r2 : Bool) =>
     bif !r2 then
      some false
     else
     (R.l7In (↑(c.gFns.getD k.toNat TFn.z).gIns.length : Int) 1 50000).bind fun (r3 : Bool) =>
      bif !r3 then
       some false
      else
      R.l7FnOk.l244 k 0 c (c.gFns.getD k.toNat TFn.z)
 else
 none :=
  (fnA_eq 59 [PV.st (cells 41 c), PV.i IntKind.i64 k] rfl).trans (by kernel_rfl)
theorem R.l7FnOk.l244_eq (k : Int) (i : Int) (c : TCode) (f : TFn) : R.l7FnOk.l244 k i c f =
  bif decide (i < (↑f.gParams.length : Int)) then
  bif inB i f.gParams.length then
   (R.l7In (f.gParams.getD i.toNat 0) 1 10).bind fun (r0 : Bool) =>
   bif !r0 then
    some false
   else
   R.l7FnOk.l244 k (IntKind.i64.wrap (i + 1)) c f
  else
  none
 else
 R.l7FnOk.l500 k 0 c f :=
  (runA_eq 59 _ _).trans (by kernel_rfl)
theorem R.l7FnOk.l500_eq (k : Int) (i : Int) (c : TCode) (f : TFn) : R.l7FnOk.l500 k i c f =
  bif decide (i < k) then
  bif inB i c.gFns.length then
   bif bEq (c.gFns.getD i.toNat TFn.z).gName f.gName then
    some false
   else
   R.l7FnOk.l500 k (IntKind.i64.wrap (i + 1)) c f
  else
  none
 else
 some true :=
  (runA_eq 59 _ _).trans (by kernel_rfl)
theorem R.l7HasA_eq (op : Int) : R.l7HasA op =
  bif op == 1 then
  some true
 else
 bif op == 2 then
   some true
  else
  bif op == 3 then
    some true
   else
   (R.l7In op 5 12).bind fun (r0 : Bool) =>
    some r0 :=
  (fnA_eq 79 [PV.i IntKind.i64 op] rfl).trans (by kernel_rfl)
theorem R.l1Integer_eq (t : Int) : R.l1Integer t =
  bif decide (t ≥ 3) then
  some (decide (t ≤ 10))
 else
 some false :=
  (fnA_eq 47 [PV.i IntKind.i64 t] rfl).trans (by kernel_rfl)
noncomputable def R.l1Bits.l53 (t3 : Int) (t4 : Bool) : Option Int := Y.runA 89 (fun ct c => at_ ct [true, false, true, false, true] c) ⟨[(3, .i IntKind.i64 t3), (4, .b t4)], [], [], [], []⟩
noncomputable def R.l1Bits.l215 (t3 : Int) (t7 : Bool) : Option Int := Y.runA 89 (fun ct c => at_ ct [true, false, true, false, true, true, true] c) ⟨[(3, .i IntKind.i64 t3), (7, .b t7)], [], [], [], []⟩
theorem R.l1Bits_eq (t : Int) : R.l1Bits t =
  bif t == 3 then
  R.l1Bits.l53 t (t == 3)
 else
 R.l1Bits.l53 t (t == 7) :=
  (fnA_eq 89 [PV.i IntKind.i64 t] rfl).trans (by kernel_rfl)
theorem R.l1Bits.l53_eq (t3 : Int) (t4 : Bool) : R.l1Bits.l53 t3 t4 =
  bif t4 then
  some 8
 else
 bif t3 == 4 then
   R.l1Bits.l215 t3 (t3 == 4)
  else
  R.l1Bits.l215 t3 (t3 == 8) :=
  (runA_eq 89 _ _).trans (by kernel_rfl)
theorem R.l1Bits.l215_eq (t3 : Int) (t7 : Bool) : R.l1Bits.l215 t3 t7 =
  bif t7 then
  some 16
 else
 bif t3 == 5 then
   bif t3 == 5 then
    some 32
   else
   some 64
  else
  bif t3 == 9 then
    some 32
   else
   some 64 :=
  (runA_eq 89 _ _).trans (by kernel_rfl)
theorem R.l1Signed_eq (t : Int) : R.l1Signed t =
  bif decide (t ≥ 7) then
  some (decide (t ≤ 10))
 else
 some false :=
  (fnA_eq 90 [PV.i IntKind.i64 t] rfl).trans (by kernel_rfl)
theorem R.l4Into_eq (t : Int) (bits : Int) : R.l4Into t bits =
  (R.l1Bits t).bind fun (r0 : Int) =>
 bif decide (r0 < 64) then
  bif decide (0 ≤ IntKind.u64.wrap r0) then
   bif shlI IntKind.u64 1 (IntKind.u64.wrap r0) != 0 then
    (R.l1Signed t).bind fun (r1 : Bool) =>
    bif r1 then
     bif decide (bits.tmod (shlI IntKind.u64 1 (IntKind.u64.wrap r0)) ≥ IntKind.u64.wrap ((shlI IntKind.u64 1 (IntKind.u64.wrap r0)).tdiv 2)) then
      some (IntKind.i64.wrap (IntKind.u64.wrap (bits.tmod (shlI IntKind.u64 1 (IntKind.u64.wrap r0)) - shlI IntKind.u64 1 (IntKind.u64.wrap r0))))
     else
     some (IntKind.i64.wrap (bits.tmod (shlI IntKind.u64 1 (IntKind.u64.wrap r0))))
    else
    some (IntKind.i64.wrap (bits.tmod (shlI IntKind.u64 1 (IntKind.u64.wrap r0))))
   else
   none
  else
  none
 else
 some (IntKind.i64.wrap bits) :=
  (fnA_eq 130 [PV.i IntKind.i64 t, PV.i IntKind.u64 bits] rfl).trans (by kernel_rfl)
theorem R.ValidValue_eq (v : TValue) : R.ValidValue v =
  bif v.gType == 1 then
  bif v.gN == 0 then
   some (bEq v.gText ((⟨#[]⟩ : ByteArray)))
  else
  bif v.gN == 1 then
    some (bEq v.gText ((⟨#[]⟩ : ByteArray)))
   else
   some false
 else
 bif v.gType == 2 then
   bif v.gN == 0 then
    some (decide ((↑v.gText.size : Int) ≤ 3000))
   else
   some false
  else
  (R.l1Integer v.gType).bind fun (r0 : Bool) =>
   bif r0 then
    bif bEq v.gText ((⟨#[]⟩ : ByteArray)) then
     (R.l4Into v.gType (IntKind.u64.wrap v.gN)).bind fun (r1 : Int) =>
     some (v.gN == r1)
    else
    some false
   else
   some false :=
  (fnA_eq 95 [PV.st (cells 157 v)] rfl).trans (by kernel_rfl)
noncomputable def R.l7InsOk.l501 (t42 : Int) (t43 : Bool) (c : TCode) (f : TFn) (i : TIns) : Option Bool := Y.runA 60 (fun ct c => at_ ct [true, true, true, true, false, true, false, true] c) ⟨[(3, .ad (.loc 3) 0), (4, .ad (.loc 4) 0), (5, .ad (.loc 5) 0), (42, .i IntKind.i64 t42), (43, .b t43)], [(3, cells 41 c), (4, cells 71 f), (5, cells 111 i)], [], [], []⟩
noncomputable def R.l7InsOk.l2056191 (t42 : Int) (t81 : Bool) (f : TFn) (i : TIns) : Option Bool := Y.runA 60 (fun ct c => at_ ct [true, true, true, true, false, true, false, true, true, true, true, true, true, true, true, true, true, true, true, true] c) ⟨[(4, .ad (.loc 4) 0), (5, .ad (.loc 5) 0), (42, .i IntKind.i64 t42), (81, .b t81)], [(4, cells 71 f), (5, cells 111 i)], [], [], []⟩
theorem R.l7InsOk_eq (c : TCode) (f : TFn) (i : TIns) : R.l7InsOk c f i =
  (R.l7In i.gOp 1 16).bind fun (r0 : Bool) =>
 bif !r0 then
  some false
 else
 (R.l7HasA i.gOp).bind fun (r1 : Bool) =>
  bif !r1 then
   bif i.gA != 0 then
    some false
   else
   bif i.gOp == 1 then
     (R.ValidValue (TValue.mk i.gA i.gN i.gText)).bind fun (r2 : Bool) =>
     some r2
    else
    bif i.gN != 0 then
      some false
     else
     bif !bEq i.gText ((⟨#[]⟩ : ByteArray)) then
       some false
      else
      bif i.gOp == 2 then
        R.l7InsOk.l501 i.gOp (i.gOp == 2) c f i
       else
       R.l7InsOk.l501 i.gOp (i.gOp == 3) c f i
  else
  bif i.gOp == 1 then
    (R.ValidValue (TValue.mk i.gA i.gN i.gText)).bind fun (r2 : Bool) =>
    some r2
   else
   bif i.gN != 0 then
     some false
    else
    bif !bEq i.gText ((⟨#[]⟩ : ByteArray)) then
      some false
     else
     bif i.gOp == 2 then
       R.l7InsOk.l501 i.gOp (i.gOp == 2) c f i
      else
      R.l7InsOk.l501 i.gOp (i.gOp == 3) c f i :=
  (fnA_eq 60 [PV.st (cells 41 c), PV.st (cells 71 f), PV.st (cells 111 i)] rfl).trans (by kernel_rfl)
theorem R.l7InsOk.l501_eq (t42 : Int) (t43 : Bool) (c : TCode) (f : TFn) (i : TIns) : R.l7InsOk.l501 t42 t43 c f i =
  bif t43 then
  (R.l7In i.gA 0 (IntKind.i64.wrap (f.gSlots - 1))).bind fun (r0 : Bool) =>
  some r0
 else
 bif t42 == 5 then
   (R.l7In i.gA 1 3).bind fun (r0 : Bool) =>
   some r0
  else
  bif t42 == 6 then
    (R.l7In i.gA 3 18).bind fun (r0 : Bool) =>
    some r0
   else
   bif t42 == 7 then
     (R.l1Integer i.gA).bind fun (r0 : Bool) =>
     some r0
    else
    bif t42 == 8 then
      (R.l7In i.gA 1 12).bind fun (r0 : Bool) =>
      some r0
     else
     bif t42 == 9 then
       (R.l7In i.gA 0 (IntKind.i64.wrap ((↑c.gFns.length : Int) - 1))).bind fun (r0 : Bool) =>
       some r0
      else
      bif t42 == 10 then
        R.l7InsOk.l2056191 t42 (t42 == 10) f i
       else
       R.l7InsOk.l2056191 t42 (t42 == 11) f i :=
  (runA_eq 60 _ _).trans (by kernel_rfl)
theorem R.l7InsOk.l2056191_eq (t42 : Int) (t81 : Bool) (f : TFn) (i : TIns) : R.l7InsOk.l2056191 t42 t81 f i =
  bif t81 then
  (R.l7In i.gA 0 (↑f.gIns.length : Int)).bind fun (r0 : Bool) =>
  some r0
 else
 bif t42 == 12 then
   bif i.gA == 1 then
    bif f.gResult != 0 then
     some true
    else
    bif i.gA == 0 then
      some (f.gResult == 0)
     else
     some false
   else
   bif i.gA == 0 then
     some (f.gResult == 0)
    else
    some false
  else
  some true :=
  (runA_eq 60 _ _).trans (by kernel_rfl)
noncomputable def R.l7Main.l52 (i : Int) (c : TCode) : Option Int := Y.runA 61 (fun ct c => at_ ct [true, false, true, false, false] c) ⟨[(1, .ad (.loc 1) 0), (3, .i IntKind.i64 i)], [(1, cells 41 c)], [], [], []⟩
theorem R.l7Main_eq (c : TCode) : R.l7Main c =
  R.l7Main.l52 0 c :=
  (fnA_eq 61 [PV.st (cells 41 c)] rfl).trans (by kernel_rfl)
theorem R.l7Main.l52_eq (i : Int) (c : TCode) : R.l7Main.l52 i c =
  bif decide (i < (↑c.gFns.length : Int)) then
  bif inB i c.gFns.length then
   bif bEq (c.gFns.getD i.toNat TFn.z).gName ((⟨#[109, 97, 105, 110]⟩ : ByteArray)) then
    bif inB i c.gFns.length then
     bif (↑(c.gFns.getD i.toNat TFn.z).gParams.length : Int) == 0 then
      bif inB i c.gFns.length then
       bif (c.gFns.getD i.toNat TFn.z).gResult == 2 then
        some i
       else
       R.l7Main.l52 (IntKind.i64.wrap (i + 1)) c
      else
      none
     else
     R.l7Main.l52 (IntKind.i64.wrap (i + 1)) c
    else
    none
   else
   R.l7Main.l52 (IntKind.i64.wrap (i + 1)) c
  else
  none
 else
 some (-1) :=
  (runA_eq 61 _ _).trans (by kernel_rfl)
noncomputable def R.l7Plain.l116 (k : Int) (c : TCode) : Option ((Int × (Int × Int))) := Y.runA 30 (fun ct c => at_ ct [true, true, false, true, false, false] c) ⟨[(1, .ad (.loc 1) 0), (5, .i IntKind.i64 k)], [(1, cells 41 c)], [], [], []⟩
noncomputable def R.l7Plain.l244 (k : Int) (c : TCode) : Option ((Int × (Int × Int))) := Y.runA 30 (fun ct c => at_ ct [true, true, true, false, true, false, false] c) ⟨[(1, .ad (.loc 1) 0), (6, .i IntKind.i64 k)], [(1, cells 41 c)], [], [], []⟩
noncomputable def R.l7Plain.l15652 (k : Int) (i : Int) (c : TCode) : Option ((Int × (Int × Int))) := Y.runA 30 (fun ct c => at_ ct [true, true, true, false, true, false, false, true, false, false, true, false, false] c) ⟨[(1, .ad (.loc 1) 0), (6, .i IntKind.i64 k), (7, .i IntKind.i64 i)], [(1, cells 41 c)], [], [], []⟩
theorem R.l7Plain_eq (c : TCode) : R.l7Plain c =
  (R.l7In (↑c.gFns.length : Int) 1 60).bind fun (r0 : Bool) =>
 bif !r0 then
  some (1, (0, 0))
 else
 R.l7Plain.l116 0 c :=
  (fnA_eq 30 [PV.st (cells 41 c)] rfl).trans (by kernel_rfl)
theorem R.l7Plain.l116_eq (k : Int) (c : TCode) : R.l7Plain.l116 k c =
  bif decide (k < (↑c.gFns.length : Int)) then
  (R.l7FnOk c k).bind fun (r0 : Bool) =>
  bif !r0 then
   some (2, (k, 0))
  else
  R.l7Plain.l116 (IntKind.i64.wrap (k + 1)) c
 else
 R.l7Plain.l244 0 c :=
  (runA_eq 30 _ _).trans (by kernel_rfl)
theorem R.l7Plain.l244_eq (k : Int) (c : TCode) : R.l7Plain.l244 k c =
  bif decide (k < (↑c.gFns.length : Int)) then
  R.l7Plain.l15652 k 0 c
 else
 (R.l7Main c).bind fun (r0 : Int) =>
  bif decide (r0 < 0) then
   some (4, (0, 0))
  else
  some (0, (0, 0)) :=
  (runA_eq 30 _ _).trans (by kernel_rfl)
theorem R.l7Plain.l15652_eq (k : Int) (i : Int) (c : TCode) : R.l7Plain.l15652 k i c =
  bif inB k c.gFns.length then
  bif decide (i < (↑(c.gFns.getD k.toNat TFn.z).gIns.length : Int)) then
   bif inB k c.gFns.length then
    bif inB k c.gFns.length then
     bif inB i (c.gFns.getD k.toNat TFn.z).gIns.length then
      (R.l7InsOk c (c.gFns.getD k.toNat TFn.z) ((c.gFns.getD k.toNat TFn.z).gIns.getD i.toNat TIns.z)).bind fun (r0 : Bool) =>
      bif !r0 then
       some (3, (k, i))
      else
      R.l7Plain.l15652 k (IntKind.i64.wrap (i + 1)) c
     else
     none
    else
    none
   else
   none
  else
  R.l7Plain.l244 (IntKind.i64.wrap (k + 1)) c
 else
 none :=
  (runA_eq 30 _ _).trans (by kernel_rfl)
theorem R.l3Un_eq (op : Int) (a : Int) : R.l3Un op a =
  bif op == 2 then
  bif a == 1 then
   some a
  else
  some 0
 else
 (R.l1Integer a).bind fun (r0 : Bool) =>
  bif r0 then
   some a
  else
  some 0 :=
  (fnA_eq 97 [PV.i IntKind.i64 op, PV.i IntKind.i64 a] rfl).trans (by kernel_rfl)
noncomputable def R.l3Bin.l117 (a : Int) (t14 : Int) (t15 : Bool) : Option Int := Y.runA 98 (fun ct c => at_ ct [true, true, false, true, false, true] c) ⟨[(1, .i IntKind.i64 a), (14, .i IntKind.i64 t14), (15, .b t15)], [], [], [], []⟩
noncomputable def R.l3Bin.l471 (a : Int) (t14 : Int) (t21 : Bool) : Option Int := Y.runA 98 (fun ct c => at_ ct [true, true, false, true, false, true, true, true] c) ⟨[(1, .i IntKind.i64 a), (14, .i IntKind.i64 t14), (21, .b t21)], [], [], [], []⟩
noncomputable def R.l3Bin.l1887 (a : Int) (t14 : Int) (t24 : Bool) : Option Int := Y.runA 98 (fun ct c => at_ ct [true, true, false, true, false, true, true, true, true, true] c) ⟨[(1, .i IntKind.i64 a), (14, .i IntKind.i64 t14), (24, .b t24)], [], [], [], []⟩
theorem R.l3Bin_eq (op : Int) (a : Int) (b : Int) : R.l3Bin op a b =
  bif a != b then
  some 0
 else
 bif a == 0 then
   some 0
  else
  bif op == 1 then
    R.l3Bin.l117 a op (op == 1)
   else
   R.l3Bin.l117 a op (op == 2) :=
  (fnA_eq 98 [PV.i IntKind.i64 op, PV.i IntKind.i64 a, PV.i IntKind.i64 b] rfl).trans (by kernel_rfl)
theorem R.l3Bin.l117_eq (a : Int) (t14 : Int) (t15 : Bool) : R.l3Bin.l117 a t14 t15 =
  bif t15 then
  bif a == 1 then
   some a
  else
  some 0
 else
 bif t14 == 3 then
   R.l3Bin.l471 a t14 (t14 == 3)
  else
  R.l3Bin.l471 a t14 (t14 == 4) :=
  (runA_eq 98 _ _).trans (by kernel_rfl)
theorem R.l3Bin.l471_eq (a : Int) (t14 : Int) (t21 : Bool) : R.l3Bin.l471 a t14 t21 =
  bif t21 then
  some 1
 else
 bif t14 == 5 then
   R.l3Bin.l1887 a t14 (t14 == 5)
  else
  bif t14 == 6 then
    R.l3Bin.l1887 a t14 (t14 == 6)
   else
   bif t14 == 7 then
     R.l3Bin.l1887 a t14 (t14 == 7)
    else
    R.l3Bin.l1887 a t14 (t14 == 8) :=
  (runA_eq 98 _ _).trans (by kernel_rfl)
theorem R.l3Bin.l1887_eq (a : Int) (t14 : Int) (t24 : Bool) : R.l3Bin.l1887 a t14 t24 =
  bif t24 then
  bif a != 1 then
   some 1
  else
  some 0
 else
 bif t14 == 9 then
   bif a != 1 then
    some a
   else
   some 0
  else
  (R.l1Integer a).bind fun (r0 : Bool) =>
   bif r0 then
    some a
   else
   some 0 :=
  (runA_eq 98 _ _).trans (by kernel_rfl)
noncomputable def R.l3Wants.l53 (t4 : Int) (t5 : Bool) : Option ((List Int × Int)) := Y.runA 131 (fun ct c => at_ ct [true, false, true, false, true] c) ⟨[(4, .i IntKind.i64 t4), (5, .b t5)], [], [], [], []⟩
noncomputable def R.l3Wants.l13823 (t4 : Int) (t18 : Bool) : Option ((List Int × Int)) := Y.runA 131 (fun ct c => at_ ct [true, false, true, false, true, true, true, true, true, true, true, true, true] c) ⟨[(4, .i IntKind.i64 t4), (18, .b t18)], [], [], [], []⟩
theorem R.l3Wants_eq (op : Int) : R.l3Wants op =
  bif op == 1 then
  R.l3Wants.l53 op (op == 1)
 else
 R.l3Wants.l53 op (op == 3) :=
  (fnA_eq 131 [PV.i IntKind.i64 op] rfl).trans (by kernel_rfl)
theorem R.l3Wants.l53_eq (t4 : Int) (t5 : Bool) : R.l3Wants.l53 t4 t5 =
  bif t5 then
  some ([2], 2)
 else
 bif t4 == 2 then
   some ([2], 1)
  else
  bif t4 == 4 then
    some ([2, 2], 2)
   else
   bif t4 == 5 then
     some ([], 2)
    else
    bif t4 == 6 then
      R.l3Wants.l13823 t4 (t4 == 6)
     else
     R.l3Wants.l13823 t4 (t4 == 12) :=
  (runA_eq 131 _ _).trans (by kernel_rfl)
theorem R.l3Wants.l13823_eq (t4 : Int) (t18 : Bool) : R.l3Wants.l13823 t4 t18 =
  bif t18 then
  some ([2], 10)
 else
 bif t4 == 7 then
   some ([2, 10], 3)
  else
  bif t4 == 8 then
    some ([2, 10, 10], 2)
   else
   bif t4 == 9 then
     some ([2, 2], 10)
    else
    bif t4 == 10 then
      some ([3], 2)
     else
     some ([0], 2) :=
  (runA_eq 131 _ _).trans (by kernel_rfl)
noncomputable def R.l3Built.l244 (have_ : List Int) (want : List Int) (gives : Int) (i : Int) : Option Int := Y.runA 99 (fun ct c => at_ ct [true, true, true, false, true, false, false] c) ⟨[(1, .fl 3 have_), (5, .fl 3 want), (6, .i IntKind.i64 gives), (7, .i IntKind.i64 i)], [], [], [], []⟩
theorem R.l3Built_eq (op : Int) (have_ : List Int) : R.l3Built op have_ =
  (R.l3Wants op).bind fun (r0 : (List Int × Int)) =>
 bif (↑(List.length r0.fst) : Int) != (↑have_.length : Int) then
  some 0
 else
 R.l3Built.l244 have_ r0.fst r0.snd 0 :=
  (fnA_eq 99 [PV.i IntKind.i64 op, PV.fl 3 have_] rfl).trans (by kernel_rfl)
theorem R.l3Built.l244_eq (have_ : List Int) (want : List Int) (gives : Int) (i : Int) : R.l3Built.l244 have_ want gives i =
  bif decide (i < (↑(List.length want) : Int)) then
  bif inB i have_.length then
   bif inB i (List.length want) then
    bif have_.getD i.toNat 0 != List.getD want i.toNat 0 then
     bif inB i (List.length want) then
      bif List.getD want i.toNat 0 != 0 then
       some 0
      else
      bif inB i have_.length then
        (R.l1Integer (have_.getD i.toNat 0)).bind fun (r0 : Bool) =>
        bif !r0 then
         some 0
        else
        R.l3Built.l244 have_ want gives (IntKind.i64.wrap (i + 1))
       else
       none
     else
     none
    else
    R.l3Built.l244 have_ want gives (IntKind.i64.wrap (i + 1))
   else
   none
  else
  none
 else
 some gives :=
  (runA_eq 99 _ _).trans (by kernel_rfl)
noncomputable def R.l7Gives.l63 (n : Int) (top : Int) (below : Int) (c : TCode) (f : TFn) (i : TIns) (s : TShape) : Option ((Int × (List Int × Bool))) := Y.runA 64 (fun ct c => at_ ct [true, true, true, true, true] c) ⟨[(4, .ad (.loc 4) 0), (5, .ad (.loc 5) 0), (6, .ad (.loc 6) 0), (7, .ad (.loc 7) 0), (11, .i IntKind.i64 n), (12, .i IntKind.i64 top), (13, .i IntKind.i64 below)], [(4, cells 41 c), (5, cells 71 f), (6, cells 111 i), (7, cells 67 s)], [], [], []⟩
noncomputable def R.l7Gives.l127 (n : Int) (top : Int) (below : Int) (c : TCode) (f : TFn) (i : TIns) (s : TShape) : Option ((Int × (List Int × Bool))) := Y.runA 64 (fun ct c => at_ ct [true, true, true, true, true, true] c) ⟨[(4, .ad (.loc 4) 0), (5, .ad (.loc 5) 0), (6, .ad (.loc 6) 0), (7, .ad (.loc 7) 0), (11, .i IntKind.i64 n), (12, .i IntKind.i64 top), (13, .i IntKind.i64 below)], [(4, cells 41 c), (5, cells 71 f), (6, cells 111 i), (7, cells 67 s)], [], [], []⟩
noncomputable def R.l7Gives.l32607 (n : Int) (top : Int) (below : Int) (t42 : Int) (t64 : Bool) (c : TCode) (f : TFn) (i : TIns) (s : TShape) : Option ((Int × (List Int × Bool))) := Y.runA 64 (fun ct c => at_ ct [true, true, true, true, true, true, false, true, false, true, true, true, true, true] c) ⟨[(4, .ad (.loc 4) 0), (5, .ad (.loc 5) 0), (6, .ad (.loc 6) 0), (7, .ad (.loc 7) 0), (11, .i IntKind.i64 n), (12, .i IntKind.i64 top), (13, .i IntKind.i64 below), (42, .i IntKind.i64 t42), (64, .b t64)], [(4, cells 41 c), (5, cells 71 f), (6, cells 111 i), (7, cells 67 s)], [], [], []⟩
noncomputable def R.l7Gives.l8547991412 (n : Int) (k : Int) (j : Int) (s : TShape) (g : TFn) : Option ((Int × (List Int × Bool))) := Y.runA 64 (fun ct c => at_ ct [true, true, true, true, true, true, false, true, false, true, true, true, true, true, true, true, true, true, true, true, true, true, true, true, false, true, true, true, false, true, false, false] c) ⟨[(7, .ad (.loc 7) 0), (11, .i IntKind.i64 n), (19, .ad (.loc 19) 0), (20, .i IntKind.i64 k), (21, .i IntKind.i64 j)], [(7, cells 67 s), (19, cells 71 g)], [], [], []⟩
noncomputable def R.l7Gives.l2136997887 (top : Int) (below : Int) (t42 : Int) (t192 : Bool) : Option ((Int × (List Int × Bool))) := Y.runA 64 (fun ct c => at_ ct [true, true, true, true, true, true, false, true, false, true, true, true, true, true, true, true, true, true, true, true, true, true, true, true, true, true, true, true, true, true] c) ⟨[(12, .i IntKind.i64 top), (13, .i IntKind.i64 below), (42, .i IntKind.i64 t42), (192, .b t192)], [], [], [], []⟩
theorem R.l7Gives_eq (c : TCode) (f : TFn) (i : TIns) (s : TShape) : R.l7Gives c f i s =
  bif decide ((↑s.gStack.length : Int) > 0) then
  bif inB (IntKind.i64.wrap ((↑s.gStack.length : Int) - 1)) s.gStack.length then
   R.l7Gives.l63 (↑s.gStack.length : Int) (s.gStack.getD (IntKind.i64.wrap ((↑s.gStack.length : Int) - 1)).toNat 0) 0 c f i s
  else
  none
 else
 R.l7Gives.l63 (↑s.gStack.length : Int) 0 0 c f i s :=
  (fnA_eq 64 [PV.st (cells 41 c), PV.st (cells 71 f), PV.st (cells 111 i), PV.st (cells 67 s)] rfl).trans (by kernel_rfl)
theorem R.l7Gives.l63_eq (n : Int) (top : Int) (below : Int) (c : TCode) (f : TFn) (i : TIns) (s : TShape) : R.l7Gives.l63 n top below c f i s =
  bif decide (n > 1) then
  bif inB (IntKind.i64.wrap (n - 2)) s.gStack.length then
   R.l7Gives.l127 n top (s.gStack.getD (IntKind.i64.wrap (n - 2)).toNat 0) c f i s
  else
  none
 else
 R.l7Gives.l127 n top below c f i s :=
  (runA_eq 64 _ _).trans (by kernel_rfl)
theorem R.l7Gives.l127_eq (n : Int) (top : Int) (below : Int) (c : TCode) (f : TFn) (i : TIns) (s : TShape) : R.l7Gives.l127 n top below c f i s =
  bif i.gOp == 1 then
  some (0, ([i.gA], true))
 else
 bif i.gOp == 2 then
   bif inB i.gA s.gSlots.length then
    bif inB i.gA s.gSlots.length then
     some (0, ([s.gSlots.getD i.gA.toNat 0], s.gSlots.getD i.gA.toNat 0 != 0))
    else
    none
   else
   none
  else
  bif i.gOp == 3 then
    R.l7Gives.l32607 n top below i.gOp (i.gOp == 3) c f i s
   else
   R.l7Gives.l32607 n top below i.gOp (i.gOp == 4) c f i s :=
  (runA_eq 64 _ _).trans (by kernel_rfl)
theorem R.l7Gives.l32607_eq (n : Int) (top : Int) (below : Int) (t42 : Int) (t64 : Bool) (c : TCode) (f : TFn) (i : TIns) (s : TShape) : R.l7Gives.l32607 n top below t42 t64 c f i s =
  bif t64 then
  some (1, ([], decide (n > 0)))
 else
 bif t42 == 5 then
   (R.l3Un i.gA top).bind fun (r0 : Int) =>
   some (1, ([r0], r0 != 0))
  else
  bif t42 == 6 then
    (R.l3Bin i.gA below top).bind fun (r0 : Int) =>
    some (2, ([r0], r0 != 0))
   else
   bif t42 == 7 then
     (R.l1Integer top).bind fun (r0 : Bool) =>
     some (1, ([i.gA], r0))
    else
    bif t42 == 8 then
      (R.l1BuiltWord i.gA).bind fun (r0 : (ByteArray × Int)) =>
      bif decide (r0.snd > n) then
       some (0, ([], false))
      else
      bif inS (IntKind.i64.wrap (n - r0.snd)) (↑s.gStack.length : Int) s.gStack.length then
        (R.l3Built i.gA (sub s.gStack (IntKind.i64.wrap (n - r0.snd)) (↑s.gStack.length : Int))).bind fun (r1 : Int) =>
        some (r0.snd, ([r1], r1 != 0))
       else
       none
     else
     bif t42 == 9 then
       bif inB i.gA c.gFns.length then
        bif decide ((↑(c.gFns.getD i.gA.toNat TFn.z).gParams.length : Int) > n) then
         some (0, ([], false))
        else
        R.l7Gives.l8547991412 n (↑(c.gFns.getD i.gA.toNat TFn.z).gParams.length : Int) 0 s (c.gFns.getD i.gA.toNat TFn.z)
       else
       none
      else
      bif t42 == 11 then
        some (1, ([], top == 1))
       else
       bif t42 == 12 then
         bif i.gA == 0 then
          some (i.gA, ([], true))
         else
         bif decide (n > 0) then
           some (i.gA, ([], top == f.gResult))
          else
          some (i.gA, ([], false))
        else
        bif t42 == 13 then
          R.l7Gives.l2136997887 top below t42 (t42 == 13)
         else
         R.l7Gives.l2136997887 top below t42 (t42 == 15) :=
  (runA_eq 64 _ _).trans (by kernel_rfl)
theorem R.l7Gives.l8547991412_eq (n : Int) (k : Int) (j : Int) (s : TShape) (g : TFn) : R.l7Gives.l8547991412 n k j s g =
  bif decide (j < k) then
  bif inB (IntKind.i64.wrap (IntKind.i64.wrap (n - k) + j)) s.gStack.length then
   bif inB j g.gParams.length then
    bif s.gStack.getD (IntKind.i64.wrap (IntKind.i64.wrap (n - k) + j)).toNat 0 != g.gParams.getD j.toNat 0 then
     some (0, ([], false))
    else
    R.l7Gives.l8547991412 n k (IntKind.i64.wrap (j + 1)) s g
   else
   none
  else
  none
 else
 bif g.gResult == 0 then
   some (k, ([], true))
  else
  some (k, ([g.gResult], true)) :=
  (runA_eq 64 _ _).trans (by kernel_rfl)
theorem R.l7Gives.l2136997887_eq (top : Int) (below : Int) (t42 : Int) (t192 : Bool) : R.l7Gives.l2136997887 top below t42 t192 =
  bif t192 then
  some (1, ([], top == 2))
 else
 bif t42 == 14 then
   bif top == 2 then
    some (2, ([], below == 2))
   else
   some (2, ([], false))
  else
  some (0, ([], true)) :=
  (runA_eq 64 _ _).trans (by kernel_rfl)
noncomputable def R.l7Goes.l53 (at_0 : Int) (t6 : Int) (t7 : Bool) (i : TIns) : Option (List Int) := Y.runA 62 (fun ct c => at_ ct [true, false, true, false, true] c) ⟨[(1, .i IntKind.i64 at_0), (2, .ad (.loc 2) 0), (6, .i IntKind.i64 t6), (7, .b t7)], [(2, cells 111 i)], [], [], []⟩
theorem R.l7Goes_eq (i : TIns) (at_0 : Int) : R.l7Goes i at_0 =
  bif i.gOp == 12 then
  R.l7Goes.l53 at_0 i.gOp (i.gOp == 12) i
 else
 R.l7Goes.l53 at_0 i.gOp (i.gOp == 13) i :=
  (fnA_eq 62 [PV.st (cells 111 i), PV.i IntKind.i64 at_0] rfl).trans (by kernel_rfl)
theorem R.l7Goes.l53_eq (at_0 : Int) (t6 : Int) (t7 : Bool) (i : TIns) : R.l7Goes.l53 at_0 t6 t7 i =
  bif t7 then
  some ([])
 else
 bif t6 == 10 then
   some ([i.gA])
  else
  bif t6 == 11 then
    some ([i.gA, IntKind.i64.wrap (at_0 + 1)])
   else
   some ([IntKind.i64.wrap (at_0 + 1)]) :=
  (runA_eq 62 _ _).trans (by kernel_rfl)
noncomputable def R.l7Behind.l4084 (takes : Int) (puts : List Int) (goes : List Int) (k : Int) (f : TFn) (s : TShape) (t8 : TShape) (i : TIns) (bad : TShape) : Option TShape := Y.runA 32 (fun ct c => at_ ct [true, true, true, true, true, true, true, false, true, false, false] c) ⟨[(5, .ad (.loc 5) 0), (7, .ad (.loc 7) 0), (8, .ad (.loc 8) 0), (9, .ad (.loc 9) 0), (10, .ad (.loc 10) 0), (11, .i IntKind.i64 takes), (12, .fl 3 puts), (14, .fl 3 goes), (15, .i IntKind.i64 k)], [(5, cells 71 f), (7, cells 67 s), (8, cells 67 t8), (9, cells 111 i), (10, cells 67 bad)], [], [], []⟩
theorem R.l7Behind_eq (c : TCode) (f : TFn) (at_0 : Int) (s : TShape) : R.l7Behind c f at_0 s =
  bif inB at_0 f.gIns.length then
  bif s.gState != 1 then
   some (⟨2, [], []⟩ : TShape)
  else
  (R.l7Gives c f (f.gIns.getD at_0.toNat TIns.z) s).bind fun (r0 : (Int × (List Int × Bool))) =>
   bif !r0.snd.snd then
    some (⟨2, [], []⟩ : TShape)
   else
   bif decide (r0.fst > (↑s.gStack.length : Int)) then
     some (⟨2, [], []⟩ : TShape)
    else
    (R.l7Goes (f.gIns.getD at_0.toNat TIns.z) at_0).bind fun (r1 : List Int) =>
     R.l7Behind.l4084 r0.fst r0.snd.fst r1 0 f s (⟨0, [], []⟩ : TShape) (f.gIns.getD at_0.toNat TIns.z) (⟨2, [], []⟩ : TShape)
 else
 none :=
  (fnA_eq 32 [PV.st (cells 41 c), PV.st (cells 71 f), PV.i IntKind.i64 at_0, PV.st (cells 67 s)] rfl).trans (by kernel_rfl)
theorem R.l7Behind.l4084_eq (takes : Int) (puts : List Int) (goes : List Int) (k : Int) (f : TFn) (s : TShape) (t8 : TShape) (i : TIns) (bad : TShape) : R.l7Behind.l4084 takes puts goes k f s t8 i bad =
  bif decide (k < (↑(List.length goes) : Int)) then
  bif inB k (List.length goes) then
   bif decide (List.getD goes k.toNat 0 ≥ (↑f.gIns.length : Int)) then
    some (⟨bad.gState, bad.gSlots, bad.gStack⟩ : TShape)
   else
   R.l7Behind.l4084 takes puts goes (IntKind.i64.wrap (k + 1)) f s t8 i bad
  else
  none
 else
 bif room (0 + s.gSlots.length) 8 then
   bif inS 0 (IntKind.i64.wrap ((↑s.gStack.length : Int) - takes)) s.gStack.length then
    bif room (0 + (sub s.gStack 0 (IntKind.i64.wrap ((↑s.gStack.length : Int) - takes))).length) 8 then
     bif room ((sub s.gStack 0 (IntKind.i64.wrap ((↑s.gStack.length : Int) - takes))).length + List.length puts) 8 then
      bif decide ((↑(sub s.gStack 0 (IntKind.i64.wrap ((↑s.gStack.length : Int) - takes)) ++ puts).length : Int) > 600) then
       some (⟨bad.gState, bad.gSlots, bad.gStack⟩ : TShape)
      else
      bif i.gOp == 3 then
        bif inB (IntKind.i64.wrap ((↑s.gStack.length : Int) - 1)) s.gStack.length then
         bif inB i.gA s.gSlots.length then
          some (⟨1, s.gSlots.set i.gA.toNat (s.gStack.getD (IntKind.i64.wrap ((↑s.gStack.length : Int) - 1)).toNat 0), sub s.gStack 0 (IntKind.i64.wrap ((↑s.gStack.length : Int) - takes)) ++ puts⟩ : TShape)
         else
         none
        else
        none
       else
       some (⟨1, s.gSlots, sub s.gStack 0 (IntKind.i64.wrap ((↑s.gStack.length : Int) - takes)) ++ puts⟩ : TShape)
     else
     none
    else
    none
   else
   none
  else
  none :=
  (runA_eq 32 _ _).trans (by kernel_rfl)
noncomputable def R.l7SameInts.l116 (a : List Int) (b : List Int) (i : Int) : Option Bool := Y.runA 96 (fun ct c => at_ ct [true, true, false, true, false, false] c) ⟨[(0, .fl 3 a), (1, .fl 3 b), (5, .i IntKind.i64 i)], [], [], [], []⟩
theorem R.l7SameInts_eq (a : List Int) (b : List Int) : R.l7SameInts a b =
  bif (↑a.length : Int) != (↑b.length : Int) then
  some false
 else
 R.l7SameInts.l116 a b 0 :=
  (fnA_eq 96 [PV.fl 3 a, PV.fl 3 b] rfl).trans (by kernel_rfl)
theorem R.l7SameInts.l116_eq (a : List Int) (b : List Int) (i : Int) : R.l7SameInts.l116 a b i =
  bif decide (i < (↑a.length : Int)) then
  bif inB i a.length then
   bif inB i b.length then
    bif a.getD i.toNat 0 != b.getD i.toNat 0 then
     some false
    else
    R.l7SameInts.l116 a b (IntKind.i64.wrap (i + 1))
   else
   none
  else
  none
 else
 some true :=
  (runA_eq 96 _ _).trans (by kernel_rfl)
noncomputable def R.l7Join.l2036 (changed : Bool) (i : Int) (a : TShape) (b : TShape) (t4 : TShape) (out : Int) (out_1 : List Int) (out_2 : List Int) : Option ((TShape × Bool)) := Y.runA 63 (fun ct c => at_ ct [true, true, true, true, true, true, false, true, false, false] c) ⟨[(2, .ad (.loc 2) 0), (3, .ad (.loc 3) 0), (4, .ad (.loc 4) 0), (6, .ad (.loc 6) 0), (7, .b changed), (8, .i IntKind.i64 i)], [(2, cells 67 a), (3, cells 67 b), (4, cells 67 t4), (6, [.i IntKind.i64 out, .ol 3 out_1, .fl 3 out_2])], [], [], []⟩
theorem R.l7Join_eq (a : TShape) (b : TShape) : R.l7Join a b =
  bif b.gState == 0 then
  some ((⟨a.gState, a.gSlots, a.gStack⟩ : TShape), false)
 else
 bif a.gState == 2 then
   some ((⟨a.gState, a.gSlots, a.gStack⟩ : TShape), false)
  else
  bif a.gState == 0 then
    some ((⟨b.gState, b.gSlots, b.gStack⟩ : TShape), true)
   else
   bif b.gState == 2 then
     some ((⟨b.gState, b.gSlots, b.gStack⟩ : TShape), true)
    else
    (R.l7SameInts a.gStack b.gStack).bind fun (r0 : Bool) =>
     bif !r0 then
      some ((⟨2, [], []⟩ : TShape), true)
     else
     R.l7Join.l2036 false 0 a b (⟨0, [], []⟩ : TShape) 1 ([]) a.gStack :=
  (fnA_eq 63 [PV.st (cells 67 a), PV.st (cells 67 b)] rfl).trans (by kernel_rfl)
theorem R.l7Join.l2036_eq (changed : Bool) (i : Int) (a : TShape) (b : TShape) (t4 : TShape) (out : Int) (out_1 : List Int) (out_2 : List Int) : R.l7Join.l2036 changed i a b t4 out out_1 out_2 =
  bif decide (i < (↑a.gSlots.length : Int)) then
  bif inB i a.gSlots.length then
   bif inB i b.gSlots.length then
    bif a.gSlots.getD i.toNat 0 != b.gSlots.getD i.toNat 0 then
     bif a.gSlots.getD i.toNat 0 != 0 then
      bif room (out_1.length + [0].length) 8 then
       R.l7Join.l2036 true (IntKind.i64.wrap (i + 1)) a b t4 out (out_1 ++ [0]) out_2
      else
      none
     else
     bif room (out_1.length + [a.gSlots.getD i.toNat 0].length) 8 then
       R.l7Join.l2036 changed (IntKind.i64.wrap (i + 1)) a b t4 out (out_1 ++ [a.gSlots.getD i.toNat 0]) out_2
      else
      none
    else
    bif room (out_1.length + [a.gSlots.getD i.toNat 0].length) 8 then
      R.l7Join.l2036 changed (IntKind.i64.wrap (i + 1)) a b t4 out (out_1 ++ [a.gSlots.getD i.toNat 0]) out_2
     else
     none
   else
   none
  else
  none
 else
 some ((⟨out, out_1, out_2⟩ : TShape), changed) :=
  (runA_eq 63 _ _).trans (by kernel_rfl)
noncomputable def R.l7Shapes.l248 (out : List TShape) (c : TCode) (f : TFn) (first : Int) (first_1 : List Int) (first_2 : List Int) : Option (List TShape) := Y.runA 31 (fun ct c => at_ ct [true, true, true, true, false, false, false] c) ⟨[(2, .ad (.loc 2) 0), (5, .ad (.loc 5) 0), (6, .ol 67 out), (7, .ad (.loc 7) 0)], [(2, cells 41 c), (5, cells 71 f), (7, [.i IntKind.i64 first, .ol 3 first_1, .fl 3 first_2])], [], [], []⟩
noncomputable def R.l7Shapes.l2036 (out : List TShape) (again : Bool) (c : TCode) (f : TFn) : Option (List TShape) := Y.runA 31 (fun ct c => at_ ct [true, true, true, true, true, true, false, true, false, false] c) ⟨[(2, .ad (.loc 2) 0), (5, .ad (.loc 5) 0), (6, .ol 67 out), (8, .b again)], [(2, cells 41 c), (5, cells 71 f)], [], [], []⟩
noncomputable def R.l7Shapes.l130348 (out : List TShape) (again : Bool) (i : Int) (c : TCode) (f : TFn) : Option (List TShape) := Y.runA 31 (fun ct c => at_ ct [true, true, true, true, true, true, false, true, false, false, true, false, true, true, false, false] c) ⟨[(2, .ad (.loc 2) 0), (5, .ad (.loc 5) 0), (6, .ol 67 out), (8, .b again), (9, .i IntKind.i64 i)], [(2, cells 41 c), (5, cells 71 f)], [], [], []⟩
noncomputable def R.l7Shapes.l66738492 (out : List TShape) (again : Bool) (i : Int) (goes : List Int) (k : Int) (c : TCode) (f : TFn) (s : TShape) : Option (List TShape) := Y.runA 31 (fun ct c => at_ ct [true, true, true, true, true, true, false, true, false, false, true, false, true, true, false, false, true, false, false, true, true, true, true, false, false] c) ⟨[(2, .ad (.loc 2) 0), (5, .ad (.loc 5) 0), (6, .ol 67 out), (8, .b again), (9, .i IntKind.i64 i), (10, .ad (.loc 10) 0), (11, .fl 3 goes), (12, .i IntKind.i64 k)], [(2, cells 41 c), (5, cells 71 f), (10, cells 67 s)], [], [], []⟩
theorem R.l7Shapes_eq (c : TCode) (fn : Int) : R.l7Shapes c fn =
  bif inB fn c.gFns.length then
  bif decide (0 ≤ (↑(c.gFns.getD fn.toNat TFn.z).gIns.length : Int)) && (↑(c.gFns.getD fn.toNat TFn.z).gIns.length : Int) == (↑(c.gFns.getD fn.toNat TFn.z).gIns.length : Int) && room (c.gFns.getD fn.toNat TFn.z).gIns.length 56 then
   bif room (0 + (c.gFns.getD fn.toNat TFn.z).gParams.length) 8 then
    R.l7Shapes.l248 (List.replicate (c.gFns.getD fn.toNat TFn.z).gIns.length (TShape.mk 0 [] [])) c (c.gFns.getD fn.toNat TFn.z) 1 ((c.gFns.getD fn.toNat TFn.z).gParams) ([])
   else
   none
  else
  none
 else
 none :=
  (fnA_eq 31 [PV.st (cells 41 c), PV.i IntKind.i64 fn] rfl).trans (by kernel_rfl)
theorem R.l7Shapes.l248_eq (out : List TShape) (c : TCode) (f : TFn) (first : Int) (first_1 : List Int) (first_2 : List Int) : R.l7Shapes.l248 out c f first first_1 first_2 =
  bif decide ((↑first_1.length : Int) < f.gSlots) then
  bif room (first_1.length + [0].length) 8 then
   R.l7Shapes.l248 out c f first (first_1 ++ [0]) first_2
  else
  none
 else
 bif inB 0 out.length then
   R.l7Shapes.l2036 (out.set 0 (TShape.mk first first_1 first_2)) true c f
  else
  none :=
  (runA_eq 31 _ _).trans (by kernel_rfl)
theorem R.l7Shapes.l2036_eq (out : List TShape) (again : Bool) (c : TCode) (f : TFn) : R.l7Shapes.l2036 out again c f =
  bif again then
  R.l7Shapes.l130348 out false 0 c f
 else
 some out :=
  (runA_eq 31 _ _).trans (by kernel_rfl)
theorem R.l7Shapes.l130348_eq (out : List TShape) (again : Bool) (i : Int) (c : TCode) (f : TFn) : R.l7Shapes.l130348 out again i c f =
  bif decide (i < (↑out.length : Int)) then
  bif inB i out.length then
   bif (out.getD i.toNat TShape.z).gState == 0 then
    R.l7Shapes.l130348 out again (IntKind.i64.wrap (i + 1)) c f
   else
   bif inB i out.length then
     (R.l7Behind c f i (out.getD i.toNat TShape.z)).bind fun (r0 : TShape) =>
     bif inB i f.gIns.length then
      (R.l7Goes (f.gIns.getD i.toNat TIns.z) i).bind fun (r1 : List Int) =>
      R.l7Shapes.l66738492 out again i r1 0 c f r0
     else
     none
    else
    none
  else
  none
 else
 R.l7Shapes.l2036 out again c f :=
  (runA_eq 31 _ _).trans (by kernel_rfl)
theorem R.l7Shapes.l66738492_eq (out : List TShape) (again : Bool) (i : Int) (goes : List Int) (k : Int) (c : TCode) (f : TFn) (s : TShape) : R.l7Shapes.l66738492 out again i goes k c f s =
  bif decide (k < (↑(List.length goes) : Int)) then
  bif inB k (List.length goes) then
   bif decide (List.getD goes k.toNat 0 < (↑out.length : Int)) then
    bif inB k (List.length goes) then
     bif inB (List.getD goes k.toNat 0) out.length then
      (R.l7Join (out.getD (Int.toNat (List.getD goes k.toNat 0)) TShape.z) s).bind fun (r0 : (TShape × Bool)) =>
      bif inB k (List.length goes) then
       bif inB (List.getD goes k.toNat 0) out.length then
        bif again then
         R.l7Shapes.l66738492 (out.set (Int.toNat (List.getD goes k.toNat 0)) (TShape.mk r0.fst.gState r0.fst.gSlots r0.fst.gStack)) true i goes (IntKind.i64.wrap (k + 1)) c f s
        else
        R.l7Shapes.l66738492 (out.set (Int.toNat (List.getD goes k.toNat 0)) (TShape.mk r0.fst.gState r0.fst.gSlots r0.fst.gStack)) r0.snd i goes (IntKind.i64.wrap (k + 1)) c f s
       else
       none
      else
      none
     else
     none
    else
    none
   else
   R.l7Shapes.l66738492 out again i goes (IntKind.i64.wrap (k + 1)) c f s
  else
  none
 else
 R.l7Shapes.l130348 out again (IntKind.i64.wrap (i + 1)) c f :=
  (runA_eq 31 _ _).trans (by kernel_rfl)
noncomputable def R.CheckCode.l244 (fn : Int) (c : TCode) : Option ((Int × (Int × Int))) := Y.runA 13 (fun ct c => at_ ct [true, true, true, false, true, false, false] c) ⟨[(1, .ad (.loc 1) 0), (8, .i IntKind.i64 fn)], [(1, cells 41 c)], [], [], []⟩
noncomputable def R.CheckCode.l31308 (fn : Int) (shapes : List TShape) (at_0 : Int) (c : TCode) : Option ((Int × (Int × Int))) := Y.runA 13 (fun ct c => at_ ct [true, true, true, false, true, false, false, true, false, false, true, true, false, false] c) ⟨[(1, .ad (.loc 1) 0), (8, .i IntKind.i64 fn), (9, .fl 67 shapes), (10, .i IntKind.i64 at_0)], [(1, cells 41 c)], [], [], []⟩
theorem R.CheckCode_eq (c : TCode) : R.CheckCode c =
  (R.l7Plain c).bind fun (r0 : (Int × (Int × Int))) =>
 bif r0.fst != 0 then
  some (r0.fst, (r0.snd.fst, r0.snd.snd))
 else
 R.CheckCode.l244 0 c :=
  (fnA_eq 13 [PV.st (cells 41 c)] rfl).trans (by kernel_rfl)
theorem R.CheckCode.l244_eq (fn : Int) (c : TCode) : R.CheckCode.l244 fn c =
  bif decide (fn < (↑c.gFns.length : Int)) then
  (R.l7Shapes c fn).bind fun (r0 : List TShape) =>
  R.CheckCode.l31308 fn r0 0 c
 else
 some (0, (0, 0)) :=
  (runA_eq 13 _ _).trans (by kernel_rfl)
theorem R.CheckCode.l31308_eq (fn : Int) (shapes : List TShape) (at_0 : Int) (c : TCode) : R.CheckCode.l31308 fn shapes at_0 c =
  bif decide (at_0 < (↑(List.length shapes) : Int)) then
  bif inB at_0 (List.length shapes) then
   bif (List.getD shapes at_0.toNat TShape.z).gState != 0 then
    bif inB fn c.gFns.length then
     bif inB at_0 (List.length shapes) then
      (R.l7Behind c (c.gFns.getD fn.toNat TFn.z) at_0 (List.getD shapes at_0.toNat TShape.z)).bind fun (r0 : TShape) =>
      bif r0.gState == 2 then
       some (5, (fn, at_0))
      else
      R.CheckCode.l31308 fn shapes (IntKind.i64.wrap (at_0 + 1)) c
     else
     none
    else
    none
   else
   R.CheckCode.l31308 fn shapes (IntKind.i64.wrap (at_0 + 1)) c
  else
  none
 else
 R.CheckCode.l244 (IntKind.i64.wrap (fn + 1)) c :=
  (runA_eq 13 _ _).trans (by kernel_rfl)
theorem R.l7Ok_eq (c : TCode) : R.l7Ok c =
  (R.CheckCode c).bind fun (r0 : (Int × (Int × Int))) =>
 some (r0.fst == 0) :=
  (fnA_eq 39 [PV.st (cells 41 c)] rfl).trans (by kernel_rfl)
noncomputable def R.l7Number.l24 (out : List Int) (n : Int) : Option (List Int) := Y.runA 77 (fun ct c => at_ ct [true, false, false, false] c) ⟨[(0, .ol 5 out), (1, .i IntKind.u64 n)], [], [], [], []⟩
theorem R.l7Number_eq (out : List Int) (n : Int) : R.l7Number out n =
  R.l7Number.l24 out n :=
  (fnA_eq 77 [PV.ol 5 out, PV.i IntKind.u64 n] rfl).trans (by kernel_rfl)
theorem R.l7Number.l24_eq (out : List Int) (n : Int) : R.l7Number.l24 out n =
  bif decide (n > 127) then
  bif room (out.length + [IntKind.u8.wrap (IntKind.u64.wrap (n.tmod 128 + 128))].length) 1 then
   R.l7Number.l24 (out ++ [IntKind.u8.wrap (IntKind.u64.wrap (n.tmod 128 + 128))]) (IntKind.u64.wrap (n.tdiv 128))
  else
  none
 else
 bif room (out.length + [IntKind.u8.wrap n].length) 1 then
   some (out ++ [IntKind.u8.wrap n])
  else
  none :=
  (runA_eq 77 _ _).trans (by kernel_rfl)
theorem R.l7Text_eq (out : List Int) (s : ByteArray) : R.l7Text out s =
  (R.l7Number out (IntKind.u64.wrap (↑s.size : Int))).bind fun (r0 : List Int) =>
 bif room (List.length r0 + s.size) 1 then
  some (r0 ++ strB s)
 else
 none :=
  (fnA_eq 78 [PV.ol 5 out, PV.s s] rfl).trans (by kernel_rfl)
noncomputable def R.l7Form.l244 (out : List Int) (k : Int) (c : TCode) : Option (List Int) := Y.runA 40 (fun ct c => at_ ct [true, true, true, false, true, false, false] c) ⟨[(1, .ad (.loc 1) 0), (3, .ol 5 out), (4, .i IntKind.i64 k)], [(1, cells 41 c)], [], [], []⟩
noncomputable def R.l7Form.l125236 (out : List Int) (k : Int) (i : Int) (c : TCode) (f : TFn) : Option (List Int) := Y.runA 40 (fun ct c => at_ ct [true, true, true, false, true, false, false, true, false, false, true, true, false, true, false, false] c) ⟨[(1, .ad (.loc 1) 0), (3, .ol 5 out), (4, .i IntKind.i64 k), (5, .ad (.loc 5) 0), (6, .i IntKind.i64 i)], [(1, cells 41 c), (5, cells 71 f)], [], [], []⟩
noncomputable def R.l7Form.l1001980 (out : List Int) (k : Int) (i : Int) (c : TCode) (f : TFn) : Option (List Int) := Y.runA 40 (fun ct c => at_ ct [true, true, true, false, true, false, false, true, false, false, true, true, true, true, true, true, true, false, false] c) ⟨[(1, .ad (.loc 1) 0), (3, .ol 5 out), (4, .i IntKind.i64 k), (5, .ad (.loc 5) 0), (7, .i IntKind.i64 i)], [(1, cells 41 c), (5, cells 71 f)], [], [], []⟩
noncomputable def R.l7Form.l64126759 (out : List Int) (k : Int) (i : Int) (c : TCode) (f : TFn) (x : TIns) : Option (List Int) := Y.runA 40 (fun ct c => at_ ct [true, true, true, false, true, false, false, true, false, false, true, true, true, true, true, true, true, false, false, true, false, false, true, true, true] c) ⟨[(1, .ad (.loc 1) 0), (3, .ol 5 out), (4, .i IntKind.i64 k), (5, .ad (.loc 5) 0), (7, .i IntKind.i64 i), (8, .ad (.loc 8) 0)], [(1, cells 41 c), (5, cells 71 f), (8, cells 111 x)], [], [], []⟩
theorem R.l7Form_eq (c : TCode) : R.l7Form c =
  (R.l7Number (strB ((⟨#[109, 105, 108, 108, 49]⟩ : ByteArray))) (IntKind.u64.wrap (↑c.gFns.length : Int))).bind fun (r0 : List Int) =>
 R.l7Form.l244 r0 0 c :=
  (fnA_eq 40 [PV.st (cells 41 c)] rfl).trans (by kernel_rfl)
theorem R.l7Form.l244_eq (out : List Int) (k : Int) (c : TCode) : R.l7Form.l244 out k c =
  bif decide (k < (↑c.gFns.length : Int)) then
  bif inB k c.gFns.length then
   (R.l7Text out ((c.gFns.getD k.toNat TFn.z).gName)).bind fun (r0 : List Int) =>
   (R.l7Number r0 (IntKind.u64.wrap (↑(c.gFns.getD k.toNat TFn.z).gParams.length : Int))).bind fun (r1 : List Int) =>
   R.l7Form.l125236 r1 k 0 c (c.gFns.getD k.toNat TFn.z)
  else
  none
 else
 some out :=
  (runA_eq 40 _ _).trans (by kernel_rfl)
theorem R.l7Form.l125236_eq (out : List Int) (k : Int) (i : Int) (c : TCode) (f : TFn) : R.l7Form.l125236 out k i c f =
  bif decide (i < (↑f.gParams.length : Int)) then
  bif inB i f.gParams.length then
   (R.l7Number out (IntKind.u64.wrap (f.gParams.getD i.toNat 0))).bind fun (r0 : List Int) =>
   R.l7Form.l125236 r0 k (IntKind.i64.wrap (i + 1)) c f
  else
  none
 else
 (R.l7Number out (IntKind.u64.wrap f.gResult)).bind fun (r0 : List Int) =>
  (R.l7Number r0 (IntKind.u64.wrap f.gSlots)).bind fun (r1 : List Int) =>
  (R.l7Number r1 (IntKind.u64.wrap (↑f.gIns.length : Int))).bind fun (r2 : List Int) =>
  R.l7Form.l1001980 r2 k 0 c f :=
  (runA_eq 40 _ _).trans (by kernel_rfl)
theorem R.l7Form.l1001980_eq (out : List Int) (k : Int) (i : Int) (c : TCode) (f : TFn) : R.l7Form.l1001980 out k i c f =
  bif decide (i < (↑f.gIns.length : Int)) then
  bif inB i f.gIns.length then
   (R.l7Number out (IntKind.u64.wrap (f.gIns.getD i.toNat TIns.z).gOp)).bind fun (r0 : List Int) =>
   (R.l7HasA ((f.gIns.getD i.toNat TIns.z).gOp)).bind fun (r1 : Bool) =>
   bif r1 then
    (R.l7Number r0 (IntKind.u64.wrap (f.gIns.getD i.toNat TIns.z).gA)).bind fun (r2 : List Int) =>
    R.l7Form.l64126759 r2 k i c f (f.gIns.getD i.toNat TIns.z)
   else
   R.l7Form.l64126759 r0 k i c f (f.gIns.getD i.toNat TIns.z)
  else
  none
 else
 R.l7Form.l244 out (IntKind.i64.wrap (k + 1)) c :=
  (runA_eq 40 _ _).trans (by kernel_rfl)
theorem R.l7Form.l64126759_eq (out : List Int) (k : Int) (i : Int) (c : TCode) (f : TFn) (x : TIns) : R.l7Form.l64126759 out k i c f x =
  bif x.gOp == 1 then
  bif x.gA == 2 then
   (R.l7Text out x.gText).bind fun (r0 : List Int) =>
   R.l7Form.l1001980 r0 k (IntKind.i64.wrap (i + 1)) c f
  else
  bif x.gOp == 1 then
    (R.l7Number out (IntKind.u64.wrap x.gN)).bind fun (r0 : List Int) =>
    R.l7Form.l1001980 r0 k (IntKind.i64.wrap (i + 1)) c f
   else
   R.l7Form.l1001980 out k (IntKind.i64.wrap (i + 1)) c f
 else
 bif x.gOp == 1 then
   (R.l7Number out (IntKind.u64.wrap x.gN)).bind fun (r0 : List Int) =>
   R.l7Form.l1001980 r0 k (IntKind.i64.wrap (i + 1)) c f
  else
  R.l7Form.l1001980 out k (IntKind.i64.wrap (i + 1)) c f :=
  (runA_eq 40 _ _).trans (by kernel_rfl)
theorem R.WriteCode_eq (c : TCode) : R.WriteCode c =
  (R.l7Ok c).bind fun (r0 : Bool) =>
 bif !r0 then
  some ((⟨#[]⟩ : ByteArray))
 else
 (R.l7Form c).bind fun (r1 : List Int) =>
  bif decide ((↑(List.length r1) : Int) > 200000) then
   some ((⟨#[]⟩ : ByteArray))
  else
  some (strOfBytes (List.map (fun (x : Int) ↦ x) r1)) :=
  (fnA_eq 20 [PV.st (cells 41 c)] rfl).trans (by kernel_rfl)
theorem I.lower_eq (b : Int) : I.lower b =
  bif decide (b ≥ 97) then
  some (decide (b ≤ 122))
 else
 some false :=
  (fnA_eq 133 [PV.i IntKind.u8 b] rfl).trans (by kernel_rfl)
noncomputable def I.typeOfWord.l52 (s : ByteArray) (t5 : List ByteArray) (t6 : Int) (t7 : Int) : Option Int := Y.runA 153 (fun ct c => at_ ct [true, false, true, false, false] c) ⟨[(0, .s s), (5, .fl 9 t5), (6, .i IntKind.i64 t6), (7, .i IntKind.i64 t7)], [], [], [], []⟩
theorem I.typeOfWord_eq (s : ByteArray) : I.typeOfWord s =
  I.typeOfWord.l52 s ([(⟨#[]⟩ : ByteArray), (⟨#[98, 111, 111, 108]⟩ : ByteArray), (⟨#[116, 101, 120, 116]⟩ : ByteArray), (⟨#[117, 56]⟩ : ByteArray), (⟨#[117, 49, 54]⟩ : ByteArray), (⟨#[117, 51, 50]⟩ : ByteArray), (⟨#[117, 54, 52]⟩ : ByteArray), (⟨#[105, 56]⟩ : ByteArray), (⟨#[105, 49, 54]⟩ : ByteArray), (⟨#[105, 51, 50]⟩ : ByteArray), (⟨#[105, 54, 52]⟩ : ByteArray)]) (↑[(⟨#[]⟩ : ByteArray), (⟨#[98, 111, 111, 108]⟩ : ByteArray), (⟨#[116, 101, 120, 116]⟩ : ByteArray), (⟨#[117, 56]⟩ : ByteArray), (⟨#[117, 49, 54]⟩ : ByteArray), (⟨#[117, 51, 50]⟩ : ByteArray), (⟨#[117, 54, 52]⟩ : ByteArray), (⟨#[105, 56]⟩ : ByteArray), (⟨#[105, 49, 54]⟩ : ByteArray), (⟨#[105, 51, 50]⟩ : ByteArray), (⟨#[105, 54, 52]⟩ : ByteArray)].length : Int) 0 :=
  (fnA_eq 153 [PV.s s] rfl).trans (by kernel_rfl)
theorem I.typeOfWord.l52_eq (s : ByteArray) (t5 : List ByteArray) (t6 : Int) (t7 : Int) : I.typeOfWord.l52 s t5 t6 t7 =
  bif decide (t7 < t6) then
  bif inB t7 t5.length then
   bif decide (t7 > 0) then
    bif bEq (t5.getD t7.toNat (⟨#[]⟩ : ByteArray)) s then
     some t7
    else
    I.typeOfWord.l52 s t5 t6 (IntKind.i64.wrap (t7 + 1))
   else
   I.typeOfWord.l52 s t5 t6 (IntKind.i64.wrap (t7 + 1))
  else
  none
 else
 some 0 :=
  (runA_eq 153 _ _).trans (by kernel_rfl)
noncomputable def I.isTaken.l52 (s : ByteArray) (t5 : List ByteArray) (t6 : Int) (t7 : Int) : Option Bool := Y.runA 134 (fun ct c => at_ ct [true, false, true, false, false] c) ⟨[(0, .s s), (5, .fl 9 t5), (6, .i IntKind.i64 t6), (7, .i IntKind.i64 t7)], [], [], [], []⟩
theorem I.isTaken_eq (s : ByteArray) : I.isTaken s =
  I.isTaken.l52 s (fieldsOf (ByteArray.mk ([102, 110, 32, 108, 101, 116, 32, 105, 102, 32, 101, 108, 115, 101, 32, 119, 104, 105, 108, 101, 32, 98, 114, 101, 97, 107, 32, 99, 111, 110, 116, 105, 110, 117, 101, 32, 114, 101, 116, 117, 114, 110, 32, 102, 97, 105, 108, 32, 119, 114, 105, 116, 101, 32, 115, 97, 121, 32, 116].append [114, 117, 101, 32, 102, 97, 108, 115, 101, 32, 114, 101, 97, 100, 32, 104, 97, 115, 32, 108, 105, 115, 116, 32, 116, 111, 111, 108, 32, 97, 114, 103, 32, 108, 101, 110, 32, 97, 116, 32, 99, 117, 116, 32, 102, 105, 110, 100, 32, 99, 104, 114, 32, 100, 101, 99, 32, 110, 117, 109]).toArray)) (↑(fieldsOf (ByteArray.mk ([102, 110, 32, 108, 101, 116, 32, 105, 102, 32, 101, 108, 115, 101, 32, 119, 104, 105, 108, 101, 32, 98, 114, 101, 97, 107, 32, 99, 111, 110, 116, 105, 110, 117, 101, 32, 114, 101, 116, 117, 114, 110, 32, 102, 97, 105, 108, 32, 119, 114, 105, 116, 101, 32, 115, 97, 121, 32, 116].append [114, 117, 101, 32, 102, 97, 108, 115, 101, 32, 114, 101, 97, 100, 32, 104, 97, 115, 32, 108, 105, 115, 116, 32, 116, 111, 111, 108, 32, 97, 114, 103, 32, 108, 101, 110, 32, 97, 116, 32, 99, 117, 116, 32, 102, 105, 110, 100, 32, 99, 104, 114, 32, 100, 101, 99, 32, 110, 117, 109]).toArray)).length : Int) 0 :=
  (fnA_eq 134 [PV.s s] rfl).trans (by kernel_rfl)
theorem I.isTaken.l52_eq (s : ByteArray) (t5 : List ByteArray) (t6 : Int) (t7 : Int) : I.isTaken.l52 s t5 t6 t7 =
  bif decide (t7 < t6) then
  bif inB t7 t5.length then
   bif bEq (t5.getD t7.toNat (⟨#[]⟩ : ByteArray)) s then
    some true
   else
   I.isTaken.l52 s t5 t6 (IntKind.i64.wrap (t7 + 1))
  else
  none
 else
 (I.typeOfWord s).bind fun (r0 : Int) =>
  some (decide (r0 > 0)) :=
  (runA_eq 134 _ _).trans (by kernel_rfl)
theorem I.digit_eq (b : Int) : I.digit b =
  bif decide (b ≥ 48) then
  some (decide (b ≤ 57))
 else
 some false :=
  (fnA_eq 154 [PV.i IntKind.u8 b] rfl).trans (by kernel_rfl)
theorem I.wordy_eq (b : Int) : I.wordy b =
  (I.lower b).bind fun (r0 : Bool) =>
 bif r0 then
  some true
 else
 (I.digit b).bind fun (r1 : Bool) =>
  bif r1 then
   some true
  else
  some (b == 95) :=
  (fnA_eq 135 [PV.i IntKind.u8 b] rfl).trans (by kernel_rfl)
noncomputable def I.nameOk.l116 (s : ByteArray) (i : Int) : Option Bool := Y.runA 102 (fun ct c => at_ ct [true, true, false, true, false, false] c) ⟨[(0, .s s), (3, .i IntKind.i64 i)], [], [], [], []⟩
theorem I.nameOk_eq (s : ByteArray) : I.nameOk s =
  bif decide ((↑s.size : Int) < 1) then
  some false
 else
 bif decide ((↑s.size : Int) > 30) then
   some false
  else
  bif inB 0 s.size then
    (I.lower (bt s 0)).bind fun (r0 : Bool) =>
    bif !r0 then
     some false
    else
    (I.isTaken s).bind fun (r1 : Bool) =>
     bif r1 then
      some false
     else
     I.nameOk.l116 s 0
   else
   none :=
  (fnA_eq 102 [PV.s s] rfl).trans (by kernel_rfl)
theorem I.nameOk.l116_eq (s : ByteArray) (i : Int) : I.nameOk.l116 s i =
  bif decide (i < (↑s.size : Int)) then
  bif inB i s.size then
   (I.wordy (bt s i)).bind fun (r0 : Bool) =>
   bif !r0 then
    some false
   else
   I.nameOk.l116 s (IntKind.i64.wrap (i + 1))
  else
  none
 else
 some true :=
  (runA_eq 102 _ _).trans (by kernel_rfl)
noncomputable def I.headOk.l116 (t26 : List Int) (t27 : Int) (t28 : Int) (f : TFn) : Option Bool := Y.runA 66 (fun ct c => at_ ct [true, true, false, true, false, false] c) ⟨[(1, .ad (.loc 1) 0), (26, .fl 3 t26), (27, .i IntKind.i64 t27), (28, .i IntKind.i64 t28)], [(1, cells 71 f)], [], [], []⟩
theorem I.headOk_eq (f : TFn) : I.headOk f =
  (I.nameOk f.gName).bind fun (r0 : Bool) =>
 bif !r0 then
  some false
 else
 bif decide ((↑f.gParams.length : Int) > 8) then
   some false
  else
  bif decide (f.gResult < 0) then
    some false
   else
   bif decide (f.gResult > 10) then
     some false
    else
    I.headOk.l116 f.gParams (↑f.gParams.length : Int) 0 f :=
  (fnA_eq 66 [PV.st (cells 71 f)] rfl).trans (by kernel_rfl)
theorem I.headOk.l116_eq (t26 : List Int) (t27 : Int) (t28 : Int) (f : TFn) : I.headOk.l116 t26 t27 t28 f =
  bif decide (t28 < t27) then
  bif inB t28 t26.length then
   bif decide (t26.getD t28.toNat 0 < 1) then
    some false
   else
   bif decide (t26.getD t28.toNat 0 > 10) then
     some false
    else
    I.headOk.l116 t26 t27 (IntKind.i64.wrap (t28 + 1)) f
  else
  none
 else
 bif decide (f.gSlots ≥ (↑f.gParams.length : Int)) then
   bif decide (f.gSlots ≤ 200) then
    bif decide ((↑f.gIns.length : Int) ≥ 1) then
     some (decide ((↑f.gIns.length : Int) ≤ 50000))
    else
    some false
   else
   some false
  else
  some false :=
  (runA_eq 66 _ _).trans (by kernel_rfl)
theorem I.integer_eq (t : Int) : I.integer t =
  bif decide (t ≥ 3) then
  some (decide (t ≤ 10))
 else
 some false :=
  (fnA_eq 109 [PV.i IntKind.i64 t] rfl).trans (by kernel_rfl)
noncomputable def I.bits.l53 (t3 : Int) (t4 : Bool) : Option Int := Y.runA 155 (fun ct c => at_ ct [true, false, true, false, true] c) ⟨[(3, .i IntKind.i64 t3), (4, .b t4)], [], [], [], []⟩
noncomputable def I.bits.l215 (t3 : Int) (t7 : Bool) : Option Int := Y.runA 155 (fun ct c => at_ ct [true, false, true, false, true, true, true] c) ⟨[(3, .i IntKind.i64 t3), (7, .b t7)], [], [], [], []⟩
theorem I.bits_eq (t : Int) : I.bits t =
  bif t == 3 then
  I.bits.l53 t (t == 3)
 else
 I.bits.l53 t (t == 7) :=
  (fnA_eq 155 [PV.i IntKind.i64 t] rfl).trans (by kernel_rfl)
theorem I.bits.l53_eq (t3 : Int) (t4 : Bool) : I.bits.l53 t3 t4 =
  bif t4 then
  some 8
 else
 bif t3 == 4 then
   I.bits.l215 t3 (t3 == 4)
  else
  I.bits.l215 t3 (t3 == 8) :=
  (runA_eq 155 _ _).trans (by kernel_rfl)
theorem I.bits.l215_eq (t3 : Int) (t7 : Bool) : I.bits.l215 t3 t7 =
  bif t7 then
  some 16
 else
 bif t3 == 5 then
   bif t3 == 5 then
    some 32
   else
   some 64
  else
  bif t3 == 9 then
    some 32
   else
   some 64 :=
  (runA_eq 155 _ _).trans (by kernel_rfl)
theorem I.signed_eq (t : Int) : I.signed t =
  some (decide (t ≥ 7)) :=
  (fnA_eq 156 [PV.i IntKind.i64 t] rfl).trans (by kernel_rfl)
theorem I.into_eq (x : Int) (t : Int) : I.into x t =
  (I.bits t).bind fun (r0 : Int) =>
 bif r0 == 64 then
  some (IntKind.i64.wrap x)
 else
 bif decide (0 ≤ r0) then
   (I.signed t).bind fun (r1 : Bool) =>
   bif r1 then
    bif decide (0 ≤ IntKind.u64.wrap (r0 - 1)) then
     bif shrI IntKind.u64 (bitAnd IntKind.u64 x (IntKind.u64.wrap (shlI IntKind.u64 1 r0 - 1))) (IntKind.u64.wrap (r0 - 1)) == 1 then
      bif decide (0 ≤ r0) then
       some (IntKind.i64.wrap (bitOr IntKind.u64 (bitAnd IntKind.u64 x (IntKind.u64.wrap (shlI IntKind.u64 1 r0 - 1))) (shlI IntKind.u64 18446744073709551615 r0)))
      else
      none
     else
     some (IntKind.i64.wrap (bitAnd IntKind.u64 x (IntKind.u64.wrap (shlI IntKind.u64 1 r0 - 1))))
    else
    none
   else
   some (IntKind.i64.wrap (bitAnd IntKind.u64 x (IntKind.u64.wrap (shlI IntKind.u64 1 r0 - 1))))
  else
  none :=
  (fnA_eq 136 [PV.i IntKind.u64 x, PV.i IntKind.i64 t] rfl).trans (by kernel_rfl)
theorem I.ValidValue_eq (v : TValue) : I.ValidValue v =
  bif v.gType == 1 then
  bif v.gN == 0 then
   some (bEq v.gText ((⟨#[]⟩ : ByteArray)))
  else
  bif v.gN == 1 then
    some (bEq v.gText ((⟨#[]⟩ : ByteArray)))
   else
   some false
 else
 bif v.gType == 2 then
   bif v.gN == 0 then
    some (decide ((↑v.gText.size : Int) ≤ 3000))
   else
   some false
  else
  (I.integer v.gType).bind fun (r0 : Bool) =>
   bif r0 then
    bif bEq v.gText ((⟨#[]⟩ : ByteArray)) then
     (I.into (IntKind.u64.wrap v.gN) v.gType).bind fun (r1 : Int) =>
     some (r1 == v.gN)
    else
    some false
   else
   some false :=
  (fnA_eq 103 [PV.st (cells 157 v)] rfl).trans (by kernel_rfl)
theorem I.insOk_1_eq (o0 : (Int × (Int × (Int × ByteArray)))) (lo : Int) (hi : Int) : I.insOk_1 o0 lo hi =
  bif decide (o0.snd.fst ≥ lo) then
  some (decide (o0.snd.fst ≤ hi), (o0.fst, (o0.snd.fst, (o0.snd.snd.fst, o0.snd.snd.snd))))
 else
 some (false, (o0.fst, (o0.snd.fst, (o0.snd.snd.fst, o0.snd.snd.snd)))) :=
  (fnB_eq 104 [PV.i IntKind.i64 lo, PV.i IntKind.i64 hi, PV.ad (Base.obj 0) 0] [[PV.i IntKind.i64 o0.fst, PV.i IntKind.i64 o0.snd.fst, PV.i IntKind.i64 o0.snd.snd.fst, PV.s o0.snd.snd.snd]] rfl).trans (by kernel_rfl)
noncomputable def I.insOk.l501 (t29 : Int) (t30 : Bool) (c : TCode) (f : TFn) (m : Int) (m_1 : Int) (m_2 : Int) (m_3 : ByteArray) : Option Bool := Y.runA 67 (fun ct c => at_ ct [true, true, true, true, false, true, false, true] c) ⟨[(3, .ad (.loc 3) 0), (4, .ad (.loc 4) 0), (5, .ad (.obj 0) 0), (7, .clo 104 [(0, 0)]), (29, .i IntKind.i64 t29), (30, .b t30)], [(3, cells 41 c), (4, cells 71 f)], [[.i IntKind.i64 m, .i IntKind.i64 m_1, .i IntKind.i64 m_2, .s m_3]], [], []⟩
noncomputable def I.insOk.l2056191 (t29 : Int) (t62 : Bool) (f : TFn) (m : Int) (m_1 : Int) (m_2 : Int) (m_3 : ByteArray) : Option Bool := Y.runA 67 (fun ct c => at_ ct [true, true, true, true, false, true, false, true, true, true, true, true, true, true, true, true, true, true, true, true] c) ⟨[(4, .ad (.loc 4) 0), (5, .ad (.obj 0) 0), (7, .clo 104 [(0, 0)]), (29, .i IntKind.i64 t29), (62, .b t62)], [(4, cells 71 f)], [[.i IntKind.i64 m, .i IntKind.i64 m_1, .i IntKind.i64 m_2, .s m_3]], [], []⟩
theorem I.insOk_eq (c : TCode) (f : TFn) (x : TIns) : I.insOk c f x =
  bif x.gOp == 1 then
  (I.ValidValue (TValue.mk x.gA x.gN x.gText)).bind fun (r0 : Bool) =>
  some r0
 else
 bif x.gN != 0 then
   some false
  else
  bif !bEq x.gText ((⟨#[]⟩ : ByteArray)) then
    some false
   else
   bif x.gOp == 2 then
     I.insOk.l501 x.gOp (x.gOp == 2) c f x.gOp x.gA x.gN x.gText
    else
    I.insOk.l501 x.gOp (x.gOp == 3) c f x.gOp x.gA x.gN x.gText :=
  (fnA_eq 67 [PV.st (cells 41 c), PV.st (cells 71 f), PV.st (cells 111 x)] rfl).trans (by kernel_rfl)
theorem I.insOk.l501_eq (t29 : Int) (t30 : Bool) (c : TCode) (f : TFn) (m : Int) (m_1 : Int) (m_2 : Int) (m_3 : ByteArray) : I.insOk.l501 t29 t30 c f m m_1 m_2 m_3 =
  bif t30 then
  (I.insOk_1 (m, m_1, m_2, m_3) 0 (IntKind.i64.wrap (f.gSlots - 1))).bind fun (r0 : (Bool × (Int × (Int × (Int × ByteArray))))) =>
  some r0.fst
 else
 bif t29 == 5 then
   (I.insOk_1 (m, m_1, m_2, m_3) 1 3).bind fun (r0 : (Bool × (Int × (Int × (Int × ByteArray))))) =>
   some r0.fst
  else
  bif t29 == 6 then
    (I.insOk_1 (m, m_1, m_2, m_3) 3 18).bind fun (r0 : (Bool × (Int × (Int × (Int × ByteArray))))) =>
    some r0.fst
   else
   bif t29 == 7 then
     (I.insOk_1 (m, m_1, m_2, m_3) 3 10).bind fun (r0 : (Bool × (Int × (Int × (Int × ByteArray))))) =>
     some r0.fst
    else
    bif t29 == 8 then
      (I.insOk_1 (m, m_1, m_2, m_3) 1 12).bind fun (r0 : (Bool × (Int × (Int × (Int × ByteArray))))) =>
      some r0.fst
     else
     bif t29 == 9 then
       (I.insOk_1 (m, m_1, m_2, m_3) 0 (IntKind.i64.wrap ((↑c.gFns.length : Int) - 1))).bind fun (r0 : (Bool × (Int × (Int × (Int × ByteArray))))) =>
       some r0.fst
      else
      bif t29 == 10 then
        I.insOk.l2056191 t29 (t29 == 10) f m m_1 m_2 m_3
       else
       I.insOk.l2056191 t29 (t29 == 11) f m m_1 m_2 m_3 :=
  (runA_eq 67 _ _).trans (by kernel_rfl)
theorem I.insOk.l2056191_eq (t29 : Int) (t62 : Bool) (f : TFn) (m : Int) (m_1 : Int) (m_2 : Int) (m_3 : ByteArray) : I.insOk.l2056191 t29 t62 f m m_1 m_2 m_3 =
  bif t62 then
  (I.insOk_1 (m, m_1, m_2, m_3) 0 (↑f.gIns.length : Int)).bind fun (r0 : (Bool × (Int × (Int × (Int × ByteArray))))) =>
  some r0.fst
 else
 bif t29 == 12 then
   bif m_1 == 1 then
    bif f.gResult != 0 then
     some true
    else
    bif m_1 == 0 then
      some (f.gResult == 0)
     else
     some false
   else
   bif m_1 == 0 then
     some (f.gResult == 0)
    else
    some false
  else
  bif t29 == 4 then
    bif t29 == 4 then
     some (m_1 == 0)
    else
    some false
   else
   bif t29 == 13 then
     bif t29 == 13 then
      some (m_1 == 0)
     else
     some false
    else
    bif t29 == 14 then
      bif t29 == 14 then
       some (m_1 == 0)
      else
      some false
     else
     bif t29 == 15 then
       bif t29 == 15 then
        some (m_1 == 0)
       else
       some false
      else
      bif t29 == 16 then
        some (m_1 == 0)
       else
       some false :=
  (runA_eq 67 _ _).trans (by kernel_rfl)
noncomputable def I.checkParts.l244 (seen : List ((ByteArray × Bool))) (t26 : List TFn) (t27 : Int) (t28 : Int) (c : TCode) : Option ((Int × (Int × Int))) := Y.runA 34 (fun ct c => at_ ct [true, true, true, false, true, false, false] c) ⟨[(1, .ad (.loc 1) 0), (5, .mp 4 seen), (26, .fl 71 t26), (27, .i IntKind.i64 t27), (28, .i IntKind.i64 t28)], [(1, cells 41 c)], [], [], []⟩
noncomputable def I.checkParts.l500 (t48 : List TFn) (t49 : Int) (t50 : Int) (c : TCode) : Option ((Int × (Int × Int))) := Y.runA 34 (fun ct c => at_ ct [true, true, true, true, false, true, false, false] c) ⟨[(1, .ad (.loc 1) 0), (48, .fl 71 t48), (49, .i IntKind.i64 t49), (50, .i IntKind.i64 t50)], [(1, cells 41 c)], [], [], []⟩
noncomputable def I.checkParts.l128204 (i : Int) (t48 : List TFn) (t49 : Int) (t50 : Int) (t56 : List TIns) (t57 : Int) (t58 : Int) (c : TCode) (f : TFn) : Option ((Int × (Int × Int))) := Y.runA 34 (fun ct c => at_ ct [true, true, true, true, false, true, false, false, true, true, false, false, true, true, false, false] c) ⟨[(1, .ad (.loc 1) 0), (8, .i IntKind.i64 i), (9, .ad (.loc 9) 0), (48, .fl 71 t48), (49, .i IntKind.i64 t49), (50, .i IntKind.i64 t50), (56, .fl 111 t56), (57, .i IntKind.i64 t57), (58, .i IntKind.i64 t58)], [(1, cells 41 c), (9, cells 71 f)], [], [], []⟩
noncomputable def I.checkParts.l1012 (t73 : List TFn) (t74 : Int) (t75 : Int) : Option ((Int × (Int × Int))) := Y.runA 34 (fun ct c => at_ ct [true, true, true, true, true, false, true, false, false] c) ⟨[(73, .fl 71 t73), (74, .i IntKind.i64 t74), (75, .i IntKind.i64 t75)], [], [], [], []⟩
theorem I.checkParts_eq (c : TCode) : I.checkParts c =
  bif decide ((↑c.gFns.length : Int) < 1) then
  some (1, (0, 0))
 else
 bif decide ((↑c.gFns.length : Int) > 60) then
   some (1, (0, 0))
  else
  I.checkParts.l244 ([]) c.gFns (↑c.gFns.length : Int) 0 c :=
  (fnA_eq 34 [PV.st (cells 41 c)] rfl).trans (by kernel_rfl)
theorem I.checkParts.l244_eq (seen : List ((ByteArray × Bool))) (t26 : List TFn) (t27 : Int) (t28 : Int) (c : TCode) : I.checkParts.l244 seen t26 t27 t28 c =
  bif decide (t28 < t27) then
  bif inB t28 t26.length then
   (I.headOk (t26.getD t28.toNat TFn.z)).bind fun (r0 : Bool) =>
   bif !r0 then
    some (2, (t28, 0))
   else
   bif (mget seen (t26.getD t28.toNat TFn.z).gName).getD false then
     some (2, (t28, 0))
    else
    I.checkParts.l244 (mset seen (t26.getD t28.toNat TFn.z).gName true) t26 t27 (IntKind.i64.wrap (t28 + 1)) c
  else
  none
 else
 I.checkParts.l500 c.gFns (↑c.gFns.length : Int) 0 c :=
  (runA_eq 34 _ _).trans (by kernel_rfl)
theorem I.checkParts.l500_eq (t48 : List TFn) (t49 : Int) (t50 : Int) (c : TCode) : I.checkParts.l500 t48 t49 t50 c =
  bif decide (t50 < t49) then
  bif inB t50 t48.length then
   I.checkParts.l128204 t50 t48 t49 t50 ((t48.getD t50.toNat TFn.z).gIns) (↑(t48.getD t50.toNat TFn.z).gIns.length : Int) 0 c (t48.getD t50.toNat TFn.z)
  else
  none
 else
 I.checkParts.l1012 c.gFns (↑c.gFns.length : Int) 0 :=
  (runA_eq 34 _ _).trans (by kernel_rfl)
theorem I.checkParts.l128204_eq (i : Int) (t48 : List TFn) (t49 : Int) (t50 : Int) (t56 : List TIns) (t57 : Int) (t58 : Int) (c : TCode) (f : TFn) : I.checkParts.l128204 i t48 t49 t50 t56 t57 t58 c f =
  bif decide (t58 < t57) then
  bif inB t58 t56.length then
   (I.insOk c f (t56.getD t58.toNat TIns.z)).bind fun (r0 : Bool) =>
   bif !r0 then
    some (3, (i, t58))
   else
   I.checkParts.l128204 i t48 t49 t50 t56 t57 (IntKind.i64.wrap (t58 + 1)) c f
  else
  none
 else
 I.checkParts.l500 t48 t49 (IntKind.i64.wrap (t50 + 1)) c :=
  (runA_eq 34 _ _).trans (by kernel_rfl)
theorem I.checkParts.l1012_eq (t73 : List TFn) (t74 : Int) (t75 : Int) : I.checkParts.l1012 t73 t74 t75 =
  bif decide (t75 < t74) then
  bif inB t75 t73.length then
   bif bEq (t73.getD t75.toNat TFn.z).gName ((⟨#[109, 97, 105, 110]⟩ : ByteArray)) then
    bif (↑(t73.getD t75.toNat TFn.z).gParams.length : Int) == 0 then
     bif (t73.getD t75.toNat TFn.z).gResult == 2 then
      some (0, (0, 0))
     else
     I.checkParts.l1012 t73 t74 (IntKind.i64.wrap (t75 + 1))
    else
    I.checkParts.l1012 t73 t74 (IntKind.i64.wrap (t75 + 1))
   else
   I.checkParts.l1012 t73 t74 (IntKind.i64.wrap (t75 + 1))
  else
  none
 else
 some (4, (0, 0)) :=
  (runA_eq 34 _ _).trans (by kernel_rfl)
noncomputable def I.next.l53 (at_0 : Int) (t6 : Int) (t7 : Bool) (x : TIns) : Option (List Int) := Y.runA 69 (fun ct c => at_ ct [true, false, true, false, true] c) ⟨[(1, .i IntKind.i64 at_0), (2, .ad (.loc 2) 0), (6, .i IntKind.i64 t6), (7, .b t7)], [(2, cells 111 x)], [], [], []⟩
theorem I.next_eq (x : TIns) (at_0 : Int) : I.next x at_0 =
  bif x.gOp == 12 then
  I.next.l53 at_0 x.gOp (x.gOp == 12) x
 else
 I.next.l53 at_0 x.gOp (x.gOp == 13) x :=
  (fnA_eq 69 [PV.st (cells 111 x), PV.i IntKind.i64 at_0] rfl).trans (by kernel_rfl)
theorem I.next.l53_eq (at_0 : Int) (t6 : Int) (t7 : Bool) (x : TIns) : I.next.l53 at_0 t6 t7 x =
  bif t7 then
  some ([])
 else
 bif t6 == 10 then
   some ([x.gA])
  else
  bif t6 == 11 then
    some ([x.gA, IntKind.i64.wrap (at_0 + 1)])
   else
   some ([IntKind.i64.wrap (at_0 + 1)]) :=
  (runA_eq 69 _ _).trans (by kernel_rfl)
theorem I.effect_1_eq (o0 : List Int) (o1 : Unit) (n : Int) : I.effect_1 o0 o1 n =
  bif decide ((↑o0.length : Int) < n) then
  some (none, (o0, ()))
 else
 bif inS (IntKind.i64.wrap ((↑o0.length : Int) - n)) (↑o0.length : Int) o0.length then
   bif inS 0 (IntKind.i64.wrap ((↑o0.length : Int) - n)) o0.length then
    some (some (sub o0 (IntKind.i64.wrap ((↑o0.length : Int) - n)) (↑o0.length : Int)), (sub o0 0 (IntKind.i64.wrap ((↑o0.length : Int) - n)), ()))
   else
   none
  else
  none :=
  (fnB_eq 105 [PV.i IntKind.i64 n, PV.ad (Base.obj 0) 0] [[PV.fl 3 o0], [PV.clo 105 [(0, 0)]]] rfl).trans (by kernel_rfl)
noncomputable def I.effect_2.l244 (want : List Int) (k : Option (List Int)) (t18 : Int) (t19 : Int) (m : List Int) : Option ((Bool × (List Int × Unit))) := Y.runB 106 (fun ct c => at_ ct [true, true, true, false, true, false, false] c) ⟨[(0, .fl 3 want), (4, .fo 3 k), (18, .i IntKind.i64 t18), (19, .i IntKind.i64 t19)], [], [[.fl 3 m], [.clo 105 [(0, 0)]]], [], []⟩
theorem I.effect_2_eq (o0 : List Int) (o1 : Unit) (want : List Int) : I.effect_2 o0 o1 want =
  (I.effect_1 o0 () (↑want.length : Int)).bind fun (r0 : (Option (List Int) × (List Int × Unit))) =>
 bif foC r0.fst then
  bif Option.isNone r0.fst then
   bif decide ((↑want.length : Int) > 0) then
    some (false, (r0.snd.fst, ()))
   else
   I.effect_2.l244 want r0.fst (↑want.length : Int) 0 r0.snd.fst
  else
  I.effect_2.l244 want r0.fst (↑want.length : Int) 0 r0.snd.fst
 else
 amb
   (bif decide ((↑want.length : Int) > 0) then
    some (false, (r0.snd.fst, ()))
   else
   I.effect_2.l244 want r0.fst (↑want.length : Int) 0 r0.snd.fst)
   (I.effect_2.l244 want r0.fst (↑want.length : Int) 0 r0.snd.fst) :=
  (fnB_eq 106 [PV.fl 3 want, PV.ad (Base.obj 1) 0] [[PV.fl 3 o0], [PV.clo 105 [(0, 0)]]] rfl).trans (by kernel_rfl)
theorem I.effect_2.l244_eq (want : List Int) (k : Option (List Int)) (t18 : Int) (t19 : Int) (m : List Int) : I.effect_2.l244 want k t18 t19 m =
  bif decide (t19 < t18) then
  bif inB t19 (Option.getD k []).length then
   bif inB t19 want.length then
    bif (Option.getD k []).getD t19.toNat 0 != want.getD t19.toNat 0 then
     some (false, (m, ()))
    else
    I.effect_2.l244 want k t18 (IntKind.i64.wrap (t19 + 1)) m
   else
   none
  else
  none
 else
 some (true, (m, ())) :=
  (runB_eq 106 _ _).trans (by kernel_rfl)
theorem I.unType_eq (op : Int) (a : Int) : I.unType op a =
  bif op == 2 then
  bif a == 1 then
   some a
  else
  bif op == 1 then
    (I.integer a).bind fun (r0 : Bool) =>
    bif r0 then
     some a
    else
    some 0
   else
   bif op == 3 then
     (I.integer a).bind fun (r0 : Bool) =>
     bif r0 then
      some a
     else
     some 0
    else
    some 0
 else
 bif op == 1 then
   (I.integer a).bind fun (r0 : Bool) =>
   bif r0 then
    some a
   else
   some 0
  else
  bif op == 3 then
    (I.integer a).bind fun (r0 : Bool) =>
    bif r0 then
     some a
    else
    some 0
   else
   some 0 :=
  (fnA_eq 107 [PV.i IntKind.i64 op, PV.i IntKind.i64 a] rfl).trans (by kernel_rfl)
theorem I.binType_eq (op : Int) (a : Int) (b : Int) : I.binType op a b =
  bif a != b then
  some 0
 else
 bif a == 0 then
   some 0
  else
  bif op == 1 then
    bif a == 1 then
     some 1
    else
    some 0
   else
   bif op == 2 then
     bif a == 1 then
      some 1
     else
     some 0
    else
    bif op == 3 then
      some 1
     else
     bif op == 4 then
       some 1
      else
      bif decide (op ≥ 5) then
        bif decide (op ≤ 8) then
         (I.integer a).bind fun (r0 : Bool) =>
         bif r0 then
          some 1
         else
         bif a == 2 then
           some 1
          else
          some 0
        else
        bif op == 9 then
          (I.integer a).bind fun (r0 : Bool) =>
          bif r0 then
           some a
          else
          bif a == 2 then
            some a
           else
           some 0
         else
         bif decide (op > 9) then
           bif decide (op ≤ 18) then
            (I.integer a).bind fun (r0 : Bool) =>
            bif r0 then
            some a
            else
            some 0
           else
           some 0
          else
          some 0
       else
       bif op == 9 then
         (I.integer a).bind fun (r0 : Bool) =>
         bif r0 then
          some a
         else
         bif a == 2 then
           some a
          else
          some 0
        else
        bif decide (op > 9) then
          bif decide (op ≤ 18) then
           (I.integer a).bind fun (r0 : Bool) =>
           bif r0 then
            some a
           else
           some 0
          else
          some 0
         else
         some 0 :=
  (fnA_eq 108 [PV.i IntKind.i64 op, PV.i IntKind.i64 a, PV.i IntKind.i64 b] rfl).trans (by kernel_rfl)
noncomputable def I.builtType.l500 (op : Int) (want : List Int) (t35 : List Int) (t36 : Int) (t37 : Int) : Option Int := Y.runA 110 (fun ct c => at_ ct [true, true, true, true, false, true, false, false] c) ⟨[(0, .i IntKind.i64 op), (5, .fl 3 want), (35, .fl 3 t35), (36, .i IntKind.i64 t36), (37, .i IntKind.i64 t37)], [], [], [], []⟩
theorem I.builtType_eq (op : Int) (kids : List Int) : I.builtType op kids =
  bif decide (op < 1) then
  some 0
 else
 bif decide (op > 12) then
   some 0
  else
  bif inB op [[], [2], [2], [2], [2, 2], [], [2], [2, 10], [2, 10, 10], [2, 2], [3], [-1], [2]].length then
    bif (↑kids.length : Int) != (↑(List.length ([[], [2], [2], [2], [2, 2], [], [2], [2, 10], [2, 10, 10], [2, 2], [3], [-1], [2]].getD op.toNat [])) : Int) then
     some 0
    else
    I.builtType.l500 op ([[], [2], [2], [2], [2, 2], [], [2], [2, 10], [2, 10, 10], [2, 2], [3], [-1], [2]].getD op.toNat []) kids (↑kids.length : Int) 0
   else
   none :=
  (fnA_eq 110 [PV.i IntKind.i64 op, PV.fl 3 kids] rfl).trans (by kernel_rfl)
theorem I.builtType.l500_eq (op : Int) (want : List Int) (t35 : List Int) (t36 : Int) (t37 : Int) : I.builtType.l500 op want t35 t36 t37 =
  bif decide (t37 < t36) then
  bif inB t37 t35.length then
   bif inB t37 (List.length want) then
    bif List.getD want t37.toNat 0 == -1 then
     (I.integer (t35.getD t37.toNat 0)).bind fun (r0 : Bool) =>
     bif r0 then
      I.builtType.l500 op want t35 t36 (IntKind.i64.wrap (t37 + 1))
     else
     bif inB t37 (List.length want) then
       bif List.getD want t37.toNat 0 == t35.getD t37.toNat 0 then
        I.builtType.l500 op want t35 t36 (IntKind.i64.wrap (t37 + 1))
       else
       some 0
      else
      none
    else
    bif inB t37 (List.length want) then
      bif List.getD want t37.toNat 0 == t35.getD t37.toNat 0 then
       I.builtType.l500 op want t35 t36 (IntKind.i64.wrap (t37 + 1))
      else
      some 0
     else
     none
   else
   none
  else
  none
 else
 bif inB op [0, 2, 1, 2, 2, 2, 10, 3, 2, 10, 2, 2, 10].length then
   some (([0, 2, 1, 2, 2, 2, 10, 3, 2, 10, 2, 2, 10] : List Int).getD op.toNat 0)
  else
  none :=
  (runA_eq 110 _ _).trans (by kernel_rfl)
noncomputable def I.effect.l116 (t32 : List Int) (t33 : Int) (t34 : Int) (c : TCode) (f : TFn) (s : TShape) (t8 : TShape) (x : TIns) : Option ((TShape × Bool)) := Y.runA 68 (fun ct c => at_ ct [true, true, false, true, false, false] c) ⟨[(4, .ad (.loc 4) 0), (5, .ad (.loc 5) 0), (7, .ad (.loc 7) 0), (8, .ad (.loc 8) 0), (10, .ad (.loc 10) 0), (32, .ol 3 t32), (33, .i IntKind.i64 t33), (34, .i IntKind.i64 t34)], [(4, cells 41 c), (5, cells 71 f), (7, cells 67 s), (8, cells 67 t8), (10, cells 111 x)], [], [], []⟩
noncomputable def I.effect.l511 (put : Int) (s : TShape) (t8 : TShape) (m : List Int) : Option ((TShape × Bool)) := Y.runA 68 (fun ct c => at_ ct [true, true, true, true, true, true, true, true] c) ⟨[(7, .ad (.loc 7) 0), (8, .ad (.loc 8) 0), (13, .ad (.obj 0) 0), (16, .i IntKind.i64 put)], [(7, cells 67 s), (8, cells 67 t8)], [[.fl 3 m], [.clo 105 [(0, 0)]]], [], []⟩
noncomputable def I.effect.l17137926143 (put : Int) (t50 : Int) (t207 : Bool) (s : TShape) (t8 : TShape) (m : List Int) : Option ((TShape × Bool)) := Y.runA 68 (fun ct c => at_ ct [true, true, true, true, true, true, true, false, true, false, true, true, true, true, true, true, true, true, true, true, true, true, true, true, true, true, true, true, true, true, true, true, true] c) ⟨[(7, .ad (.loc 7) 0), (8, .ad (.loc 8) 0), (13, .ad (.obj 0) 0), (15, .clo 106 [(1, 0)]), (16, .i IntKind.i64 put), (50, .i IntKind.i64 t50), (207, .b t207)], [(7, cells 67 s), (8, cells 67 t8)], [[.fl 3 m], [.clo 105 [(0, 0)]]], [], []⟩
theorem I.effect_eq (c : TCode) (f : TFn) (at_0 : Int) (s : TShape) : I.effect c f at_0 s =
  bif inB at_0 f.gIns.length then
  (I.next (f.gIns.getD at_0.toNat TIns.z) at_0).bind fun (r0 : List Int) =>
  I.effect.l116 r0 (↑(List.length r0) : Int) 0 c f s (⟨0, [], []⟩ : TShape) (f.gIns.getD at_0.toNat TIns.z)
 else
 none :=
  (fnA_eq 68 [PV.st (cells 41 c), PV.st (cells 71 f), PV.i IntKind.i64 at_0, PV.st (cells 67 s)] rfl).trans (by kernel_rfl)
theorem I.effect.l116_eq (t32 : List Int) (t33 : Int) (t34 : Int) (c : TCode) (f : TFn) (s : TShape) (t8 : TShape) (x : TIns) : I.effect.l116 t32 t33 t34 c f s t8 x =
  bif decide (t34 < t33) then
  bif inB t34 (List.length t32) then
   bif List.getD t32 t34.toNat 0 == (↑f.gIns.length : Int) then
    some ((⟨0, [], []⟩ : TShape), false)
   else
   I.effect.l116 t32 t33 (IntKind.i64.wrap (t34 + 1)) c f s t8 x
  else
  none
 else
 bif x.gOp == 1 then
   I.effect.l511 x.gA s t8 s.gStack
  else
  bif x.gOp == 2 then
    bif inB x.gA s.gSlots.length then
     bif s.gSlots.getD x.gA.toNat 0 == 0 then
      some ((⟨0, [], []⟩ : TShape), false)
     else
     I.effect.l511 (s.gSlots.getD x.gA.toNat 0) s t8 s.gStack
    else
    none
   else
   bif x.gOp == 3 then
     (I.effect_1 s.gStack () 1).bind fun (r0 : (Option (List Int) × (List Int × Unit))) =>
     bif foC r0.fst then
      bif Option.isNone r0.fst then
       some ((⟨0, [], []⟩ : TShape), false)
      else
      bif room s.gSlots.length 8 then
        bif inB 0 (Option.getD r0.fst []).length then
         bif inB x.gA s.gSlots.length then
          some ((⟨1, s.gSlots.set x.gA.toNat ((Option.getD r0.fst []).getD 0 0), r0.snd.fst⟩ : TShape), true)
         else
         none
        else
        none
       else
       none
     else
     none
    else
    bif x.gOp == 4 then
      (I.effect_1 s.gStack () 1).bind fun (r0 : (Option (List Int) × (List Int × Unit))) =>
      bif foC r0.fst then
       bif Option.isNone r0.fst then
        some ((⟨0, [], []⟩ : TShape), false)
       else
       I.effect.l511 0 s t8 r0.snd.fst
      else
      none
     else
     bif x.gOp == 5 then
       (I.effect_1 s.gStack () 1).bind fun (r0 : (Option (List Int) × (List Int × Unit))) =>
       bif foC r0.fst then
        bif Option.isNone r0.fst then
         some ((⟨0, [], []⟩ : TShape), false)
        else
        bif inB 0 (Option.getD r0.fst []).length then
          (I.unType x.gA ((Option.getD r0.fst []).getD 0 0)).bind fun (r1 : Int) =>
          bif r1 == 0 then
           some ((⟨0, [], []⟩ : TShape), false)
          else
          bif inB 0 (Option.getD r0.fst []).length then
            I.effect.l511 ((Option.getD r0.fst []).getD 0 0) s t8 r0.snd.fst
           else
           none
         else
         none
       else
       none
      else
      bif x.gOp == 6 then
        (I.effect_1 s.gStack () 2).bind fun (r0 : (Option (List Int) × (List Int × Unit))) =>
        bif foC r0.fst then
         bif Option.isNone r0.fst then
          some ((⟨0, [], []⟩ : TShape), false)
         else
         bif inB 0 (Option.getD r0.fst []).length then
           bif inB 1 (Option.getD r0.fst []).length then
            (I.binType x.gA ((Option.getD r0.fst []).getD 0 0) ((Option.getD r0.fst []).getD 1 0)).bind fun (r1 : Int) =>
            bif r1 == 0 then
            some ((⟨0, [], []⟩ : TShape), false)
            else
            I.effect.l511 r1 s t8 r0.snd.fst
           else
           none
          else
          none
        else
        none
       else
       bif x.gOp == 7 then
         (I.effect_1 s.gStack () 1).bind fun (r0 : (Option (List Int) × (List Int × Unit))) =>
         bif foC r0.fst then
          bif Option.isNone r0.fst then
           some ((⟨0, [], []⟩ : TShape), false)
          else
          bif inB 0 (Option.getD r0.fst []).length then
            (I.integer ((Option.getD r0.fst []).getD 0 0)).bind fun (r1 : Bool) =>
            bif !r1 then
            some ((⟨0, [], []⟩ : TShape), false)
            else
            I.effect.l511 x.gA s t8 r0.snd.fst
           else
           none
         else
         none
        else
        bif x.gOp == 8 then
          bif inB x.gA [0, 1, 1, 1, 2, 0, 1, 2, 3, 2, 1, 1, 1].length then
           (I.effect_1 s.gStack () (([0, 1, 1, 1, 2, 0, 1, 2, 3, 2, 1, 1, 1] : List Int).getD x.gA.toNat 0)).bind fun (r0 : (Option (List Int) × (List Int × Unit))) =>
           bif decide (([0, 1, 1, 1, 2, 0, 1, 2, 3, 2, 1, 1, 1] : List Int).getD x.gA.toNat 0 > 0) then
            bif foC r0.fst then
            bif Option.isNone r0.fst then
            some ((⟨0, [], []⟩ : TShape), false)
            else
            (I.builtType x.gA (Option.getD r0.fst [])).bind fun (r1 : Int) =>
            bif r1 == 0 then
            some ((⟨0, [], []⟩ : TShape), false)
            else
            I.effect.l511 r1 s t8 r0.snd.fst
            else
            none
           else
           (I.builtType x.gA (Option.getD r0.fst [])).bind fun (r1 : Int) =>
            bif r1 == 0 then
            some ((⟨0, [], []⟩ : TShape), false)
            else
            I.effect.l511 r1 s t8 r0.snd.fst
          else
          none
         else
         bif x.gOp == 9 then
           bif inB x.gA c.gFns.length then
            (I.effect_2 s.gStack () ((c.gFns.getD x.gA.toNat TFn.z).gParams)).bind fun (r0 : (Bool × (List Int × Unit))) =>
            bif !r0.fst then
            some ((⟨0, [], []⟩ : TShape), false)
            else
            I.effect.l511 ((c.gFns.getD x.gA.toNat TFn.z).gResult) s t8 r0.snd.fst
           else
           none
          else
          bif x.gOp == 11 then
            (I.effect_2 s.gStack () ([1])).bind fun (r0 : (Bool × (List Int × Unit))) =>
            bif !r0.fst then
            some ((⟨0, [], []⟩ : TShape), false)
            else
            I.effect.l511 0 s t8 r0.snd.fst
           else
           bif x.gOp == 12 then
            bif x.gA == 1 then
            (I.effect_2 s.gStack () ([f.gResult])).bind fun (r0 : (Bool × (List Int × Unit))) =>
            bif !r0.fst then
            some ((⟨0, [], []⟩ : TShape), false)
            else
            I.effect.l511 0 s t8 r0.snd.fst
            else
            I.effect.l511 0 s t8 s.gStack
            else
            bif x.gOp == 13 then
            I.effect.l17137926143 0 x.gOp (x.gOp == 13) s t8 s.gStack
            else
            I.effect.l17137926143 0 x.gOp (x.gOp == 15) s t8 s.gStack :=
  (runA_eq 68 _ _).trans (by kernel_rfl)
theorem I.effect.l511_eq (put : Int) (s : TShape) (t8 : TShape) (m : List Int) : I.effect.l511 put s t8 m =
  bif put != 0 then
  bif room m.length 8 then
   bif room (m.length + [put].length) 8 then
    bif decide ((↑(m ++ [put]).length : Int) > 600) then
     some ((⟨0, [], []⟩ : TShape), false)
    else
    some ((⟨1, s.gSlots, m ++ [put]⟩ : TShape), true)
   else
   none
  else
  none
 else
 bif decide ((↑m.length : Int) > 600) then
   some ((⟨0, [], []⟩ : TShape), false)
  else
  some ((⟨1, s.gSlots, m⟩ : TShape), true) :=
  (runA_eq 68 _ _).trans (by kernel_rfl)
theorem I.effect.l17137926143_eq (put : Int) (t50 : Int) (t207 : Bool) (s : TShape) (t8 : TShape) (m : List Int) : I.effect.l17137926143 put t50 t207 s t8 m =
  bif t207 then
  (I.effect_2 m () ([2])).bind fun (r0 : (Bool × (List Int × Unit))) =>
  bif !r0.fst then
   some ((⟨0, [], []⟩ : TShape), false)
  else
  I.effect.l511 put s t8 r0.snd.fst
 else
 bif t50 == 14 then
   (I.effect_2 m () ([2, 2])).bind fun (r0 : (Bool × (List Int × Unit))) =>
   bif !r0.fst then
    some ((⟨0, [], []⟩ : TShape), false)
   else
   I.effect.l511 put s t8 r0.snd.fst
  else
  I.effect.l511 put s t8 m :=
  (runA_eq 68 _ _).trans (by kernel_rfl)
noncomputable def I.sameInts.l116 (a : List Int) (b : List Int) (t12 : Int) (t13 : Int) : Option Bool := Y.runA 111 (fun ct c => at_ ct [true, true, false, true, false, false] c) ⟨[(0, .fl 3 a), (1, .fl 3 b), (12, .i IntKind.i64 t12), (13, .i IntKind.i64 t13)], [], [], [], []⟩
theorem I.sameInts_eq (a : List Int) (b : List Int) : I.sameInts a b =
  bif (↑a.length : Int) != (↑b.length : Int) then
  some false
 else
 I.sameInts.l116 a b (↑a.length : Int) 0 :=
  (fnA_eq 111 [PV.fl 3 a, PV.fl 3 b] rfl).trans (by kernel_rfl)
theorem I.sameInts.l116_eq (a : List Int) (b : List Int) (t12 : Int) (t13 : Int) : I.sameInts.l116 a b t12 t13 =
  bif decide (t13 < t12) then
  bif inB t13 a.length then
   bif inB t13 b.length then
    bif a.getD t13.toNat 0 != b.getD t13.toNat 0 then
     some false
    else
    I.sameInts.l116 a b t12 (IntKind.i64.wrap (t13 + 1))
   else
   none
  else
  none
 else
 some true :=
  (runA_eq 111 _ _).trans (by kernel_rfl)
noncomputable def I.join.l1012 (slots : List Int) (more : Bool) (t47 : Int) (t48 : Int) (a : TShape) (b : TShape) (t4 : TShape) : Option ((TShape × Bool)) := Y.runA 70 (fun ct c => at_ ct [true, true, true, true, true, false, true, false, false] c) ⟨[(2, .ad (.loc 2) 0), (3, .ad (.loc 3) 0), (4, .ad (.loc 4) 0), (6, .ol 3 slots), (7, .b more), (47, .i IntKind.i64 t47), (48, .i IntKind.i64 t48)], [(2, cells 67 a), (3, cells 67 b), (4, cells 67 t4)], [], [], []⟩
theorem I.join_eq (a : TShape) (b : TShape) : I.join a b =
  bif a.gState == 2 then
  some ((⟨a.gState, a.gSlots, a.gStack⟩ : TShape), false)
 else
 bif b.gState == 0 then
   some ((⟨a.gState, a.gSlots, a.gStack⟩ : TShape), false)
  else
  bif a.gState == 0 then
    some ((⟨b.gState, b.gSlots, b.gStack⟩ : TShape), true)
   else
   bif b.gState == 2 then
     some ((⟨2, [], []⟩ : TShape), true)
    else
    (I.sameInts a.gStack b.gStack).bind fun (r0 : Bool) =>
     bif !r0 then
      some ((⟨2, [], []⟩ : TShape), true)
     else
     (I.sameInts a.gSlots b.gSlots).bind fun (r1 : Bool) =>
      bif r1 then
       some ((⟨a.gState, a.gSlots, a.gStack⟩ : TShape), false)
      else
      bif room a.gSlots.length 8 then
        I.join.l1012 a.gSlots false (↑a.gSlots.length : Int) 0 a b (⟨0, [], []⟩ : TShape)
       else
       none :=
  (fnA_eq 70 [PV.st (cells 67 a), PV.st (cells 67 b)] rfl).trans (by kernel_rfl)
theorem I.join.l1012_eq (slots : List Int) (more : Bool) (t47 : Int) (t48 : Int) (a : TShape) (b : TShape) (t4 : TShape) : I.join.l1012 slots more t47 t48 a b t4 =
  bif decide (t48 < t47) then
  bif inB t48 slots.length then
   bif inB t48 b.gSlots.length then
    bif slots.getD t48.toNat 0 != b.gSlots.getD t48.toNat 0 then
     bif inB t48 slots.length then
      bif slots.getD t48.toNat 0 != 0 then
       bif inB t48 slots.length then
        I.join.l1012 (slots.set t48.toNat 0) true t47 (IntKind.i64.wrap (t48 + 1)) a b t4
       else
       none
      else
      I.join.l1012 slots more t47 (IntKind.i64.wrap (t48 + 1)) a b t4
     else
     none
    else
    I.join.l1012 slots more t47 (IntKind.i64.wrap (t48 + 1)) a b t4
   else
   none
  else
  none
 else
 some ((⟨1, slots, a.gStack⟩ : TShape), more) :=
  (runA_eq 70 _ _).trans (by kernel_rfl)
noncomputable def I.shapes.l4088 (all : List TShape) (work : List Int) (on : List Bool) (c : TCode) (f : TFn) : Option ((List TShape × Int)) := Y.runA 35 (fun ct c => at_ ct [true, true, true, true, true, true, true, true, false, false, false] c) ⟨[(2, .ad (.loc 2) 0), (6, .ad (.loc 6) 0), (7, .ol 67 all), (9, .ol 3 work), (10, .ol 4 on)], [(2, cells 41 c), (6, cells 71 f)], [], [], []⟩
noncomputable def I.shapes.l4186876 (all : List TShape) (work : List Int) (on : List Bool) (t93 : List Int) (t94 : Int) (t95 : Int) (c : TCode) (f : TFn) (out : TShape) : Option ((List TShape × Int)) := Y.runA 35 (fun ct c => at_ ct [true, true, true, true, true, true, true, true, false, false, false, true, false, true, true, true, true, true, true, false, false] c) ⟨[(2, .ad (.loc 2) 0), (6, .ad (.loc 6) 0), (7, .ol 67 all), (9, .ol 3 work), (10, .ol 4 on), (12, .ad (.loc 12) 0), (93, .ol 3 t93), (94, .i IntKind.i64 t94), (95, .i IntKind.i64 t95)], [(2, cells 41 c), (6, cells 71 f), (12, cells 67 out)], [], [], []⟩
noncomputable def I.shapes.l32756 (all : List TShape) (bad : Int) (t131 : List TShape) (t132 : Int) (t133 : Int) (c : TCode) (f : TFn) : Option ((List TShape × Int)) := Y.runA 35 (fun ct c => at_ ct [true, true, true, true, true, true, true, true, true, true, false, true, false, false] c) ⟨[(2, .ad (.loc 2) 0), (6, .ad (.loc 6) 0), (7, .fl 67 all), (19, .i IntKind.i64 bad), (131, .fl 67 t131), (132, .i IntKind.i64 t132), (133, .i IntKind.i64 t133)], [(2, cells 41 c), (6, cells 71 f)], [], [], []⟩
theorem I.shapes_eq (c : TCode) (fn : Int) : I.shapes c fn =
  bif inB fn c.gFns.length then
  bif decide (0 ≤ (↑(c.gFns.getD fn.toNat TFn.z).gIns.length : Int)) && (↑(c.gFns.getD fn.toNat TFn.z).gIns.length : Int) == (↑(c.gFns.getD fn.toNat TFn.z).gIns.length : Int) && room (c.gFns.getD fn.toNat TFn.z).gIns.length 56 then
   bif decide (0 ≤ (c.gFns.getD fn.toNat TFn.z).gSlots) && (c.gFns.getD fn.toNat TFn.z).gSlots == (c.gFns.getD fn.toNat TFn.z).gSlots && room (c.gFns.getD fn.toNat TFn.z).gSlots.toNat 8 then
    bif inB 0 (List.replicate (c.gFns.getD fn.toNat TFn.z).gIns.length (TShape.mk 0 [] [])).length then
     bif decide (0 ≤ (↑(c.gFns.getD fn.toNat TFn.z).gIns.length : Int)) && (↑(c.gFns.getD fn.toNat TFn.z).gIns.length : Int) == (↑(c.gFns.getD fn.toNat TFn.z).gIns.length : Int) && room (c.gFns.getD fn.toNat TFn.z).gIns.length 1 then
      I.shapes.l4088 ((List.replicate (c.gFns.getD fn.toNat TFn.z).gIns.length (TShape.mk 0 [] [])).set 0 (TShape.mk 1 (List.take 0 (List.replicate (c.gFns.getD fn.toNat TFn.z).gSlots.toNat (0 : Int)) ++ List.take ((List.replicate (c.gFns.getD fn.toNat TFn.z).gSlots.toNat (0 : Int)).length - 0) (c.gFns.getD fn.toNat TFn.z).gParams ++ List.drop (0 + min (c.gFns.getD fn.toNat TFn.z).gParams.length ((List.replicate (c.gFns.getD fn.toNat TFn.z).gSlots.toNat (0 : Int)).length - 0)) (List.replicate (c.gFns.getD fn.toNat TFn.z).gSlots.toNat (0 : Int))) [])) ([0]) (List.replicate (c.gFns.getD fn.toNat TFn.z).gIns.length false) c (c.gFns.getD fn.toNat TFn.z)
     else
     none
    else
    none
   else
   none
  else
  none
 else
 none :=
  (fnA_eq 35 [PV.st (cells 41 c), PV.i IntKind.i64 fn] rfl).trans (by kernel_rfl)
theorem I.shapes.l4088_eq (all : List TShape) (work : List Int) (on : List Bool) (c : TCode) (f : TFn) : I.shapes.l4088 all work on c f =
  bif decide ((↑work.length : Int) > 0) then
  bif inB (IntKind.i64.wrap ((↑work.length : Int) - 1)) work.length then
   bif inS 0 (IntKind.i64.wrap ((↑work.length : Int) - 1)) work.length then
    bif inB (work.getD (IntKind.i64.wrap ((↑work.length : Int) - 1)).toNat 0) on.length then
     bif inB (work.getD (IntKind.i64.wrap ((↑work.length : Int) - 1)).toNat 0) all.length then
      bif (all.getD (Int.toNat (work.getD (IntKind.i64.wrap ((↑work.length : Int) - 1)).toNat 0)) TShape.z).gState == 1 then
       bif inB (work.getD (IntKind.i64.wrap ((↑work.length : Int) - 1)).toNat 0) all.length then
        (I.effect c f (work.getD (IntKind.i64.wrap ((↑work.length : Int) - 1)).toNat 0) (all.getD (Int.toNat (work.getD (IntKind.i64.wrap ((↑work.length : Int) - 1)).toNat 0)) TShape.z)).bind fun (r0 : (TShape × Bool)) =>
        bif r0.snd then
         bif inB (work.getD (IntKind.i64.wrap ((↑work.length : Int) - 1)).toNat 0) f.gIns.length then
          (I.next (f.gIns.getD (Int.toNat (work.getD (IntKind.i64.wrap ((↑work.length : Int) - 1)).toNat 0)) TIns.z) (work.getD (IntKind.i64.wrap ((↑work.length : Int) - 1)).toNat 0)).bind fun (r1 : List Int) =>
          I.shapes.l4186876 all (List.take (IntKind.i64.wrap ((↑work.length : Int) - 1)).toNat work) (on.set (Int.toNat (work.getD (IntKind.i64.wrap ((↑work.length : Int) - 1)).toNat 0)) false) r1 (↑(List.length r1) : Int) 0 c f r0.fst
         else
         none
        else
        bif inB (work.getD (IntKind.i64.wrap ((↑work.length : Int) - 1)).toNat 0) f.gIns.length then
          (I.next (f.gIns.getD (Int.toNat (work.getD (IntKind.i64.wrap ((↑work.length : Int) - 1)).toNat 0)) TIns.z) (work.getD (IntKind.i64.wrap ((↑work.length : Int) - 1)).toNat 0)).bind fun (r1 : List Int) =>
          I.shapes.l4186876 all (List.take (IntKind.i64.wrap ((↑work.length : Int) - 1)).toNat work) (on.set (Int.toNat (work.getD (IntKind.i64.wrap ((↑work.length : Int) - 1)).toNat 0)) false) r1 (↑(List.length r1) : Int) 0 c f (⟨2, [], []⟩ : TShape)
         else
         none
       else
       none
      else
      bif inB (work.getD (IntKind.i64.wrap ((↑work.length : Int) - 1)).toNat 0) f.gIns.length then
        (I.next (f.gIns.getD (Int.toNat (work.getD (IntKind.i64.wrap ((↑work.length : Int) - 1)).toNat 0)) TIns.z) (work.getD (IntKind.i64.wrap ((↑work.length : Int) - 1)).toNat 0)).bind fun (r0 : List Int) =>
        I.shapes.l4186876 all (List.take (IntKind.i64.wrap ((↑work.length : Int) - 1)).toNat work) (on.set (Int.toNat (work.getD (IntKind.i64.wrap ((↑work.length : Int) - 1)).toNat 0)) false) r0 (↑(List.length r0) : Int) 0 c f (⟨2, [], []⟩ : TShape)
       else
       none
     else
     none
    else
    none
   else
   none
  else
  none
 else
 I.shapes.l32756 all (-1) all (↑all.length : Int) 0 c f :=
  (runA_eq 35 _ _).trans (by kernel_rfl)
theorem I.shapes.l4186876_eq (all : List TShape) (work : List Int) (on : List Bool) (t93 : List Int) (t94 : Int) (t95 : Int) (c : TCode) (f : TFn) (out : TShape) : I.shapes.l4186876 all work on t93 t94 t95 c f out =
  bif decide (t95 < t94) then
  bif inB t95 (List.length t93) then
   bif List.getD t93 t95.toNat 0 == (↑f.gIns.length : Int) then
    I.shapes.l4186876 all work on t93 t94 (IntKind.i64.wrap (t95 + 1)) c f out
   else
   bif inB (List.getD t93 t95.toNat 0) all.length then
     (I.join (all.getD (Int.toNat (List.getD t93 t95.toNat 0)) TShape.z) out).bind fun (r0 : (TShape × Bool)) =>
     bif r0.snd then
      bif inB (List.getD t93 t95.toNat 0) all.length then
       bif inB (List.getD t93 t95.toNat 0) on.length then
        bif !on.getD (Int.toNat (List.getD t93 t95.toNat 0)) false then
         bif inB (List.getD t93 t95.toNat 0) on.length then
          bif room (work.length + [List.getD t93 t95.toNat 0].length) 8 then
           I.shapes.l4186876 (all.set (Int.toNat (List.getD t93 t95.toNat 0)) (TShape.mk r0.fst.gState r0.fst.gSlots r0.fst.gStack)) (work ++ [List.getD t93 t95.toNat 0]) (on.set (Int.toNat (List.getD t93 t95.toNat 0)) true) t93 t94 (IntKind.i64.wrap (t95 + 1)) c f out
          else
          none
         else
         none
        else
        I.shapes.l4186876 (all.set (Int.toNat (List.getD t93 t95.toNat 0)) (TShape.mk r0.fst.gState r0.fst.gSlots r0.fst.gStack)) work on t93 t94 (IntKind.i64.wrap (t95 + 1)) c f out
       else
       none
      else
      none
     else
     I.shapes.l4186876 all work on t93 t94 (IntKind.i64.wrap (t95 + 1)) c f out
    else
    none
  else
  none
 else
 I.shapes.l4088 all work on c f :=
  (runA_eq 35 _ _).trans (by kernel_rfl)
theorem I.shapes.l32756_eq (all : List TShape) (bad : Int) (t131 : List TShape) (t132 : Int) (t133 : Int) (c : TCode) (f : TFn) : I.shapes.l32756 all bad t131 t132 t133 c f =
  bif decide (t133 < t132) then
  bif inB t133 t131.length then
   bif (t131.getD t133.toNat TShape.z).gState == 2 then
    some (all, t133)
   else
   bif (t131.getD t133.toNat TShape.z).gState == 1 then
     (I.effect c f t133 (t131.getD t133.toNat TShape.z)).bind fun (r0 : (TShape × Bool)) =>
     bif !r0.snd then
      some (all, t133)
     else
     I.shapes.l32756 all bad t131 t132 (IntKind.i64.wrap (t133 + 1)) c f
    else
    I.shapes.l32756 all bad t131 t132 (IntKind.i64.wrap (t133 + 1)) c f
  else
  none
 else
 some (all, bad) :=
  (runA_eq 35 _ _).trans (by kernel_rfl)
noncomputable def I.CheckCode.l116 (t24 : Int) (t25 : Int) (c : TCode) : Option ((Int × (Int × Int))) := Y.runA 15 (fun ct c => at_ ct [true, true, false, true, false, false] c) ⟨[(1, .ad (.loc 1) 0), (24, .i IntKind.i64 t24), (25, .i IntKind.i64 t25)], [(1, cells 41 c)], [], [], []⟩
theorem I.CheckCode_eq (c : TCode) : I.CheckCode c =
  (I.checkParts c).bind fun (r0 : (Int × (Int × Int))) =>
 bif r0.fst != 0 then
  some (r0.fst, (r0.snd.fst, r0.snd.snd))
 else
 I.CheckCode.l116 (↑c.gFns.length : Int) 0 c :=
  (fnA_eq 15 [PV.st (cells 41 c)] rfl).trans (by kernel_rfl)
theorem I.CheckCode.l116_eq (t24 : Int) (t25 : Int) (c : TCode) : I.CheckCode.l116 t24 t25 c =
  bif decide (t25 < t24) then
  (I.shapes c t25).bind fun (r0 : (List TShape × Int)) =>
  bif decide (r0.snd ≥ 0) then
   some (5, (t25, r0.snd))
  else
  I.CheckCode.l116 t24 (IntKind.i64.wrap (t25 + 1)) c
 else
 some (0, (0, 0)) :=
  (runA_eq 15 _ _).trans (by kernel_rfl)
theorem I.validCode_eq (c : TCode) : I.validCode c =
  (I.CheckCode c).bind fun (r0 : (Int × (Int × Int))) =>
 some (r0.fst == 0) :=
  (fnA_eq 41 [PV.st (cells 41 c)] rfl).trans (by kernel_rfl)
theorem G.strings_Builder_WriteString_eq (b : (Bool × List Int)) (s : ByteArray) : G.strings_Builder_WriteString b s =
  bif room (b.snd.length + s.size) 1 then
  some (((↑s.size : Int), true), (true, b.snd ++ strB s))
 else
 none :=
  (fnB_eq 80 [PV.ad (Base.obj 0) 0, PV.s s] [[PV.slf 141 0 b.fst, PV.ol 5 b.snd]] rfl).trans (by kernel_rfl)
theorem G.strings_Builder_WriteByte_eq (b : (Bool × List Int)) (c : Int) : G.strings_Builder_WriteByte b c =
  bif room (b.snd.length + [c].length) 1 then
  some (true, (true, b.snd ++ [c]))
 else
 none :=
  (fnB_eq 120 [PV.ad (Base.obj 0) 0, PV.i IntKind.u8 c] [[PV.slf 141 0 b.fst, PV.ol 5 b.snd]] rfl).trans (by kernel_rfl)
noncomputable def I.former_num.l8 (x : Int) (m : Bool) (m_1 : List Int) : Option ((Unit × (Bool × List Int))) := Y.runB 81 (fun ct c => at_ ct [false, false, false] c) ⟨[(0, .ad (.obj 0) 0), (1, .i IntKind.u64 x)], [], [[.slf 141 0 m, .ol 5 m_1]], [], []⟩
theorem I.former_num_eq (w : (Bool × List Int)) (x : Int) : I.former_num w x =
  I.former_num.l8 x w.fst w.snd :=
  (fnB_eq 81 [PV.ad (Base.obj 0) 0, PV.i IntKind.u64 x] [[PV.slf 141 0 w.fst, PV.ol 5 w.snd]] rfl).trans (by kernel_rfl)
theorem I.former_num.l8_eq (x : Int) (m : Bool) (m_1 : List Int) : I.former_num.l8 x m m_1 =
  bif decide (x ≥ 128) then
  (G.strings_Builder_WriteByte (m, m_1) (bitOr IntKind.u8 (IntKind.u8.wrap x) 128)).bind fun (r0 : (Bool × (Bool × List Int))) =>
  I.former_num.l8 (shrI IntKind.u64 x 7) r0.snd.fst r0.snd.snd
 else
 (G.strings_Builder_WriteByte (m, m_1) (IntKind.u8.wrap x)).bind fun (r0 : (Bool × (Bool × List Int))) =>
  some ((), (r0.snd.fst, r0.snd.snd)) :=
  (runB_eq 81 _ _).trans (by kernel_rfl)
theorem I.former_text_eq (w : (Bool × List Int)) (s : ByteArray) : I.former_text w s =
  (I.former_num w (IntKind.u64.wrap (↑s.size : Int))).bind fun (r0 : (Unit × (Bool × List Int))) =>
 (G.strings_Builder_WriteString r0.snd s).bind fun (r1 : ((Int × Bool) × (Bool × List Int))) =>
 some ((), (r1.snd.fst, r1.snd.snd)) :=
  (fnB_eq 82 [PV.ad (Base.obj 0) 0, PV.s s] [[PV.slf 141 0 w.fst, PV.ol 5 w.snd]] rfl).trans (by kernel_rfl)
theorem I.hasA_eq (op : Int) : I.hasA op =
  bif op == 4 then
  bif op == 4 then
   some false
  else
  some true
 else
 bif op == 13 then
   bif op == 13 then
    some false
   else
   some true
  else
  bif op == 14 then
    bif op == 14 then
     some false
    else
    some true
   else
   bif op == 15 then
     bif op == 15 then
      some false
     else
     some true
    else
    bif op == 16 then
      some false
     else
     some true :=
  (fnA_eq 83 [PV.i IntKind.i64 op] rfl).trans (by kernel_rfl)
theorem G.strings_Builder_Len_eq (b : (Bool × List Int)) : G.strings_Builder_Len b =
  some ((↑b.snd.length : Int), (b.fst, b.snd)) :=
  (fnB_eq 84 [PV.ad (Base.obj 0) 0] [[PV.slf 141 0 b.fst, PV.ol 5 b.snd]] rfl).trans (by kernel_rfl)
noncomputable def I.form.l500 (t23 : List TFn) (t24 : Int) (t25 : Int) (m : Bool) (m_1 : List Int) : Option ByteArray := Y.runA 42 (fun ct c => at_ ct [true, true, true, true, false, true, false, false] c) ⟨[(3, .ad (.obj 0) 0), (23, .fl 71 t23), (24, .i IntKind.i64 t24), (25, .i IntKind.i64 t25)], [], [[.slf 141 0 m, .ol 5 m_1]], [], []⟩
noncomputable def I.form.l1025652 (t23 : List TFn) (t24 : Int) (t25 : Int) (t40 : List Int) (t41 : Int) (t42 : Int) (f : TFn) (m : Bool) (m_1 : List Int) : Option ByteArray := Y.runA 42 (fun ct c => at_ ct [true, true, true, true, false, true, false, false, true, true, false, false, true, true, true, false, true, false, false] c) ⟨[(3, .ad (.obj 0) 0), (5, .ad (.loc 5) 0), (23, .fl 71 t23), (24, .i IntKind.i64 t24), (25, .i IntKind.i64 t25), (40, .fl 3 t40), (41, .i IntKind.i64 t41), (42, .i IntKind.i64 t42)], [(5, cells 71 f)], [[.slf 141 0 m, .ol 5 m_1]], [], []⟩
noncomputable def I.form.l16410612 (t23 : List TFn) (t24 : Int) (t25 : Int) (t68 : List TIns) (t69 : Int) (t70 : Int) (m : Bool) (m_1 : List Int) : Option ByteArray := Y.runA 42 (fun ct c => at_ ct [true, true, true, true, false, true, false, false, true, true, false, false, true, true, true, true, true, true, true, false, true, false, false] c) ⟨[(3, .ad (.obj 0) 0), (23, .fl 71 t23), (24, .i IntKind.i64 t24), (25, .i IntKind.i64 t25), (68, .fl 111 t68), (69, .i IntKind.i64 t69), (70, .i IntKind.i64 t70)], [], [[.slf 141 0 m, .ol 5 m_1]], [], []⟩
noncomputable def I.form.l2100558439 (t23 : List TFn) (t24 : Int) (t25 : Int) (t68 : List TIns) (t69 : Int) (t70 : Int) (x : TIns) (m : Bool) (m_1 : List Int) : Option ByteArray := Y.runA 42 (fun ct c => at_ ct [true, true, true, true, false, true, false, false, true, true, false, false, true, true, true, true, true, true, true, false, true, false, false, true, true, false, false, true, true, true] c) ⟨[(3, .ad (.obj 0) 0), (9, .ad (.loc 9) 0), (23, .fl 71 t23), (24, .i IntKind.i64 t24), (25, .i IntKind.i64 t25), (68, .fl 111 t68), (69, .i IntKind.i64 t69), (70, .i IntKind.i64 t70)], [(9, cells 111 x)], [[.slf 141 0 m, .ol 5 m_1]], [], []⟩
theorem I.form_eq (c : TCode) : I.form c =
  (G.strings_Builder_WriteString (false, []) ((⟨#[109, 105, 108, 108, 49]⟩ : ByteArray))).bind fun (r0 : ((Int × Bool) × (Bool × List Int))) =>
 (I.former_num r0.snd (IntKind.u64.wrap (↑c.gFns.length : Int))).bind fun (r1 : (Unit × (Bool × List Int))) =>
 I.form.l500 c.gFns (↑c.gFns.length : Int) 0 r1.snd.fst r1.snd.snd :=
  (fnA_eq 42 [PV.st (cells 41 c)] rfl).trans (by kernel_rfl)
theorem I.form.l500_eq (t23 : List TFn) (t24 : Int) (t25 : Int) (m : Bool) (m_1 : List Int) : I.form.l500 t23 t24 t25 m m_1 =
  bif decide (t25 < t24) then
  bif inB t25 t23.length then
   (I.former_text (m, m_1) ((t23.getD t25.toNat TFn.z).gName)).bind fun (r0 : (Unit × (Bool × List Int))) =>
   (I.former_num r0.snd (IntKind.u64.wrap (↑(t23.getD t25.toNat TFn.z).gParams.length : Int))).bind fun (r1 : (Unit × (Bool × List Int))) =>
   I.form.l1025652 t23 t24 t25 ((t23.getD t25.toNat TFn.z).gParams) (↑(t23.getD t25.toNat TFn.z).gParams.length : Int) 0 (t23.getD t25.toNat TFn.z) r1.snd.fst r1.snd.snd
  else
  none
 else
 some (strOfBytes (List.map (fun (x : Int) ↦ x) m_1)) :=
  (runA_eq 42 _ _).trans (by kernel_rfl)
theorem I.form.l1025652_eq (t23 : List TFn) (t24 : Int) (t25 : Int) (t40 : List Int) (t41 : Int) (t42 : Int) (f : TFn) (m : Bool) (m_1 : List Int) : I.form.l1025652 t23 t24 t25 t40 t41 t42 f m m_1 =
  bif decide (t42 < t41) then
  bif inB t42 t40.length then
   (I.former_num (m, m_1) (IntKind.u64.wrap (t40.getD t42.toNat 0))).bind fun (r0 : (Unit × (Bool × List Int))) =>
   I.form.l1025652 t23 t24 t25 t40 t41 (IntKind.i64.wrap (t42 + 1)) f r0.snd.fst r0.snd.snd
  else
  none
 else
 (I.former_num (m, m_1) (IntKind.u64.wrap f.gResult)).bind fun (r0 : (Unit × (Bool × List Int))) =>
  (I.former_num r0.snd (IntKind.u64.wrap f.gSlots)).bind fun (r1 : (Unit × (Bool × List Int))) =>
  (I.former_num r1.snd (IntKind.u64.wrap (↑f.gIns.length : Int))).bind fun (r2 : (Unit × (Bool × List Int))) =>
  I.form.l16410612 t23 t24 t25 f.gIns (↑f.gIns.length : Int) 0 r2.snd.fst r2.snd.snd :=
  (runA_eq 42 _ _).trans (by kernel_rfl)
theorem I.form.l16410612_eq (t23 : List TFn) (t24 : Int) (t25 : Int) (t68 : List TIns) (t69 : Int) (t70 : Int) (m : Bool) (m_1 : List Int) : I.form.l16410612 t23 t24 t25 t68 t69 t70 m m_1 =
  bif decide (t70 < t69) then
  bif inB t70 t68.length then
   (I.former_num (m, m_1) (IntKind.u64.wrap (t68.getD t70.toNat TIns.z).gOp)).bind fun (r0 : (Unit × (Bool × List Int))) =>
   (I.hasA ((t68.getD t70.toNat TIns.z).gOp)).bind fun (r1 : Bool) =>
   bif r1 then
    (I.former_num r0.snd (IntKind.u64.wrap (t68.getD t70.toNat TIns.z).gA)).bind fun (r2 : (Unit × (Bool × List Int))) =>
    I.form.l2100558439 t23 t24 t25 t68 t69 t70 (t68.getD t70.toNat TIns.z) r2.snd.fst r2.snd.snd
   else
   I.form.l2100558439 t23 t24 t25 t68 t69 t70 (t68.getD t70.toNat TIns.z) r0.snd.fst r0.snd.snd
  else
  none
 else
 (G.strings_Builder_Len (m, m_1)).bind fun (r0 : (Int × (Bool × List Int))) =>
  bif decide (r0.fst > 200000) then
   some ((⟨#[]⟩ : ByteArray))
  else
  I.form.l500 t23 t24 (IntKind.i64.wrap (t25 + 1)) r0.snd.fst r0.snd.snd :=
  (runA_eq 42 _ _).trans (by kernel_rfl)
theorem I.form.l2100558439_eq (t23 : List TFn) (t24 : Int) (t25 : Int) (t68 : List TIns) (t69 : Int) (t70 : Int) (x : TIns) (m : Bool) (m_1 : List Int) : I.form.l2100558439 t23 t24 t25 t68 t69 t70 x m m_1 =
  bif x.gOp == 1 then
  bif x.gA == 2 then
   (I.former_text (m, m_1) x.gText).bind fun (r0 : (Unit × (Bool × List Int))) =>
   I.form.l16410612 t23 t24 t25 t68 t69 (IntKind.i64.wrap (t70 + 1)) r0.snd.fst r0.snd.snd
  else
  (I.former_num (m, m_1) (IntKind.u64.wrap x.gN)).bind fun (r0 : (Unit × (Bool × List Int))) =>
   I.form.l16410612 t23 t24 t25 t68 t69 (IntKind.i64.wrap (t70 + 1)) r0.snd.fst r0.snd.snd
 else
 I.form.l16410612 t23 t24 t25 t68 t69 (IntKind.i64.wrap (t70 + 1)) m m_1 :=
  (runA_eq 42 _ _).trans (by kernel_rfl)
theorem I.WriteCode_eq (c : TCode) : I.WriteCode c =
  (I.validCode c).bind fun (r0 : Bool) =>
 bif !r0 then
  some ((⟨#[]⟩ : ByteArray))
 else
 (I.form c).bind fun (r1 : ByteArray) =>
  some r1 :=
  (fnA_eq 21 [PV.st (cells 41 c)] rfl).trans (by kernel_rfl)
noncomputable def L.eqIntS.l116 (a : List Int) (b : List Int) (i : Int) : Option Bool := Y.runA 112 (fun ct c => at_ ct [true, true, false, true, false, false] c) ⟨[(0, .fl 3 a), (1, .fl 3 b), (5, .i IntKind.i64 i)], [], [], [], []⟩
theorem L.eqIntS_eq (a : List Int) (b : List Int) : L.eqIntS a b =
  bif (↑a.length : Int) != (↑b.length : Int) then
  some false
 else
 L.eqIntS.l116 a b 0 :=
  (fnA_eq 112 [PV.fl 3 a, PV.fl 3 b] rfl).trans (by kernel_rfl)
theorem L.eqIntS.l116_eq (a : List Int) (b : List Int) (i : Int) : L.eqIntS.l116 a b i =
  bif decide (i < (↑a.length : Int)) then
  bif inB i a.length then
   bif inB i b.length then
    bif a.getD i.toNat 0 != b.getD i.toNat 0 then
     some false
    else
    L.eqIntS.l116 a b (IntKind.i64.wrap (i + 1))
   else
   none
  else
  none
 else
 some true :=
  (runA_eq 112 _ _).trans (by kernel_rfl)
theorem L.eqIns_eq (a : TIns) (b : TIns) : L.eqIns a b =
  bif a.gOp != b.gOp then
  some false
 else
 bif a.gA != b.gA then
   some false
  else
  bif a.gN != b.gN then
    some false
   else
   bif !bEq a.gText b.gText then
     some false
    else
    some true :=
  (fnA_eq 137 [PV.st (cells 111 a), PV.st (cells 111 b)] rfl).trans (by kernel_rfl)
noncomputable def L.eqInsS.l116 (a : List TIns) (b : List TIns) (i : Int) : Option Bool := Y.runA 113 (fun ct c => at_ ct [true, true, false, true, false, false] c) ⟨[(0, .fl 111 a), (1, .fl 111 b), (5, .i IntKind.i64 i)], [], [], [], []⟩
theorem L.eqInsS_eq (a : List TIns) (b : List TIns) : L.eqInsS a b =
  bif (↑a.length : Int) != (↑b.length : Int) then
  some false
 else
 L.eqInsS.l116 a b 0 :=
  (fnA_eq 113 [PV.fl 111 a, PV.fl 111 b] rfl).trans (by kernel_rfl)
theorem L.eqInsS.l116_eq (a : List TIns) (b : List TIns) (i : Int) : L.eqInsS.l116 a b i =
  bif decide (i < (↑a.length : Int)) then
  bif inB i a.length then
   bif inB i b.length then
    (L.eqIns (a.getD i.toNat TIns.z) (b.getD i.toNat TIns.z)).bind fun (r0 : Bool) =>
    bif !r0 then
     some false
    else
    L.eqInsS.l116 a b (IntKind.i64.wrap (i + 1))
   else
   none
  else
  none
 else
 some true :=
  (runA_eq 113 _ _).trans (by kernel_rfl)
theorem L.eqFn_eq (a : TFn) (b : TFn) : L.eqFn a b =
  bif !bEq a.gName b.gName then
  some false
 else
 (L.eqIntS a.gParams b.gParams).bind fun (r0 : Bool) =>
  bif !r0 then
   some false
  else
  bif a.gResult != b.gResult then
    some false
   else
   bif a.gSlots != b.gSlots then
     some false
    else
    (L.eqInsS a.gIns b.gIns).bind fun (r1 : Bool) =>
     bif !r1 then
      some false
     else
     some true :=
  (fnA_eq 71 [PV.st (cells 71 a), PV.st (cells 71 b)] rfl).trans (by kernel_rfl)
noncomputable def L.eqFnS.l116 (a : List TFn) (b : List TFn) (i : Int) : Option Bool := Y.runA 36 (fun ct c => at_ ct [true, true, false, true, false, false] c) ⟨[(0, .fl 71 a), (1, .fl 71 b), (5, .i IntKind.i64 i)], [], [], [], []⟩
theorem L.eqFnS_eq (a : List TFn) (b : List TFn) : L.eqFnS a b =
  bif (↑a.length : Int) != (↑b.length : Int) then
  some false
 else
 L.eqFnS.l116 a b 0 :=
  (fnA_eq 36 [PV.fl 71 a, PV.fl 71 b] rfl).trans (by kernel_rfl)
theorem L.eqFnS.l116_eq (a : List TFn) (b : List TFn) (i : Int) : L.eqFnS.l116 a b i =
  bif decide (i < (↑a.length : Int)) then
  bif inB i a.length then
   bif inB i b.length then
    (L.eqFn (a.getD i.toNat TFn.z) (b.getD i.toNat TFn.z)).bind fun (r0 : Bool) =>
    bif !r0 then
     some false
    else
    L.eqFnS.l116 a b (IntKind.i64.wrap (i + 1))
   else
   none
  else
  none
 else
 some true :=
  (runA_eq 36 _ _).trans (by kernel_rfl)
theorem L.eqCode_eq (a : TCode) (b : TCode) : L.eqCode a b =
  (L.eqFnS a.gFns b.gFns).bind fun (r0 : Bool) =>
 bif !r0 then
  some false
 else
 some true :=
  (fnA_eq 16 [PV.st (cells 41 a), PV.st (cells 41 b)] rfl).trans (by kernel_rfl)
theorem L.FnExactWriteCode_eq (aC : TCode) : L.FnExactWriteCode aC =
  (L.szCode aC 1048576).bind fun (r0 : Int) =>
 bif decide (r0 < 0) then
  some true
 else
 (L.toCode aC).bind fun (r1 : TCode) =>
  (R.WriteCode r1).bind fun (r2 : ByteArray) =>
  (L.toCode aC).bind fun (r3 : TCode) =>
  (I.WriteCode r3).bind fun (r4 : ByteArray) =>
  bif !bEq r4 r2 then
   some false
  else
  (L.toCode aC).bind fun (r5 : TCode) =>
   (L.eqCode r3 r5).bind fun (r6 : Bool) =>
   bif !r6 then
    some false
   else
   some true :=
  (fnA_eq 6 [PV.st (cells 35 aC)] rfl).trans (by kernel_rfl)
end Go.KM.W1
