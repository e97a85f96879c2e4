/- The equations of the law's functions. Conditions: none. -/
import Derived.Test.YtgjcobbngimleaaDoorBSg
namespace Go.KM.B1
open Go Go.KM
open Go.KM.Fam (Dn dflt)
open Go.KM.Enc (cells sz mkE glob gany u8)
set_option autoImplicit false
set_option linter.unusedVariables false
set_option maxRecDepth 100000
theorem L.szValue_eq (a : TValue) (left : Int) : L.szValue a left =
  bif decide (IntKind.i64.wrap (left - (↑a.gText.size : Int)) < 0) then
  some (-1)
 else
 some (IntKind.i64.wrap (left - (↑a.gText.size : Int))) :=
  (fnA_eq 24 [PV.st (cells 51 a), PV.i IntKind.i64 left] rfl).trans (by kernel_rfl)
noncomputable def L.szValueS.l244 (a : List TValue) (left : Int) (i : Int) : Option Int := Y.runA 6 (fun ct c => at_ ct [true, true, true, false, true, false, false] c) ⟨[(0, .fl 51 a), (1, .i IntKind.i64 left), (5, .i IntKind.i64 i)], [], [], []⟩
theorem L.szValueS_eq (a : List TValue) (left : Int) : L.szValueS a left =
  bif decide (IntKind.i64.wrap (left - (↑a.length : Int)) < 0) then
  some (-1)
 else
 L.szValueS.l244 a (IntKind.i64.wrap (left - (↑a.length : Int))) 0 :=
  (fnA_eq 6 [PV.fl 51 a, PV.i IntKind.i64 left] rfl).trans (by kernel_rfl)
theorem L.szValueS.l244_eq (a : List TValue) (left : Int) (i : Int) : L.szValueS.l244 a left i =
  bif decide (i < (↑a.length : Int)) then
  bif inB i a.length then
   (L.szValue (a.getD i.toNat TValue.z) left).bind fun (r0 : Int) =>
   bif decide (r0 < 0) then
    some (-1)
   else
   L.szValueS.l244 a r0 (IntKind.i64.wrap (i + 1))
  else
  none
 else
 some left :=
  (runA_eq 6 _ _).trans (by kernel_rfl)
theorem L.toValue_eq (a : TValue) : L.toValue a =
  some a :=
  (fnA_eq 31 [PV.st (cells 51 a)] rfl).trans (by kernel_rfl)
noncomputable def L.toValueS.l116 (a : List TValue) (out : List TValue) (i : Int) : Option (List TValue) := Y.runA 8 (fun ct c => at_ ct [true, true, false, true, false, false] c) ⟨[(0, .fl 51 a), (3, .ol 25 out), (4, .i IntKind.i64 i)], [], [], []⟩
theorem L.toValueS_eq (a : List TValue) : L.toValueS a =
  bif decide (0 ≤ (↑a.length : Int)) && (↑a.length : Int) == (↑a.length : Int) && room a.length 32 then
  L.toValueS.l116 a (List.replicate a.length { gType := 0, gN := 0, gText := (⟨#[]⟩ : ByteArray) }) 0
 else
 none :=
  (fnA_eq 8 [PV.fl 51 a] rfl).trans (by kernel_rfl)
theorem L.toValueS.l116_eq (a : List TValue) (out : List TValue) (i : Int) : L.toValueS.l116 a out i =
  bif decide (i < (↑a.length : Int)) then
  bif inB i a.length then
   (L.toValue (a.getD i.toNat TValue.z)).bind fun (r0 : TValue) =>
   bif inB i out.length then
    L.toValueS.l116 a (out.set i.toNat { gType := r0.gType, gN := r0.gN, gText := r0.gText }) (IntKind.i64.wrap (i + 1))
   else
   none
  else
  none
 else
 some out :=
  (runA_eq 8 _ _).trans (by kernel_rfl)
theorem R.l1Integer_eq (t : Int) : R.l1Integer t =
  bif decide (t ≥ 3) then
  some (decide (t ≤ 10))
 else
 some false :=
  (fnA_eq 42 [PV.i IntKind.i64 t] rfl).trans (by kernel_rfl)
noncomputable def R.l1Bits.l53 (t3 : Int) (t4 : Bool) : Option Int := Y.runA 68 (fun ct c => at_ ct [true, false, true, false, true] c) ⟨[(3, .i IntKind.i64 t3), (4, .b t4)], [], [], []⟩
noncomputable def R.l1Bits.l215 (t3 : Int) (t7 : Bool) : Option Int := Y.runA 68 (fun ct c => at_ ct [true, false, true, false, true, true, true] c) ⟨[(3, .i IntKind.i64 t3), (7, .b t7)], [], [], []⟩
theorem R.l1Bits_eq (t : Int) : R.l1Bits t =
  bif t == 3 then
  R.l1Bits.l53 t (t == 3)
 else
 R.l1Bits.l53 t (t == 7) :=
  (fnA_eq 68 [PV.i IntKind.i64 t] rfl).trans (by kernel_rfl)
theorem R.l1Bits.l53_eq (t3 : Int) (t4 : Bool) : R.l1Bits.l53 t3 t4 =
  bif t4 then
  some 8
 else
 bif t3 == 4 then
   R.l1Bits.l215 t3 (t3 == 4)
  else
  R.l1Bits.l215 t3 (t3 == 8) :=
  (runA_eq 68 _ _).trans (by kernel_rfl)
theorem R.l1Bits.l215_eq (t3 : Int) (t7 : Bool) : R.l1Bits.l215 t3 t7 =
  bif t7 then
  some 16
 else
 bif t3 == 5 then
   bif t3 == 5 then
    some 32
   else
   some 64
  else
  bif t3 == 9 then
    some 32
   else
   some 64 :=
  (runA_eq 68 _ _).trans (by kernel_rfl)
theorem R.l1Signed_eq (t : Int) : R.l1Signed t =
  bif decide (t ≥ 7) then
  some (decide (t ≤ 10))
 else
 some false :=
  (fnA_eq 69 [PV.i IntKind.i64 t] rfl).trans (by kernel_rfl)
theorem R.l4Into_eq (t : Int) (bits : Int) : R.l4Into t bits =
  (R.l1Bits t).bind fun (r0 : Int) =>
 bif decide (r0 < 64) then
  bif decide (0 ≤ IntKind.u64.wrap r0) then
   bif shlI IntKind.u64 1 (IntKind.u64.wrap r0) != 0 then
    (R.l1Signed t).bind fun (r1 : Bool) =>
    bif r1 then
     bif decide (bits.tmod (shlI IntKind.u64 1 (IntKind.u64.wrap r0)) ≥ IntKind.u64.wrap ((shlI IntKind.u64 1 (IntKind.u64.wrap r0)).tdiv 2)) then
      some (IntKind.i64.wrap (IntKind.u64.wrap (bits.tmod (shlI IntKind.u64 1 (IntKind.u64.wrap r0)) - shlI IntKind.u64 1 (IntKind.u64.wrap r0))))
     else
     some (IntKind.i64.wrap (bits.tmod (shlI IntKind.u64 1 (IntKind.u64.wrap r0))))
    else
    some (IntKind.i64.wrap (bits.tmod (shlI IntKind.u64 1 (IntKind.u64.wrap r0))))
   else
   none
  else
  none
 else
 some (IntKind.i64.wrap bits) :=
  (fnA_eq 44 [PV.i IntKind.i64 t, PV.i IntKind.u64 bits] rfl).trans (by kernel_rfl)
theorem R.ValidValue_eq (v : TValue) : R.ValidValue v =
  bif v.gType == 1 then
  bif v.gN == 0 then
   some (bEq v.gText (⟨#[]⟩ : ByteArray))
  else
  bif v.gN == 1 then
    some (bEq v.gText (⟨#[]⟩ : ByteArray))
   else
   some false
 else
 bif v.gType == 2 then
   bif v.gN == 0 then
    some (decide ((↑v.gText.size : Int) ≤ 3000))
   else
   some false
  else
  (R.l1Integer v.gType).bind fun (r0 : Bool) =>
   bif r0 then
    bif bEq v.gText (⟨#[]⟩ : ByteArray) then
     (R.l4Into v.gType (IntKind.u64.wrap v.gN)).bind fun (r1 : Int) =>
     some (v.gN == r1)
    else
    some false
   else
   some false :=
  (fnA_eq 13 [PV.st (cells 25 v)] rfl).trans (by kernel_rfl)
noncomputable def R.l3Wants.l53 (t4 : Int) (t5 : Bool) : Option (List Int × Int) := Y.runA 57 (fun ct c => at_ ct [true, false, true, false, true] c) ⟨[(4, .i IntKind.i64 t4), (5, .b t5)], [], [], []⟩
noncomputable def R.l3Wants.l13823 (t4 : Int) (t18 : Bool) : Option (List Int × Int) := Y.runA 57 (fun ct c => at_ ct [true, false, true, false, true, true, true, true, true, true, true, true, true] c) ⟨[(4, .i IntKind.i64 t4), (18, .b t18)], [], [], []⟩
theorem R.l3Wants_eq (op : Int) : R.l3Wants op =
  bif op == 1 then
  R.l3Wants.l53 op (op == 1)
 else
 R.l3Wants.l53 op (op == 3) :=
  (fnA_eq 57 [PV.i IntKind.i64 op] rfl).trans (by kernel_rfl)
theorem R.l3Wants.l53_eq (t4 : Int) (t5 : Bool) : R.l3Wants.l53 t4 t5 =
  bif t5 then
  some ([2], 2)
 else
 bif t4 == 2 then
   some ([2], 1)
  else
  bif t4 == 4 then
    some ([2, 2], 2)
   else
   bif t4 == 5 then
     some ([], 2)
    else
    bif t4 == 6 then
      R.l3Wants.l13823 t4 (t4 == 6)
     else
     R.l3Wants.l13823 t4 (t4 == 12) :=
  (runA_eq 57 _ _).trans (by kernel_rfl)
theorem R.l3Wants.l13823_eq (t4 : Int) (t18 : Bool) : R.l3Wants.l13823 t4 t18 =
  bif t18 then
  some ([2], 10)
 else
 bif t4 == 7 then
   some ([2, 10], 3)
  else
  bif t4 == 8 then
    some ([2, 10, 10], 2)
   else
   bif t4 == 9 then
     some ([2, 2], 10)
    else
    bif t4 == 10 then
      some ([3], 2)
     else
     some ([0], 2) :=
  (runA_eq 57 _ _).trans (by kernel_rfl)
noncomputable def R.l3Built.l244 (have_ : List Int) (want : List Int) (gives : Int) (i : Int) : Option Int := Y.runA 25 (fun ct c => at_ ct [true, true, true, false, true, false, false] c) ⟨[(1, .fl 3 have_), (5, .fl 3 want), (6, .i IntKind.i64 gives), (7, .i IntKind.i64 i)], [], [], []⟩
theorem R.l3Built_eq (op : Int) (have_ : List Int) : R.l3Built op have_ =
  (R.l3Wants op).bind fun (r0 : (List Int × Int)) =>
 bif (↑(List.length r0.fst) : Int) != (↑have_.length : Int) then
  some 0
 else
 R.l3Built.l244 have_ r0.fst r0.snd 0 :=
  (fnA_eq 25 [PV.i IntKind.i64 op, PV.fl 3 have_] rfl).trans (by kernel_rfl)
theorem R.l3Built.l244_eq (have_ : List Int) (want : List Int) (gives : Int) (i : Int) : R.l3Built.l244 have_ want gives i =
  bif decide (i < (↑(List.length want) : Int)) then
  bif inB i have_.length then
   bif inB i (List.length want) then
    bif have_.getD i.toNat 0 != List.getD want i.toNat 0 then
     bif inB i (List.length want) then
      bif List.getD want i.toNat 0 != 0 then
       some 0
      else
      bif inB i have_.length then
        (R.l1Integer (have_.getD i.toNat 0)).bind fun (r0 : Bool) =>
        bif !r0 then
         some 0
        else
        R.l3Built.l244 have_ want gives (IntKind.i64.wrap (i + 1))
       else
       none
     else
     none
    else
    R.l3Built.l244 have_ want gives (IntKind.i64.wrap (i + 1))
   else
   none
  else
  none
 else
 some gives :=
  (runA_eq 25 _ _).trans (by kernel_rfl)
theorem R.l4Text_eq (s : ByteArray) : R.l4Text s =
  some (⟨2, 0, s⟩ : TValue) :=
  (fnA_eq 28 [PV.s s] rfl).trans (by kernel_rfl)
theorem R.l4Cut_eq (s : ByteArray) (i : Int) (j : Int) : R.l4Cut s i j =
  bif decide (i < 0) then
  some ((⟨0, 0, (⟨#[]⟩ : ByteArray)⟩ : TValue), (⟨#[114, 97, 110, 103, 101]⟩ : ByteArray))
 else
 bif decide (i > j) then
   some ((⟨0, 0, (⟨#[]⟩ : ByteArray)⟩ : TValue), (⟨#[114, 97, 110, 103, 101]⟩ : ByteArray))
  else
  bif decide (j > (↑s.size : Int)) then
    some ((⟨0, 0, (⟨#[]⟩ : ByteArray)⟩ : TValue), (⟨#[114, 97, 110, 103, 101]⟩ : ByteArray))
   else
   bif inS i j s.size then
     (R.l4Text (s.extract i.toNat j.toNat)).bind fun (r0 : TValue) =>
     some (r0, (⟨#[]⟩ : ByteArray))
    else
    none :=
  (fnA_eq 26 [PV.s s, PV.i IntKind.i64 i, PV.i IntKind.i64 j] rfl).trans (by kernel_rfl)
noncomputable def R.l4Find.l52 (s : ByteArray) (x : ByteArray) (i : Int) : Option Int := Y.runA 27 (fun ct c => at_ ct [true, false, true, false, false] c) ⟨[(0, .s s), (1, .s x), (5, .i IntKind.i64 i)], [], [], []⟩
theorem R.l4Find_eq (s : ByteArray) (x : ByteArray) : R.l4Find s x =
  R.l4Find.l52 s x 0 :=
  (fnA_eq 27 [PV.s s, PV.s x] rfl).trans (by kernel_rfl)
theorem R.l4Find.l52_eq (s : ByteArray) (x : ByteArray) (i : Int) : R.l4Find.l52 s x i =
  bif decide (IntKind.i64.wrap (i + (↑x.size : Int)) ≤ (↑s.size : Int)) then
  bif inS i (IntKind.i64.wrap (i + (↑x.size : Int))) s.size then
   bif bEq (s.extract i.toNat (IntKind.i64.wrap (i + (↑x.size : Int))).toNat) x then
    some i
   else
   R.l4Find.l52 s x (IntKind.i64.wrap (i + 1))
  else
  none
 else
 some (-1) :=
  (runA_eq 27 _ _).trans (by kernel_rfl)
theorem R.l4Abs_eq (t : Int) (a : Int) : R.l4Abs t a =
  (R.l1Signed t).bind fun (r0 : Bool) =>
 bif r0 then
  bif decide (a < 0) then
   some (IntKind.u64.wrap (0 - IntKind.u64.wrap a), true)
  else
  some (IntKind.u64.wrap a, false)
 else
 some (IntKind.u64.wrap a, false) :=
  (fnA_eq 58 [PV.i IntKind.i64 t, PV.i IntKind.i64 a] rfl).trans (by kernel_rfl)
theorem R.l1Decimal_eq (n : Int) : R.l1Decimal n =
  bif decide (n < 10) then
  some (strOfBytes (List.map (fun (x : Int) ↦ x) [IntKind.u8.wrap (IntKind.u64.wrap (48 + n))]))
 else
 (R.l1Decimal (IntKind.u64.wrap (n.tdiv 10))).bind fun (r0 : ByteArray) =>
  bif decide (ByteArray.size r0 + (strOfBytes (List.map (fun (x : Int) ↦ x) [IntKind.u8.wrap (IntKind.u64.wrap (48 + n.tmod 10))])).size < 2 ^ 62) then
   some (r0 ++ strOfBytes (List.map (fun (x : Int) ↦ x) [IntKind.u8.wrap (IntKind.u64.wrap (48 + n.tmod 10))]))
  else
  none :=
  (fnA_eq 59 [PV.i IntKind.u64 n] rfl).trans (by kernel_rfl)
theorem R.l4Dec_eq (t : Int) (n : Int) : R.l4Dec t n =
  (R.l4Abs t n).bind fun (r0 : (Int × Bool)) =>
 bif r0.snd then
  (R.l1Decimal r0.fst).bind fun (r1 : ByteArray) =>
  bif decide ((⟨#[45]⟩ : ByteArray).size + ByteArray.size r1 < 2 ^ 62) then
   some ((⟨#[45]⟩ : ByteArray) ++ r1)
  else
  none
 else
 (R.l1Decimal r0.fst).bind fun (r1 : ByteArray) =>
  some r1 :=
  (fnA_eq 29 [PV.i IntKind.i64 t, PV.i IntKind.i64 n] rfl).trans (by kernel_rfl)
noncomputable def R.l4Parse.l244 (s : ByteArray) (n : Int) (i : Int) : Option (Int × Bool) := Y.runA 30 (fun ct c => at_ ct [true, true, true, false, true, false, false] c) ⟨[(0, .s s), (4, .i IntKind.u64 n), (5, .i IntKind.i64 i)], [], [], []⟩
noncomputable def R.l4Parse.l8020 (s : ByteArray) (n : Int) (i : Int) : Option (Int × Bool) := Y.runA 30 (fun ct c => at_ ct [true, true, true, true, false, true, false, true, false, true, false, false] c) ⟨[(0, .s s), (4, .i IntKind.u64 n), (6, .i IntKind.i64 i)], [], [], []⟩
theorem R.l4Parse_eq (s : ByteArray) : R.l4Parse s =
  bif decide ((↑s.size : Int) < 1) then
  some (0, false)
 else
 bif decide ((↑s.size : Int) > 20) then
   some (0, false)
  else
  R.l4Parse.l244 s 0 0 :=
  (fnA_eq 30 [PV.s s] rfl).trans (by kernel_rfl)
theorem R.l4Parse.l244_eq (s : ByteArray) (n : Int) (i : Int) : R.l4Parse.l244 s n i =
  bif decide (i < (↑s.size : Int)) then
  bif inB i s.size then
   R.l4Parse.l244 s (IntKind.u64.wrap (IntKind.u64.wrap (IntKind.u64.wrap (n * 10) + IntKind.u64.wrap (bt s i)) - 48)) (IntKind.i64.wrap (i + 1))
  else
  none
 else
 bif inB 0 s.size then
   bif bt s 0 == 45 then
    R.l4Parse.l8020 s 0 1
   else
   (R.l4Dec 10 (IntKind.i64.wrap n)).bind fun (r0 : ByteArray) =>
    some (IntKind.i64.wrap n, bEq r0 s)
  else
  none :=
  (runA_eq 30 _ _).trans (by kernel_rfl)
theorem R.l4Parse.l8020_eq (s : ByteArray) (n : Int) (i : Int) : R.l4Parse.l8020 s n i =
  bif decide (i < (↑s.size : Int)) then
  bif inB i s.size then
   R.l4Parse.l8020 s (IntKind.u64.wrap (IntKind.u64.wrap (IntKind.u64.wrap (n * 10) + IntKind.u64.wrap (bt s i)) - 48)) (IntKind.i64.wrap (i + 1))
  else
  none
 else
 (R.l4Dec 10 (IntKind.i64.wrap (IntKind.u64.wrap (0 - n)))).bind fun (r0 : ByteArray) =>
  some (IntKind.i64.wrap (IntKind.u64.wrap (0 - n)), bEq r0 s) :=
  (runA_eq 30 _ _).trans (by kernel_rfl)
noncomputable def R.Built.l244 (op : Int) (args : List TValue) (have_ : List Int) (i : Int) (t4 : TValue) : Option (TValue × ByteArray) := Y.runA 7 (fun ct c => at_ ct [true, true, true, false, true, false, false] c) ⟨[(0, .i IntKind.i64 op), (1, .fl 25 args), (4, .ad (.loc 4) 0), (6, .ol 3 have_), (7, .i IntKind.i64 i)], [(4, cells 25 t4)], [], []⟩
theorem R.Built_eq (op : Int) (args : List TValue) : R.Built op args =
  bif decide (op < 6) then
  some ((⟨0, 0, (⟨#[]⟩ : ByteArray)⟩ : TValue), (⟨#[116, 121, 112, 101]⟩ : ByteArray))
 else
 bif decide (op > 12) then
   some ((⟨0, 0, (⟨#[]⟩ : ByteArray)⟩ : TValue), (⟨#[116, 121, 112, 101]⟩ : ByteArray))
  else
  bif decide ((↑args.length : Int) > 3) then
    some ((⟨0, 0, (⟨#[]⟩ : ByteArray)⟩ : TValue), (⟨#[116, 121, 112, 101]⟩ : ByteArray))
   else
   R.Built.l244 op args ([]) 0 (⟨0, 0, (⟨#[]⟩ : ByteArray)⟩ : TValue) :=
  (fnA_eq 7 [PV.i IntKind.i64 op, PV.fl 25 args] rfl).trans (by kernel_rfl)
theorem R.Built.l244_eq (op : Int) (args : List TValue) (have_ : List Int) (i : Int) (t4 : TValue) : R.Built.l244 op args have_ i t4 =
  bif decide (i < (↑args.length : Int)) then
  bif inB i args.length then
   (R.ValidValue (args.getD i.toNat TValue.z)).bind fun (r0 : Bool) =>
   bif !r0 then
    some ((⟨0, 0, (⟨#[]⟩ : ByteArray)⟩ : TValue), (⟨#[116, 121, 112, 101]⟩ : ByteArray))
   else
   bif inB i args.length then
     bif room (have_.length + [(args.getD i.toNat TValue.z).gType].length) 8 then
      R.Built.l244 op args (have_ ++ [(args.getD i.toNat TValue.z).gType]) (IntKind.i64.wrap (i + 1)) t4
     else
     none
    else
    none
  else
  none
 else
 (R.l3Built op have_).bind fun (r0 : Int) =>
  bif r0 == 0 then
   some ((⟨0, 0, (⟨#[]⟩ : ByteArray)⟩ : TValue), (⟨#[116, 121, 112, 101]⟩ : ByteArray))
  else
  bif inB 0 args.length then
    bif op == 6 then
     some ((⟨10, (↑(args.getD 0 TValue.z).gText.size : Int), (⟨#[]⟩ : ByteArray)⟩ : TValue), (⟨#[]⟩ : ByteArray))
    else
    bif op == 7 then
      bif inB 1 args.length then
       bif decide ((args.getD 1 TValue.z).gN < 0) then
        some ((⟨0, 0, (⟨#[]⟩ : ByteArray)⟩ : TValue), (⟨#[114, 97, 110, 103, 101]⟩ : ByteArray))
       else
       bif inB 1 args.length then
         bif decide ((args.getD 1 TValue.z).gN ≥ (↑(args.getD 0 TValue.z).gText.size : Int)) then
          some ((⟨0, 0, (⟨#[]⟩ : ByteArray)⟩ : TValue), (⟨#[114, 97, 110, 103, 101]⟩ : ByteArray))
         else
         bif inB 1 args.length then
           bif inB (args.getD 1 TValue.z).gN (args.getD 0 TValue.z).gText.size then
            some ((⟨3, IntKind.i64.wrap (bt (args.getD 0 TValue.z).gText (args.getD 1 TValue.z).gN), (⟨#[]⟩ : ByteArray)⟩ : TValue), (⟨#[]⟩ : ByteArray))
           else
           none
          else
          none
        else
        none
      else
      none
     else
     bif op == 8 then
       bif inB 1 args.length then
        bif inB 2 args.length then
         (R.l4Cut ((args.getD 0 TValue.z).gText) ((args.getD 1 TValue.z).gN) ((args.getD 2 TValue.z).gN)).bind fun (r1 : (TValue × ByteArray)) =>
         some (r1.fst, r1.snd)
        else
        none
       else
       none
      else
      bif op == 9 then
        bif inB 1 args.length then
         (R.l4Find ((args.getD 0 TValue.z).gText) ((args.getD 1 TValue.z).gText)).bind fun (r1 : Int) =>
         some ((⟨10, r1, (⟨#[]⟩ : ByteArray)⟩ : TValue), (⟨#[]⟩ : ByteArray))
        else
        none
       else
       bif op == 10 then
         (R.l4Text (strOfBytes (List.map (fun (x : Int) ↦ x) [IntKind.u8.wrap (args.getD 0 TValue.z).gN]))).bind fun (r1 : TValue) =>
         some (r1, (⟨#[]⟩ : ByteArray))
        else
        bif op == 11 then
          (R.l4Dec ((args.getD 0 TValue.z).gType) ((args.getD 0 TValue.z).gN)).bind fun (r1 : ByteArray) =>
          (R.l4Text r1).bind fun (r2 : TValue) =>
          some (r2, (⟨#[]⟩ : ByteArray))
         else
         (R.l4Parse ((args.getD 0 TValue.z).gText)).bind fun (r1 : (Int × Bool)) =>
          bif !r1.snd then
           some ((⟨0, 0, (⟨#[]⟩ : ByteArray)⟩ : TValue), (⟨#[110, 117, 109, 98, 101, 114]⟩ : ByteArray))
          else
          some ((⟨10, r1.fst, (⟨#[]⟩ : ByteArray)⟩ : TValue), (⟨#[]⟩ : ByteArray))
   else
   none :=
  (runA_eq 7 _ _).trans (by kernel_rfl)
theorem I.integer_eq (t : Int) : I.integer t =
  bif decide (t ≥ 3) then
  some (decide (t ≤ 10))
 else
 some false :=
  (fnA_eq 52 [PV.i IntKind.i64 t] rfl).trans (by kernel_rfl)
noncomputable def I.bits.l53 (t3 : Int) (t4 : Bool) : Option Int := Y.runA 71 (fun ct c => at_ ct [true, false, true, false, true] c) ⟨[(3, .i IntKind.i64 t3), (4, .b t4)], [], [], []⟩
noncomputable def I.bits.l215 (t3 : Int) (t7 : Bool) : Option Int := Y.runA 71 (fun ct c => at_ ct [true, false, true, false, true, true, true] c) ⟨[(3, .i IntKind.i64 t3), (7, .b t7)], [], [], []⟩
theorem I.bits_eq (t : Int) : I.bits t =
  bif t == 3 then
  I.bits.l53 t (t == 3)
 else
 I.bits.l53 t (t == 7) :=
  (fnA_eq 71 [PV.i IntKind.i64 t] rfl).trans (by kernel_rfl)
theorem I.bits.l53_eq (t3 : Int) (t4 : Bool) : I.bits.l53 t3 t4 =
  bif t4 then
  some 8
 else
 bif t3 == 4 then
   I.bits.l215 t3 (t3 == 4)
  else
  I.bits.l215 t3 (t3 == 8) :=
  (runA_eq 71 _ _).trans (by kernel_rfl)
theorem I.bits.l215_eq (t3 : Int) (t7 : Bool) : I.bits.l215 t3 t7 =
  bif t7 then
  some 16
 else
 bif t3 == 5 then
   bif t3 == 5 then
    some 32
   else
   some 64
  else
  bif t3 == 9 then
    some 32
   else
   some 64 :=
  (runA_eq 71 _ _).trans (by kernel_rfl)
theorem I.signed_eq (t : Int) : I.signed t =
  some (decide (t ≥ 7)) :=
  (fnA_eq 61 [PV.i IntKind.i64 t] rfl).trans (by kernel_rfl)
theorem I.into_eq (x : Int) (t : Int) : I.into x t =
  (I.bits t).bind fun (r0 : Int) =>
 bif r0 == 64 then
  some (IntKind.i64.wrap x)
 else
 bif decide (0 ≤ r0) then
   (I.signed t).bind fun (r1 : Bool) =>
   bif r1 then
    bif decide (0 ≤ IntKind.u64.wrap (r0 - 1)) then
     bif shrI IntKind.u64 (bitAnd IntKind.u64 x (IntKind.u64.wrap (shlI IntKind.u64 1 r0 - 1))) (IntKind.u64.wrap (r0 - 1)) == 1 then
      bif decide (0 ≤ r0) then
       some (IntKind.i64.wrap (bitOr IntKind.u64 (bitAnd IntKind.u64 x (IntKind.u64.wrap (shlI IntKind.u64 1 r0 - 1))) (shlI IntKind.u64 18446744073709551615 r0)))
      else
      none
     else
     some (IntKind.i64.wrap (bitAnd IntKind.u64 x (IntKind.u64.wrap (shlI IntKind.u64 1 r0 - 1))))
    else
    none
   else
   some (IntKind.i64.wrap (bitAnd IntKind.u64 x (IntKind.u64.wrap (shlI IntKind.u64 1 r0 - 1))))
  else
  none :=
  (fnA_eq 50 [PV.i IntKind.u64 x, PV.i IntKind.i64 t] rfl).trans (by kernel_rfl)
theorem I.ValidValue_eq (v : TValue) : I.ValidValue v =
  bif v.gType == 1 then
  bif v.gN == 0 then
   some (bEq v.gText (⟨#[]⟩ : ByteArray))
  else
  bif v.gN == 1 then
    some (bEq v.gText (⟨#[]⟩ : ByteArray))
   else
   some false
 else
 bif v.gType == 2 then
   bif v.gN == 0 then
    some (decide ((↑v.gText.size : Int) ≤ 3000))
   else
   some false
  else
  (I.integer v.gType).bind fun (r0 : Bool) =>
   bif r0 then
    bif bEq v.gText (⟨#[]⟩ : ByteArray) then
     (I.into (IntKind.u64.wrap v.gN) v.gType).bind fun (r1 : Int) =>
     some (r1 == v.gN)
    else
    some false
   else
   some false :=
  (fnA_eq 17 [PV.st (cells 25 v)] rfl).trans (by kernel_rfl)
noncomputable def I.builtType.l500 (op : Int) (want : List Int) (t35 : List Int) (t36 : Int) (t37 : Int) : Option Int := Y.runA 32 (fun ct c => at_ ct [true, true, true, true, false, true, false, false] c) ⟨[(0, .i IntKind.i64 op), (5, .fl 3 want), (35, .fl 3 t35), (36, .i IntKind.i64 t36), (37, .i IntKind.i64 t37)], [], [], []⟩
theorem I.builtType_eq (op : Int) (kids : List Int) : I.builtType op kids =
  bif decide (op < 1) then
  some 0
 else
 bif decide (op > 12) then
   some 0
  else
  bif inB op [[], [2], [2], [2], [2, 2], [], [2], [2, 10], [2, 10, 10], [2, 2], [3], [-1], [2]].length then
    bif (↑kids.length : Int) != (↑(List.length ([[], [2], [2], [2], [2, 2], [], [2], [2, 10], [2, 10, 10], [2, 2], [3], [-1], [2]].getD op.toNat [])) : Int) then
     some 0
    else
    I.builtType.l500 op ([[], [2], [2], [2], [2, 2], [], [2], [2, 10], [2, 10, 10], [2, 2], [3], [-1], [2]].getD op.toNat []) kids (↑kids.length : Int) 0
   else
   none :=
  (fnA_eq 32 [PV.i IntKind.i64 op, PV.fl 3 kids] rfl).trans (by kernel_rfl)
theorem I.builtType.l500_eq (op : Int) (want : List Int) (t35 : List Int) (t36 : Int) (t37 : Int) : I.builtType.l500 op want t35 t36 t37 =
  bif decide (t37 < t36) then
  bif inB t37 t35.length then
   bif inB t37 (List.length want) then
    bif List.getD want t37.toNat 0 == -1 then
     (I.integer (t35.getD t37.toNat 0)).bind fun (r0 : Bool) =>
     bif r0 then
      I.builtType.l500 op want t35 t36 (IntKind.i64.wrap (t37 + 1))
     else
     bif inB t37 (List.length want) then
       bif List.getD want t37.toNat 0 == t35.getD t37.toNat 0 then
        I.builtType.l500 op want t35 t36 (IntKind.i64.wrap (t37 + 1))
       else
       some 0
      else
      none
    else
    bif inB t37 (List.length want) then
      bif List.getD want t37.toNat 0 == t35.getD t37.toNat 0 then
       I.builtType.l500 op want t35 t36 (IntKind.i64.wrap (t37 + 1))
      else
      some 0
     else
     none
   else
   none
  else
  none
 else
 bif inB op [0, 2, 1, 2, 2, 2, 10, 3, 2, 10, 2, 2, 10].length then
   some ([0, 2, 1, 2, 2, 2, 10, 3, 2, 10, 2, 2, 10].getD op.toNat 0)
  else
  none :=
  (runA_eq 32 _ _).trans (by kernel_rfl)
theorem I.vInt_eq (n : Int) : I.vInt n =
  some (⟨10, n, (⟨#[]⟩ : ByteArray)⟩ : TValue) :=
  (fnA_eq 33 [PV.i IntKind.i64 n] rfl).trans (by kernel_rfl)
theorem I.vText_eq (s : ByteArray) : I.vText s =
  some (⟨2, 0, s⟩ : TValue) :=
  (fnA_eq 34 [PV.s s] rfl).trans (by kernel_rfl)
theorem I.decimal_eq (v : TValue) : I.decimal v =
  (I.signed v.gType).bind fun (r0 : Bool) =>
 bif r0 then
  bif decide (-9223372036854775808 ≤ v.gN) && decide (v.gN ≤ 9223372036854775807) && 10 == 10 then
   some ({ data := (Lib.itoa v.gN).toArray })
  else
  none
 else
 bif decide (0 ≤ IntKind.u64.wrap v.gN) && decide (IntKind.u64.wrap v.gN < 18446744073709551616) && 10 == 10 then
   some ({ data := (Lib.decDigits (IntKind.u64.wrap v.gN).toNat).toArray })
  else
  none :=
  (fnA_eq 36 [PV.st (cells 25 v)] rfl).trans (by kernel_rfl)
noncomputable def I.Built.l116 (op : Int) (args : List TValue) (ts : List Int) (t16 : List TValue) (t17 : Int) (t18 : Int) (t4 : TValue) : Option (TValue × ByteArray) := Y.runA 9 (fun ct c => at_ ct [true, true, false, true, false, false] c) ⟨[(0, .i IntKind.i64 op), (1, .fl 25 args), (4, .ad (.loc 4) 0), (6, .ol 3 ts), (16, .fl 25 t16), (17, .i IntKind.i64 t17), (18, .i IntKind.i64 t18)], [(4, cells 25 t4)], [], []⟩
theorem I.Built_eq (op : Int) (args : List TValue) : I.Built op args =
  I.Built.l116 op args ([]) args (↑args.length : Int) 0 (⟨0, 0, (⟨#[]⟩ : ByteArray)⟩ : TValue) :=
  (fnA_eq 9 [PV.i IntKind.i64 op, PV.fl 25 args] rfl).trans (by kernel_rfl)
theorem I.Built.l116_eq (op : Int) (args : List TValue) (ts : List Int) (t16 : List TValue) (t17 : Int) (t18 : Int) (t4 : TValue) : I.Built.l116 op args ts t16 t17 t18 t4 =
  bif decide (t18 < t17) then
  bif inB t18 t16.length then
   (I.ValidValue (t16.getD t18.toNat TValue.z)).bind fun (r0 : Bool) =>
   bif !r0 then
    some ((⟨0, 0, (⟨#[]⟩ : ByteArray)⟩ : TValue), (⟨#[116, 121, 112, 101]⟩ : ByteArray))
   else
   bif room (ts.length + [(t16.getD t18.toNat TValue.z).gType].length) 8 then
     I.Built.l116 op args (ts ++ [(t16.getD t18.toNat TValue.z).gType]) t16 t17 (IntKind.i64.wrap (t18 + 1)) t4
    else
    none
  else
  none
 else
 bif decide (op ≤ 5) then
   some ((⟨0, 0, (⟨#[]⟩ : ByteArray)⟩ : TValue), (⟨#[116, 121, 112, 101]⟩ : ByteArray))
  else
  (I.builtType op ts).bind fun (r0 : Int) =>
   bif r0 == 0 then
    some ((⟨0, 0, (⟨#[]⟩ : ByteArray)⟩ : TValue), (⟨#[116, 121, 112, 101]⟩ : ByteArray))
   else
   bif inB 0 args.length then
     bif op == 6 then
      (I.vInt (↑(args.getD 0 TValue.z).gText.size : Int)).bind fun (r1 : TValue) =>
      some (r1, (⟨#[]⟩ : ByteArray))
     else
     bif op == 7 then
       bif inB 1 args.length then
        bif decide ((args.getD 1 TValue.z).gN < 0) then
         some ((⟨0, 0, (⟨#[]⟩ : ByteArray)⟩ : TValue), (⟨#[114, 97, 110, 103, 101]⟩ : ByteArray))
        else
        bif decide ((args.getD 1 TValue.z).gN ≥ (↑(args.getD 0 TValue.z).gText.size : Int)) then
          some ((⟨0, 0, (⟨#[]⟩ : ByteArray)⟩ : TValue), (⟨#[114, 97, 110, 103, 101]⟩ : ByteArray))
         else
         bif inB (args.getD 1 TValue.z).gN (args.getD 0 TValue.z).gText.size then
           some ((⟨3, IntKind.i64.wrap (bt (args.getD 0 TValue.z).gText (args.getD 1 TValue.z).gN), (⟨#[]⟩ : ByteArray)⟩ : TValue), (⟨#[]⟩ : ByteArray))
          else
          none
       else
       none
      else
      bif op == 8 then
        bif inB 1 args.length then
         bif inB 2 args.length then
          bif decide ((args.getD 1 TValue.z).gN < 0) then
           some ((⟨0, 0, (⟨#[]⟩ : ByteArray)⟩ : TValue), (⟨#[114, 97, 110, 103, 101]⟩ : ByteArray))
          else
          bif decide ((args.getD 2 TValue.z).gN < (args.getD 1 TValue.z).gN) then
            some ((⟨0, 0, (⟨#[]⟩ : ByteArray)⟩ : TValue), (⟨#[114, 97, 110, 103, 101]⟩ : ByteArray))
           else
           bif decide ((args.getD 2 TValue.z).gN > (↑(args.getD 0 TValue.z).gText.size : Int)) then
            some ((⟨0, 0, (⟨#[]⟩ : ByteArray)⟩ : TValue), (⟨#[114, 97, 110, 103, 101]⟩ : ByteArray))
            else
            bif inS (args.getD 1 TValue.z).gN (args.getD 2 TValue.z).gN (args.getD 0 TValue.z).gText.size then
            (I.vText ((args.getD 0 TValue.z).gText.extract (args.getD 1 TValue.z).gN.toNat (args.getD 2 TValue.z).gN.toNat)).bind fun (r1 : TValue) =>
            some (r1, (⟨#[]⟩ : ByteArray))
            else
            none
         else
         none
        else
        none
       else
       bif op == 9 then
         bif inB 1 args.length then
          bif decide ((args.getD 0 TValue.z).gText.size < 4294967281) then
           (I.vInt (Lib.index (args.getD 0 TValue.z).gText.data.toList (args.getD 1 TValue.z).gText.data.toList)).bind fun (r1 : TValue) =>
           some (r1, (⟨#[]⟩ : ByteArray))
          else
          none
         else
         none
        else
        bif op == 10 then
          bif inB 0 args.length then
           (I.vText (strOfBytes (List.map (fun (x : Int) ↦ x) [IntKind.u8.wrap (args.getD 0 TValue.z).gN]))).bind fun (r1 : TValue) =>
           some (r1, (⟨#[]⟩ : ByteArray))
          else
          none
         else
         bif op == 11 then
           bif inB 0 args.length then
            (I.decimal (args.getD 0 TValue.z)).bind fun (r1 : ByteArray) =>
            (I.vText r1).bind fun (r2 : TValue) =>
            some (r2, (⟨#[]⟩ : ByteArray))
           else
           none
          else
          bif decide ((args.getD 0 TValue.z).gText.size ≤ 281474976710656) && 10 == 10 && 64 == 64 then
            bif !(pInt (args.getD 0 TValue.z).gText).snd then
            some ((⟨0, 0, (⟨#[]⟩ : ByteArray)⟩ : TValue), (⟨#[110, 117, 109, 98, 101, 114]⟩ : ByteArray))
            else
            bif decide (-9223372036854775808 ≤ (pInt (args.getD 0 TValue.z).gText).fst) && decide ((pInt (args.getD 0 TValue.z).gText).fst ≤ 9223372036854775807) && 10 == 10 then
            bif !bEq { data := (Lib.itoa (pInt (args.getD 0 TValue.z).gText).fst).toArray } (args.getD 0 TValue.z).gText then
            some ((⟨0, 0, (⟨#[]⟩ : ByteArray)⟩ : TValue), (⟨#[110, 117, 109, 98, 101, 114]⟩ : ByteArray))
            else
            (I.vInt ((pInt (args.getD 0 TValue.z).gText).fst)).bind fun (r1 : TValue) =>
            some (r1, (⟨#[]⟩ : ByteArray))
            else
            none
           else
           none
    else
    none :=
  (runA_eq 9 _ _).trans (by kernel_rfl)
theorem L.eqValue_eq (a : TValue) (b : TValue) : L.eqValue a b =
  bif a.gType != b.gType then
  some false
 else
 bif a.gN != b.gN then
   some false
  else
  bif !bEq a.gText b.gText then
    some false
   else
   some true :=
  (fnA_eq 10 [PV.st (cells 25 a), PV.st (cells 25 b)] rfl).trans (by kernel_rfl)
noncomputable def L.eqValueS.l116 (a : List TValue) (b : List TValue) (i : Int) : Option Bool := Y.runA 11 (fun ct c => at_ ct [true, true, false, true, false, false] c) ⟨[(0, .fl 25 a), (1, .fl 25 b), (5, .i IntKind.i64 i)], [], [], []⟩
theorem L.eqValueS_eq (a : List TValue) (b : List TValue) : L.eqValueS a b =
  bif (↑a.length : Int) != (↑b.length : Int) then
  some false
 else
 L.eqValueS.l116 a b 0 :=
  (fnA_eq 11 [PV.fl 25 a, PV.fl 25 b] rfl).trans (by kernel_rfl)
theorem L.eqValueS.l116_eq (a : List TValue) (b : List TValue) (i : Int) : L.eqValueS.l116 a b i =
  bif decide (i < (↑a.length : Int)) then
  bif inB i a.length then
   bif inB i b.length then
    (L.eqValue (a.getD i.toNat TValue.z) (b.getD i.toNat TValue.z)).bind fun (r0 : Bool) =>
    bif !r0 then
     some false
    else
    L.eqValueS.l116 a b (IntKind.i64.wrap (i + 1))
   else
   none
  else
  none
 else
 some true :=
  (runA_eq 11 _ _).trans (by kernel_rfl)
theorem L.FnExactBuilt_eq (aOp : Int) (aArgs : List TValue) : L.FnExactBuilt aOp aArgs =
  (L.szValueS aArgs 1048576).bind fun (r0 : Int) =>
 bif decide (r0 < 0) then
  some true
 else
 (L.toValueS aArgs).bind fun (r1 : List TValue) =>
  (R.Built aOp r1).bind fun (r2 : (TValue × ByteArray)) =>
  (L.toValueS aArgs).bind fun (r3 : List TValue) =>
  (I.Built aOp r3).bind fun (r4 : (TValue × ByteArray)) =>
  (L.eqValue r4.fst r2.fst).bind fun (r5 : Bool) =>
  bif !r5 then
   some false
  else
  bif !bEq r4.snd r2.snd then
    some false
   else
   (L.toValueS aArgs).bind fun (r6 : List TValue) =>
    (L.eqValueS r3 r6).bind fun (r7 : Bool) =>
    bif !r7 then
     some false
    else
    some true :=
  (fnA_eq 3 [PV.i IntKind.i64 aOp, PV.fl 51 aArgs] rfl).trans (by kernel_rfl)
end Go.KM.B1
