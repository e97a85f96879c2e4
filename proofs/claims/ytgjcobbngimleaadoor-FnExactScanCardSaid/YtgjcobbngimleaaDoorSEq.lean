/- The equations of the law's functions. Conditions: none. -/
import Derived.Test.YtgjcobbngimleaaDoorSSg
namespace Go.KM.S1
open Go Go.KM
open Go.KM.Fam (Dn dflt)
open Go.KM.Enc (cells sz mkE glob gany u8)
set_option autoImplicit false
set_option linter.unusedVariables false
set_option maxRecDepth 100000
theorem R.l1Letter_eq (b : Int) : R.l1Letter b =
  bif decide (b ≥ 97) then
  some (decide (b ≤ 122))
 else
 some false :=
  (fnA_eq 72 [PV.i IntKind.u8 b] rfl).trans (by kernel_rfl)
theorem R.l1Digit_eq (b : Int) : R.l1Digit b =
  bif decide (b ≥ 48) then
  some (decide (b ≤ 57))
 else
 some false :=
  (fnA_eq 73 [PV.i IntKind.u8 b] rfl).trans (by kernel_rfl)
theorem R.l1Tail_eq (b : Int) : R.l1Tail b =
  (R.l1Letter b).bind fun (r0 : Bool) =>
 bif r0 then
  some true
 else
 (R.l1Digit b).bind fun (r1 : Bool) =>
  bif r1 then
   some true
  else
  some (b == 95) :=
  (fnA_eq 74 [PV.i IntKind.u8 b] rfl).trans (by kernel_rfl)
theorem R.l1TypeWord_eq (t : Int) : R.l1TypeWord t =
  bif t == 1 then
  some ((⟨#[98, 111, 111, 108]⟩ : ByteArray))
 else
 bif t == 2 then
   some ((⟨#[116, 101, 120, 116]⟩ : ByteArray))
  else
  bif t == 3 then
    some ((⟨#[117, 56]⟩ : ByteArray))
   else
   bif t == 4 then
     some ((⟨#[117, 49, 54]⟩ : ByteArray))
    else
    bif t == 5 then
      some ((⟨#[117, 51, 50]⟩ : ByteArray))
     else
     bif t == 6 then
       some ((⟨#[117, 54, 52]⟩ : ByteArray))
      else
      bif t == 7 then
        some ((⟨#[105, 56]⟩ : ByteArray))
       else
       bif t == 8 then
         some ((⟨#[105, 49, 54]⟩ : ByteArray))
        else
        bif t == 9 then
          some ((⟨#[105, 51, 50]⟩ : ByteArray))
         else
         bif t == 10 then
           some ((⟨#[105, 54, 52]⟩ : ByteArray))
          else
          some ((⟨#[]⟩ : ByteArray)) :=
  (fnA_eq 129 [PV.i IntKind.i64 t] rfl).trans (by kernel_rfl)
noncomputable def R.l1Type.l52 (w : ByteArray) (t : Int) : Option Int := Y.runA 105 (fun ct c => at_ ct [true, false, true, false, false] c) ⟨[(0, .s w), (3, .i IntKind.i64 t)], [], [], [], []⟩
theorem R.l1Type_eq (w : ByteArray) : R.l1Type w =
  R.l1Type.l52 w 1 :=
  (fnA_eq 105 [PV.s w] rfl).trans (by kernel_rfl)
theorem R.l1Type.l52_eq (w : ByteArray) (t : Int) : R.l1Type.l52 w t =
  bif decide (t ≤ 10) then
  (R.l1TypeWord t).bind fun (r0 : ByteArray) =>
  bif bEq r0 w then
   some t
  else
  R.l1Type.l52 w (IntKind.i64.wrap (t + 1))
 else
 some 0 :=
  (runA_eq 105 _ _).trans (by kernel_rfl)
theorem R.l1BuiltWord_eq (op : Int) : R.l1BuiltWord op =
  bif op == 1 then
  some ((⟨#[114, 101, 97, 100]⟩ : ByteArray), 1)
 else
 bif op == 2 then
   some ((⟨#[104, 97, 115]⟩ : ByteArray), 1)
  else
  bif op == 3 then
    some ((⟨#[108, 105, 115, 116]⟩ : ByteArray), 1)
   else
   bif op == 4 then
     some ((⟨#[116, 111, 111, 108]⟩ : ByteArray), 2)
    else
    bif op == 5 then
      some ((⟨#[97, 114, 103]⟩ : ByteArray), 0)
     else
     bif op == 6 then
       some ((⟨#[108, 101, 110]⟩ : ByteArray), 1)
      else
      bif op == 7 then
        some ((⟨#[97, 116]⟩ : ByteArray), 2)
       else
       bif op == 8 then
         some ((⟨#[99, 117, 116]⟩ : ByteArray), 3)
        else
        bif op == 9 then
          some ((⟨#[102, 105, 110, 100]⟩ : ByteArray), 2)
         else
         bif op == 10 then
           some ((⟨#[99, 104, 114]⟩ : ByteArray), 1)
          else
          bif op == 11 then
            some ((⟨#[100, 101, 99]⟩ : ByteArray), 1)
           else
           bif op == 12 then
            some ((⟨#[110, 117, 109]⟩ : ByteArray), 1)
            else
            some ((⟨#[]⟩ : ByteArray), 0) :=
  (fnA_eq 106 [PV.i IntKind.i64 op] rfl).trans (by kernel_rfl)
theorem R.l1Plain_eq : R.l1Plain =
  some ([(⟨#[102, 110]⟩ : ByteArray), (⟨#[108, 101, 116]⟩ : ByteArray), (⟨#[105, 102]⟩ : ByteArray), (⟨#[101, 108, 115, 101]⟩ : ByteArray), (⟨#[119, 104, 105, 108, 101]⟩ : ByteArray), (⟨#[98, 114, 101, 97, 107]⟩ : ByteArray), (⟨#[99, 111, 110, 116, 105, 110, 117, 101]⟩ : ByteArray), (⟨#[114, 101, 116, 117, 114, 110]⟩ : ByteArray), (⟨#[102, 97, 105, 108]⟩ : ByteArray), (⟨#[119, 114, 105, 116, 101]⟩ : ByteArray), (⟨#[115, 97, 121]⟩ : ByteArray), (⟨#[116, 114, 117, 101]⟩ : ByteArray), (⟨#[102, 97, 108, 115, 101]⟩ : ByteArray)]) :=
  (fnA_eq 107 [] rfl).trans (by kernel_rfl)
noncomputable def R.l1Taken.l116 (w : ByteArray) (op : Int) : Option Bool := Y.runA 75 (fun ct c => at_ ct [true, true, false, true, false, false] c) ⟨[(0, .s w), (3, .i IntKind.i64 op)], [], [], [], []⟩
noncomputable def R.l1Taken.l500 (w : ByteArray) (plain : List ByteArray) (i : Int) : Option Bool := Y.runA 75 (fun ct c => at_ ct [true, true, true, true, false, true, false, false] c) ⟨[(0, .s w), (6, .fl 9 plain), (7, .i IntKind.i64 i)], [], [], [], []⟩
theorem R.l1Taken_eq (w : ByteArray) : R.l1Taken w =
  (R.l1Type w).bind fun (r0 : Int) =>
 bif r0 != 0 then
  some true
 else
 R.l1Taken.l116 w 1 :=
  (fnA_eq 75 [PV.s w] rfl).trans (by kernel_rfl)
theorem R.l1Taken.l116_eq (w : ByteArray) (op : Int) : R.l1Taken.l116 w op =
  bif decide (op ≤ 12) then
  (R.l1BuiltWord op).bind fun (r0 : (ByteArray × Int)) =>
  bif bEq r0.fst w then
   some true
  else
  R.l1Taken.l116 w (IntKind.i64.wrap (op + 1))
 else
 (R.l1Plain).bind fun (r0 : List ByteArray) =>
  R.l1Taken.l500 w r0 0 :=
  (runA_eq 75 _ _).trans (by kernel_rfl)
theorem R.l1Taken.l500_eq (w : ByteArray) (plain : List ByteArray) (i : Int) : R.l1Taken.l500 w plain i =
  bif decide (i < (↑(List.length plain) : Int)) then
  bif inB i (List.length plain) then
   bif bEq (List.getD plain i.toNat (⟨#[]⟩ : ByteArray)) w then
    some true
   else
   R.l1Taken.l500 w plain (IntKind.i64.wrap (i + 1))
  else
  none
 else
 some false :=
  (runA_eq 75 _ _).trans (by kernel_rfl)
theorem R.l1Integer_eq (t : Int) : R.l1Integer t =
  bif decide (t ≥ 3) then
  some (decide (t ≤ 10))
 else
 some false :=
  (fnA_eq 42 [PV.i IntKind.i64 t] rfl).trans (by kernel_rfl)
noncomputable def R.l1Bits.l53 (t3 : Int) (t4 : Bool) : Option Int := Y.runA 68 (fun ct c => at_ ct [true, false, true, false, true] c) ⟨[(3, .i IntKind.i64 t3), (4, .b t4)], [], [], [], []⟩
noncomputable def R.l1Bits.l215 (t3 : Int) (t7 : Bool) : Option Int := Y.runA 68 (fun ct c => at_ ct [true, false, true, false, true, true, true] c) ⟨[(3, .i IntKind.i64 t3), (7, .b t7)], [], [], [], []⟩
theorem R.l1Bits_eq (t : Int) : R.l1Bits t =
  bif t == 3 then
  R.l1Bits.l53 t (t == 3)
 else
 R.l1Bits.l53 t (t == 7) :=
  (fnA_eq 68 [PV.i IntKind.i64 t] rfl).trans (by kernel_rfl)
theorem R.l1Bits.l53_eq (t3 : Int) (t4 : Bool) : R.l1Bits.l53 t3 t4 =
  bif t4 then
  some 8
 else
 bif t3 == 4 then
   R.l1Bits.l215 t3 (t3 == 4)
  else
  R.l1Bits.l215 t3 (t3 == 8) :=
  (runA_eq 68 _ _).trans (by kernel_rfl)
theorem R.l1Bits.l215_eq (t3 : Int) (t7 : Bool) : R.l1Bits.l215 t3 t7 =
  bif t7 then
  some 16
 else
 bif t3 == 5 then
   bif t3 == 5 then
    some 32
   else
   some 64
  else
  bif t3 == 9 then
    some 32
   else
   some 64 :=
  (runA_eq 68 _ _).trans (by kernel_rfl)
theorem R.l1Signed_eq (t : Int) : R.l1Signed t =
  bif decide (t ≥ 7) then
  some (decide (t ≤ 10))
 else
 some false :=
  (fnA_eq 69 [PV.i IntKind.i64 t] rfl).trans (by kernel_rfl)
noncomputable def R.l1Max.l500 (n : Int) (m : Int) (i : Int) : Option Int := Y.runA 43 (fun ct c => at_ ct [true, true, true, true, false, true, false, false] c) ⟨[(3, .i IntKind.i64 n), (4, .i IntKind.u64 m), (5, .i IntKind.i64 i)], [], [], [], []⟩
theorem R.l1Max_eq (t : Int) : R.l1Max t =
  (R.l1Bits t).bind fun (r0 : Int) =>
 (R.l1Signed t).bind fun (r1 : Bool) =>
 bif r1 then
  R.l1Max.l500 (IntKind.i64.wrap (r0 - 1)) 0 0
 else
 R.l1Max.l500 r0 0 0 :=
  (fnA_eq 43 [PV.i IntKind.i64 t] rfl).trans (by kernel_rfl)
theorem R.l1Max.l500_eq (n : Int) (m : Int) (i : Int) : R.l1Max.l500 n m i =
  bif decide (i < n) then
  R.l1Max.l500 n (IntKind.u64.wrap (IntKind.u64.wrap (m * 2) + 1)) (IntKind.i64.wrap (i + 1))
 else
 some m :=
  (runA_eq 43 _ _).trans (by kernel_rfl)
noncomputable def R.l1Int.l56 (s : ByteArray) (k : Int) : Option ((Int × (Int × Bool))) := Y.runA 76 (fun ct c => at_ ct [true, true, false, false, false] c) ⟨[(0, .s s), (5, .i IntKind.i64 k)], [], [], [], []⟩
noncomputable def R.l1Int.l63 (s : ByteArray) (k : Int) (t : Int) : Option ((Int × (Int × Bool))) := Y.runA 76 (fun ct c => at_ ct [true, true, true, true, true] c) ⟨[(0, .s s), (5, .i IntKind.i64 k), (6, .i IntKind.i64 t)], [], [], [], []⟩
noncomputable def R.l1Int.l4084 (s : ByteArray) (k : Int) (t : Int) (n : Int) (i : Int) : Option ((Int × (Int × Bool))) := Y.runA 76 (fun ct c => at_ ct [true, true, true, true, true, true, true, false, true, false, false] c) ⟨[(0, .s s), (5, .i IntKind.i64 k), (6, .i IntKind.i64 t), (7, .i IntKind.u64 n), (8, .i IntKind.i64 i)], [], [], [], []⟩
theorem R.l1Int_eq (s : ByteArray) : R.l1Int s =
  R.l1Int.l56 s 0 :=
  (fnA_eq 76 [PV.s s] rfl).trans (by kernel_rfl)
theorem R.l1Int.l56_eq (s : ByteArray) (k : Int) : R.l1Int.l56 s k =
  bif decide (k < (↑s.size : Int)) then
  bif inB k s.size then
   (R.l1Digit (bt s k)).bind fun (r0 : Bool) =>
   bif r0 then
    R.l1Int.l56 s (IntKind.i64.wrap (k + 1))
   else
   bif decide (k < (↑s.size : Int)) then
     bif inS k (↑s.size : Int) s.size then
      (R.l1Type (s.extract k.toNat s.size)).bind fun (r1 : Int) =>
      R.l1Int.l63 s k r1
     else
     none
    else
    R.l1Int.l63 s k 10
  else
  none
 else
 bif decide (k < (↑s.size : Int)) then
   bif inS k (↑s.size : Int) s.size then
    (R.l1Type (s.extract k.toNat s.size)).bind fun (r0 : Int) =>
    R.l1Int.l63 s k r0
   else
   none
  else
  R.l1Int.l63 s k 10 :=
  (runA_eq 76 _ _).trans (by kernel_rfl)
theorem R.l1Int.l63_eq (s : ByteArray) (k : Int) (t : Int) : R.l1Int.l63 s k t =
  (R.l1Integer t).bind fun (r0 : Bool) =>
 bif !r0 then
  some (0, (0, false))
 else
 bif decide (k > 20) then
   some (0, (0, false))
  else
  bif decide (k > 1) then
    bif inB 0 s.size then
     bif bt s 0 == 48 then
      some (0, (0, false))
     else
     R.l1Int.l4084 s k t 0 0
    else
    none
   else
   R.l1Int.l4084 s k t 0 0 :=
  (runA_eq 76 _ _).trans (by kernel_rfl)
theorem R.l1Int.l4084_eq (s : ByteArray) (k : Int) (t : Int) (n : Int) (i : Int) : R.l1Int.l4084 s k t n i =
  bif decide (i < k) then
  bif inB i s.size then
   (R.l1Max t).bind fun (r0 : Int) =>
   bif decide (n > IntKind.u64.wrap ((IntKind.u64.wrap (r0 - IntKind.u64.wrap (IntKind.u8.wrap (bt s i - 48)))).tdiv 10)) then
    some (0, (0, false))
   else
   R.l1Int.l4084 s k t (IntKind.u64.wrap (IntKind.u64.wrap (n * 10) + IntKind.u64.wrap (IntKind.u8.wrap (bt s i - 48)))) (IntKind.i64.wrap (i + 1))
  else
  none
 else
 some (t, (IntKind.i64.wrap n, true)) :=
  (runA_eq 76 _ _).trans (by kernel_rfl)
theorem R.l1Bare_eq (b : Int) : R.l1Bare b =
  bif decide (b ≥ 32) then
  bif decide (b ≤ 126) then
   bif b != 34 then
    some (b != 92)
   else
   some false
  else
  some false
 else
 some false :=
  (fnA_eq 108 [PV.i IntKind.u8 b] rfl).trans (by kernel_rfl)
theorem R.l1Hex_eq (b : Int) : R.l1Hex b =
  bif decide (b ≥ 48) then
  bif decide (b ≤ 57) then
   some (IntKind.i64.wrap (IntKind.u8.wrap (b - 48)))
  else
  bif decide (b ≥ 97) then
    bif decide (b ≤ 102) then
     some (IntKind.i64.wrap (IntKind.i64.wrap (IntKind.u8.wrap (b - 97)) + 10))
    else
    some (-1)
   else
   some (-1)
 else
 bif decide (b ≥ 97) then
   bif decide (b ≤ 102) then
    some (IntKind.i64.wrap (IntKind.i64.wrap (IntKind.u8.wrap (b - 97)) + 10))
   else
   some (-1)
  else
  some (-1) :=
  (fnA_eq 109 [PV.i IntKind.u8 b] rfl).trans (by kernel_rfl)
noncomputable def R.l1Unquote.l120 (src : ByteArray) (at_0 : Int) (out : List Int) (i : Int) : Option ((ByteArray × (Int × Bool))) := Y.runA 77 (fun ct c => at_ ct [true, true, true, false, false, false] c) ⟨[(0, .s src), (1, .i IntKind.i64 at_0), (7, .ol 5 out), (8, .i IntKind.i64 i)], [], [], [], []⟩
theorem R.l1Unquote_eq (src : ByteArray) (at_0 : Int) : R.l1Unquote src at_0 =
  R.l1Unquote.l120 src at_0 ([]) (IntKind.i64.wrap (at_0 + 1)) :=
  (fnA_eq 77 [PV.s src, PV.i IntKind.i64 at_0] rfl).trans (by kernel_rfl)
theorem R.l1Unquote.l120_eq (src : ByteArray) (at_0 : Int) (out : List Int) (i : Int) : R.l1Unquote.l120 src at_0 out i =
  bif decide (i < (↑src.size : Int)) then
  bif inB i src.size then
   bif bt src i == 34 then
    some (strOfBytes (List.map (fun (x : Int) ↦ x) out), (IntKind.i64.wrap (i + 1), true))
   else
   bif inB i src.size then
     (R.l1Bare (bt src i)).bind fun (r0 : Bool) =>
     bif r0 then
      bif inB i src.size then
       bif room (out.length + [bt src i].length) 1 then
        R.l1Unquote.l120 src at_0 (out ++ [bt src i]) (IntKind.i64.wrap (i + 1))
       else
       none
      else
      none
     else
     bif inB i src.size then
       bif bt src i != 92 then
        some ((⟨#[]⟩ : ByteArray), (at_0, false))
       else
       bif decide (IntKind.i64.wrap (i + 2) ≥ (↑src.size : Int)) then
         some ((⟨#[]⟩ : ByteArray), (at_0, false))
        else
        bif inB (IntKind.i64.wrap (i + 1)) src.size then
          (R.l1Hex (bt src (IntKind.i64.wrap (i + 1)))).bind fun (r1 : Int) =>
          bif decide (r1 < 0) then
           some ((⟨#[]⟩ : ByteArray), (at_0, false))
          else
          bif inB (IntKind.i64.wrap (i + 2)) src.size then
            (R.l1Hex (bt src (IntKind.i64.wrap (i + 2)))).bind fun (r2 : Int) =>
            bif decide (r2 < 0) then
            some ((⟨#[]⟩ : ByteArray), (at_0, false))
            else
            bif inB (IntKind.i64.wrap (i + 1)) src.size then
            (R.l1Hex (bt src (IntKind.i64.wrap (i + 1)))).bind fun (r3 : Int) =>
            bif inB (IntKind.i64.wrap (i + 2)) src.size then
            (R.l1Hex (bt src (IntKind.i64.wrap (i + 2)))).bind fun (r4 : Int) =>
            bif room (out.length + [IntKind.u8.wrap (IntKind.i64.wrap (IntKind.i64.wrap (16 * r3) + r4))].length) 1 then
            R.l1Unquote.l120 src at_0 (out ++ [IntKind.u8.wrap (IntKind.i64.wrap (IntKind.i64.wrap (16 * r3) + r4))]) (IntKind.i64.wrap (i + 3))
            else
            none
            else
            none
            else
            none
           else
           none
         else
         none
      else
      none
    else
    none
  else
  none
 else
 some ((⟨#[]⟩ : ByteArray), (at_0, false)) :=
  (runA_eq 77 _ _).trans (by kernel_rfl)
theorem R.l1Marks_eq : R.l1Marks =
  some ([(⟨#[45, 62]⟩ : ByteArray), (⟨#[61, 61]⟩ : ByteArray), (⟨#[33, 61]⟩ : ByteArray), (⟨#[60, 61]⟩ : ByteArray), (⟨#[62, 61]⟩ : ByteArray), (⟨#[60, 60]⟩ : ByteArray), (⟨#[62, 62]⟩ : ByteArray), (⟨#[38, 38]⟩ : ByteArray), (⟨#[124, 124]⟩ : ByteArray), (⟨#[40]⟩ : ByteArray), (⟨#[41]⟩ : ByteArray), (⟨#[123]⟩ : ByteArray), (⟨#[125]⟩ : ByteArray), (⟨#[44]⟩ : ByteArray), (⟨#[59]⟩ : ByteArray), (⟨#[61]⟩ : ByteArray), (⟨#[60]⟩ : ByteArray), (⟨#[62]⟩ : ByteArray), (⟨#[43]⟩ : ByteArray), (⟨#[45]⟩ : ByteArray), (⟨#[42]⟩ : ByteArray), (⟨#[47]⟩ : ByteArray), (⟨#[37]⟩ : ByteArray), (⟨#[38]⟩ : ByteArray), (⟨#[124]⟩ : ByteArray), (⟨#[94]⟩ : ByteArray), (⟨#[33]⟩ : ByteArray), (⟨#[126]⟩ : ByteArray)]) :=
  (fnA_eq 78 [] rfl).trans (by kernel_rfl)
noncomputable def R.l1One.l488 (src : ByteArray) (at_0 : Int) (b : Int) (end_ : Int) (t4 : TToken) : Option ((TToken × (Int × Int))) := Y.runA 53 (fun ct c => at_ ct [true, true, true, false, true, false, false, false] c) ⟨[(0, .s src), (1, .i IntKind.i64 at_0), (4, .ad (.loc 4) 0), (7, .i IntKind.u8 b), (8, .i IntKind.i64 end_)], [(4, cells 86 t4)], [], [], []⟩
noncomputable def R.l1One.l31 (src : ByteArray) (at_0 : Int) (b : Int) (end_ : Int) (t4 : TToken) : Option ((TToken × (Int × Int))) := Y.runA 53 (fun ct c => at_ ct [true, true, true, true] c) ⟨[(0, .s src), (1, .i IntKind.i64 at_0), (4, .ad (.loc 4) 0), (7, .i IntKind.u8 b), (8, .i IntKind.i64 end_)], [(4, cells 86 t4)], [], [], []⟩
noncomputable def R.l1One.l16372 (src : ByteArray) (at_0 : Int) (marks : List ByteArray) (i : Int) (t4 : TToken) : Option ((TToken × (Int × Int))) := Y.runA 53 (fun ct c => at_ ct [true, true, true, true, true, true, true, true, true, false, true, false, false] c) ⟨[(0, .s src), (1, .i IntKind.i64 at_0), (4, .ad (.loc 4) 0), (16, .fl 9 marks), (17, .i IntKind.i64 i)], [(4, cells 86 t4)], [], [], []⟩
theorem R.l1One_eq (src : ByteArray) (at_0 : Int) : R.l1One src at_0 =
  bif inB at_0 src.size then
  (R.l1Letter (bt src at_0)).bind fun (r0 : Bool) =>
  bif r0 then
   R.l1One.l488 src at_0 (bt src at_0) at_0 (⟨0, (⟨#[]⟩ : ByteArray), 0, 0, 0⟩ : TToken)
  else
  (R.l1Digit (bt src at_0)).bind fun (r1 : Bool) =>
   bif r1 then
    R.l1One.l488 src at_0 (bt src at_0) at_0 (⟨0, (⟨#[]⟩ : ByteArray), 0, 0, 0⟩ : TToken)
   else
   R.l1One.l31 src at_0 (bt src at_0) at_0 (⟨0, (⟨#[]⟩ : ByteArray), 0, 0, 0⟩ : TToken)
 else
 none :=
  (fnA_eq 53 [PV.s src, PV.i IntKind.i64 at_0] rfl).trans (by kernel_rfl)
theorem R.l1One.l488_eq (src : ByteArray) (at_0 : Int) (b : Int) (end_ : Int) (t4 : TToken) : R.l1One.l488 src at_0 b end_ t4 =
  bif decide (end_ < (↑src.size : Int)) then
  bif inB end_ src.size then
   (R.l1Tail (bt src end_)).bind fun (r0 : Bool) =>
   bif r0 then
    R.l1One.l488 src at_0 b (IntKind.i64.wrap (end_ + 1)) t4
   else
   R.l1One.l31 src at_0 b end_ t4
  else
  none
 else
 R.l1One.l31 src at_0 b end_ t4 :=
  (runA_eq 53 _ _).trans (by kernel_rfl)
theorem R.l1One.l31_eq (src : ByteArray) (at_0 : Int) (b : Int) (end_ : Int) (t4 : TToken) : R.l1One.l31 src at_0 b end_ t4 =
  bif inS at_0 end_ src.size then
  (R.l1Letter b).bind fun (r0 : Bool) =>
  bif r0 then
   (R.l1Taken (src.extract at_0.toNat end_.toNat)).bind fun (r1 : Bool) =>
   bif r1 then
    some ((⟨2, src.extract at_0.toNat end_.toNat, 0, 0, at_0⟩ : TToken), (end_, 0))
   else
   bif decide ((↑(src.extract at_0.toNat end_.toNat).size : Int) > 30) then
     some ((⟨0, (⟨#[]⟩ : ByteArray), 0, 0, 0⟩ : TToken), (at_0, 5))
    else
    some ((⟨1, src.extract at_0.toNat end_.toNat, 0, 0, at_0⟩ : TToken), (end_, 0))
  else
  (R.l1Digit b).bind fun (r1 : Bool) =>
   bif r1 then
    (R.l1Int (src.extract at_0.toNat end_.toNat)).bind fun (r2 : (Int × (Int × Bool))) =>
    bif !r2.snd.snd then
     some ((⟨0, (⟨#[]⟩ : ByteArray), 0, 0, 0⟩ : TToken), (at_0, 3))
    else
    some ((⟨3, (⟨#[]⟩ : ByteArray), r2.fst, r2.snd.fst, at_0⟩ : TToken), (end_, 0))
   else
   bif b == 34 then
     (R.l1Unquote src at_0).bind fun (r2 : (ByteArray × (Int × Bool))) =>
     bif !r2.snd.snd then
      some ((⟨0, (⟨#[]⟩ : ByteArray), 0, 0, 0⟩ : TToken), (at_0, 4))
     else
     bif decide ((↑(ByteArray.size r2.fst) : Int) > 3000) then
       some ((⟨0, (⟨#[]⟩ : ByteArray), 0, 0, 0⟩ : TToken), (at_0, 5))
      else
      some ((⟨4, r2.fst, 0, 0, at_0⟩ : TToken), (r2.snd.fst, 0))
    else
    (R.l1Marks).bind fun (r2 : List ByteArray) =>
     R.l1One.l16372 src at_0 r2 0 t4
 else
 none :=
  (runA_eq 53 _ _).trans (by kernel_rfl)
theorem R.l1One.l16372_eq (src : ByteArray) (at_0 : Int) (marks : List ByteArray) (i : Int) (t4 : TToken) : R.l1One.l16372 src at_0 marks i t4 =
  bif decide (i < (↑(List.length marks) : Int)) then
  bif inB i (List.length marks) then
   bif decide (IntKind.i64.wrap (at_0 + (↑(ByteArray.size (List.getD marks i.toNat (⟨#[]⟩ : ByteArray))) : Int)) ≤ (↑src.size : Int)) then
    bif inS at_0 (IntKind.i64.wrap (at_0 + (↑(ByteArray.size (List.getD marks i.toNat (⟨#[]⟩ : ByteArray))) : Int))) src.size then
     bif inB i (List.length marks) then
      bif bEq (src.extract at_0.toNat (IntKind.i64.wrap (at_0 + (↑(ByteArray.size (List.getD marks i.toNat (⟨#[]⟩ : ByteArray))) : Int))).toNat) (List.getD marks i.toNat (⟨#[]⟩ : ByteArray)) then
       bif inB i (List.length marks) then
        some ((⟨5, List.getD marks i.toNat (⟨#[]⟩ : ByteArray), 0, 0, at_0⟩ : TToken), (IntKind.i64.wrap (at_0 + (↑(ByteArray.size (List.getD marks i.toNat (⟨#[]⟩ : ByteArray))) : Int)), 0))
       else
       none
      else
      R.l1One.l16372 src at_0 marks (IntKind.i64.wrap (i + 1)) t4
     else
     none
    else
    none
   else
   R.l1One.l16372 src at_0 marks (IntKind.i64.wrap (i + 1)) t4
  else
  none
 else
 some ((⟨0, (⟨#[]⟩ : ByteArray), 0, 0, 0⟩ : TToken), (at_0, 2)) :=
  (runA_eq 53 _ _).trans (by kernel_rfl)
noncomputable def R.Scan.l248 (src : ByteArray) (out : List TToken) (i : Int) (t3 : TFault) : Option ((List TToken × TFault)) := Y.runA 18 (fun ct c => at_ ct [true, true, true, true, false, false, false] c) ⟨[(0, .s src), (3, .ad (.loc 3) 0), (4, .ol 86 out), (5, .i IntKind.i64 i)], [(3, cells 43 t3)], [], [], []⟩
noncomputable def R.Scan.l127312 (src : ByteArray) (out : List TToken) (i : Int) (t3 : TFault) : Option ((List TToken × TFault)) := Y.runA 18 (fun ct c => at_ ct [true, true, true, true, false, false, false, true, false, true, false, true, false, false, false, false] c) ⟨[(0, .s src), (3, .ad (.loc 3) 0), (4, .ol 86 out), (5, .i IntKind.i64 i)], [(3, cells 43 t3)], [], [], []⟩
theorem R.Scan_eq (src : ByteArray) : R.Scan src =
  bif decide ((↑src.size : Int) > 12000) then
  some ([], (⟨1, 0⟩ : TFault))
 else
 R.Scan.l248 src ([]) 0 (⟨0, 0⟩ : TFault) :=
  (fnA_eq 18 [PV.s src] rfl).trans (by kernel_rfl)
theorem R.Scan.l248_eq (src : ByteArray) (out : List TToken) (i : Int) (t3 : TFault) : R.Scan.l248 src out i t3 =
  bif decide (i < (↑src.size : Int)) then
  bif inB i src.size then
   bif bt src i == 32 then
    R.Scan.l248 src out (IntKind.i64.wrap (i + 1)) t3
   else
   bif inB i src.size then
     bif bt src i == 10 then
      R.Scan.l248 src out (IntKind.i64.wrap (i + 1)) t3
     else
     bif inB i src.size then
       bif bt src i == 35 then
        R.Scan.l127312 src out i t3
       else
       (R.l1One src i).bind fun (r0 : (TToken × (Int × Int))) =>
        bif r0.snd.snd != 0 then
         some ([], (⟨r0.snd.snd, i⟩ : TFault))
        else
        bif room (out.length + [TToken.mk r0.fst.gKind r0.fst.gText r0.fst.gType r0.fst.gN r0.fst.gAt].length) 48 then
          R.Scan.l248 src (out ++ [TToken.mk r0.fst.gKind r0.fst.gText r0.fst.gType r0.fst.gN r0.fst.gAt]) r0.snd.fst t3
         else
         none
      else
      none
    else
    none
  else
  none
 else
 some (out, (⟨0, 0⟩ : TFault)) :=
  (runA_eq 18 _ _).trans (by kernel_rfl)
theorem R.Scan.l127312_eq (src : ByteArray) (out : List TToken) (i : Int) (t3 : TFault) : R.Scan.l127312 src out i t3 =
  bif decide (i < (↑src.size : Int)) then
  bif inB i src.size then
   bif bt src i != 10 then
    R.Scan.l127312 src out (IntKind.i64.wrap (i + 1)) t3
   else
   R.Scan.l248 src out i t3
  else
  none
 else
 R.Scan.l248 src out i t3 :=
  (runA_eq 18 _ _).trans (by kernel_rfl)
theorem I.lower_eq (b : Int) : I.lower b =
  bif decide (b ≥ 97) then
  some (decide (b ≤ 122))
 else
 some false :=
  (fnA_eq 80 [PV.i IntKind.u8 b] rfl).trans (by kernel_rfl)
theorem I.digit_eq (b : Int) : I.digit b =
  bif decide (b ≥ 48) then
  some (decide (b ≤ 57))
 else
 some false :=
  (fnA_eq 82 [PV.i IntKind.u8 b] rfl).trans (by kernel_rfl)
theorem I.wordy_eq (b : Int) : I.wordy b =
  (I.lower b).bind fun (r0 : Bool) =>
 bif r0 then
  some true
 else
 (I.digit b).bind fun (r1 : Bool) =>
  bif r1 then
   some true
  else
  some (b == 95) :=
  (fnA_eq 79 [PV.i IntKind.u8 b] rfl).trans (by kernel_rfl)
noncomputable def I.typeOfWord.l52 (s : ByteArray) (t5 : List ByteArray) (t6 : Int) (t7 : Int) : Option Int := Y.runA 111 (fun ct c => at_ ct [true, false, true, false, false] c) ⟨[(0, .s s), (5, .fl 9 t5), (6, .i IntKind.i64 t6), (7, .i IntKind.i64 t7)], [], [], [], []⟩
theorem I.typeOfWord_eq (s : ByteArray) : I.typeOfWord s =
  I.typeOfWord.l52 s ([(⟨#[]⟩ : ByteArray), (⟨#[98, 111, 111, 108]⟩ : ByteArray), (⟨#[116, 101, 120, 116]⟩ : ByteArray), (⟨#[117, 56]⟩ : ByteArray), (⟨#[117, 49, 54]⟩ : ByteArray), (⟨#[117, 51, 50]⟩ : ByteArray), (⟨#[117, 54, 52]⟩ : ByteArray), (⟨#[105, 56]⟩ : ByteArray), (⟨#[105, 49, 54]⟩ : ByteArray), (⟨#[105, 51, 50]⟩ : ByteArray), (⟨#[105, 54, 52]⟩ : ByteArray)]) (↑[(⟨#[]⟩ : ByteArray), (⟨#[98, 111, 111, 108]⟩ : ByteArray), (⟨#[116, 101, 120, 116]⟩ : ByteArray), (⟨#[117, 56]⟩ : ByteArray), (⟨#[117, 49, 54]⟩ : ByteArray), (⟨#[117, 51, 50]⟩ : ByteArray), (⟨#[117, 54, 52]⟩ : ByteArray), (⟨#[105, 56]⟩ : ByteArray), (⟨#[105, 49, 54]⟩ : ByteArray), (⟨#[105, 51, 50]⟩ : ByteArray), (⟨#[105, 54, 52]⟩ : ByteArray)].length : Int) 0 :=
  (fnA_eq 111 [PV.s s] rfl).trans (by kernel_rfl)
theorem I.typeOfWord.l52_eq (s : ByteArray) (t5 : List ByteArray) (t6 : Int) (t7 : Int) : I.typeOfWord.l52 s t5 t6 t7 =
  bif decide (t7 < t6) then
  bif inB t7 t5.length then
   bif decide (t7 > 0) then
    bif bEq (t5.getD t7.toNat (⟨#[]⟩ : ByteArray)) s then
     some t7
    else
    I.typeOfWord.l52 s t5 t6 (IntKind.i64.wrap (t7 + 1))
   else
   I.typeOfWord.l52 s t5 t6 (IntKind.i64.wrap (t7 + 1))
  else
  none
 else
 some 0 :=
  (runA_eq 111 _ _).trans (by kernel_rfl)
noncomputable def I.isTaken.l52 (s : ByteArray) (t5 : List ByteArray) (t6 : Int) (t7 : Int) : Option Bool := Y.runA 81 (fun ct c => at_ ct [true, false, true, false, false] c) ⟨[(0, .s s), (5, .fl 9 t5), (6, .i IntKind.i64 t6), (7, .i IntKind.i64 t7)], [], [], [], []⟩
theorem I.isTaken_eq (s : ByteArray) : I.isTaken s =
  I.isTaken.l52 s (fieldsOf (ByteArray.mk ([102, 110, 32, 108, 101, 116, 32, 105, 102, 32, 101, 108, 115, 101, 32, 119, 104, 105, 108, 101, 32, 98, 114, 101, 97, 107, 32, 99, 111, 110, 116, 105, 110, 117, 101, 32, 114, 101, 116, 117, 114, 110, 32, 102, 97, 105, 108, 32, 119, 114, 105, 116, 101, 32, 115, 97, 121, 32, 116].append [114, 117, 101, 32, 102, 97, 108, 115, 101, 32, 114, 101, 97, 100, 32, 104, 97, 115, 32, 108, 105, 115, 116, 32, 116, 111, 111, 108, 32, 97, 114, 103, 32, 108, 101, 110, 32, 97, 116, 32, 99, 117, 116, 32, 102, 105, 110, 100, 32, 99, 104, 114, 32, 100, 101, 99, 32, 110, 117, 109]).toArray)) (↑(fieldsOf (ByteArray.mk ([102, 110, 32, 108, 101, 116, 32, 105, 102, 32, 101, 108, 115, 101, 32, 119, 104, 105, 108, 101, 32, 98, 114, 101, 97, 107, 32, 99, 111, 110, 116, 105, 110, 117, 101, 32, 114, 101, 116, 117, 114, 110, 32, 102, 97, 105, 108, 32, 119, 114, 105, 116, 101, 32, 115, 97, 121, 32, 116].append [114, 117, 101, 32, 102, 97, 108, 115, 101, 32, 114, 101, 97, 100, 32, 104, 97, 115, 32, 108, 105, 115, 116, 32, 116, 111, 111, 108, 32, 97, 114, 103, 32, 108, 101, 110, 32, 97, 116, 32, 99, 117, 116, 32, 102, 105, 110, 100, 32, 99, 104, 114, 32, 100, 101, 99, 32, 110, 117, 109]).toArray)).length : Int) 0 :=
  (fnA_eq 81 [PV.s s] rfl).trans (by kernel_rfl)
theorem I.isTaken.l52_eq (s : ByteArray) (t5 : List ByteArray) (t6 : Int) (t7 : Int) : I.isTaken.l52 s t5 t6 t7 =
  bif decide (t7 < t6) then
  bif inB t7 t5.length then
   bif bEq (t5.getD t7.toNat (⟨#[]⟩ : ByteArray)) s then
    some true
   else
   I.isTaken.l52 s t5 t6 (IntKind.i64.wrap (t7 + 1))
  else
  none
 else
 (I.typeOfWord s).bind fun (r0 : Int) =>
  some (decide (r0 > 0)) :=
  (runA_eq 81 _ _).trans (by kernel_rfl)
theorem I.integer_eq (t : Int) : I.integer t =
  bif decide (t ≥ 3) then
  some (decide (t ≤ 10))
 else
 some false :=
  (fnA_eq 52 [PV.i IntKind.i64 t] rfl).trans (by kernel_rfl)
noncomputable def I.bits.l53 (t3 : Int) (t4 : Bool) : Option Int := Y.runA 71 (fun ct c => at_ ct [true, false, true, false, true] c) ⟨[(3, .i IntKind.i64 t3), (4, .b t4)], [], [], [], []⟩
noncomputable def I.bits.l215 (t3 : Int) (t7 : Bool) : Option Int := Y.runA 71 (fun ct c => at_ ct [true, false, true, false, true, true, true] c) ⟨[(3, .i IntKind.i64 t3), (7, .b t7)], [], [], [], []⟩
theorem I.bits_eq (t : Int) : I.bits t =
  bif t == 3 then
  I.bits.l53 t (t == 3)
 else
 I.bits.l53 t (t == 7) :=
  (fnA_eq 71 [PV.i IntKind.i64 t] rfl).trans (by kernel_rfl)
theorem I.bits.l53_eq (t3 : Int) (t4 : Bool) : I.bits.l53 t3 t4 =
  bif t4 then
  some 8
 else
 bif t3 == 4 then
   I.bits.l215 t3 (t3 == 4)
  else
  I.bits.l215 t3 (t3 == 8) :=
  (runA_eq 71 _ _).trans (by kernel_rfl)
theorem I.bits.l215_eq (t3 : Int) (t7 : Bool) : I.bits.l215 t3 t7 =
  bif t7 then
  some 16
 else
 bif t3 == 5 then
   bif t3 == 5 then
    some 32
   else
   some 64
  else
  bif t3 == 9 then
    some 32
   else
   some 64 :=
  (runA_eq 71 _ _).trans (by kernel_rfl)
theorem I.signed_eq (t : Int) : I.signed t =
  some (decide (t ≥ 7)) :=
  (fnA_eq 61 [PV.i IntKind.i64 t] rfl).trans (by kernel_rfl)
noncomputable def I.readInt.l56 (s : ByteArray) (n : Int) (t2 : TToken) : Option ((TToken × Bool)) := Y.runA 83 (fun ct c => at_ ct [true, true, false, false, false] c) ⟨[(0, .s s), (2, .ad (.loc 2) 0), (4, .i IntKind.i64 n)], [(2, cells 86 t2)], [], [], []⟩
noncomputable def I.readInt.l127 (s : ByteArray) (n : Int) (t : Int) (t2 : TToken) : Option ((TToken × Bool)) := Y.runA 83 (fun ct c => at_ ct [true, true, true, true, true, true] c) ⟨[(0, .s s), (2, .ad (.loc 2) 0), (4, .i IntKind.i64 n), (5, .i IntKind.i64 t)], [(2, cells 86 t2)], [], [], []⟩
theorem I.readInt_eq (s : ByteArray) : I.readInt s =
  I.readInt.l56 s 0 (⟨0, (⟨#[]⟩ : ByteArray), 0, 0, 0⟩ : TToken) :=
  (fnA_eq 83 [PV.s s] rfl).trans (by kernel_rfl)
theorem I.readInt.l56_eq (s : ByteArray) (n : Int) (t2 : TToken) : I.readInt.l56 s n t2 =
  bif decide (n < (↑s.size : Int)) then
  bif inB n s.size then
   (I.digit (bt s n)).bind fun (r0 : Bool) =>
   bif r0 then
    I.readInt.l56 s (IntKind.i64.wrap (n + 1)) t2
   else
   bif decide (n > 1) then
     bif inB 0 s.size then
      bif bt s 0 == 48 then
       some ((⟨0, (⟨#[]⟩ : ByteArray), 0, 0, 0⟩ : TToken), false)
      else
      bif decide (n < (↑s.size : Int)) then
        bif inS n (↑s.size : Int) s.size then
         (I.typeOfWord (s.extract n.toNat s.size)).bind fun (r1 : Int) =>
         (I.integer r1).bind fun (r2 : Bool) =>
         bif !r2 then
          some ((⟨0, (⟨#[]⟩ : ByteArray), 0, 0, 0⟩ : TToken), false)
         else
         I.readInt.l127 s n r1 t2
        else
        none
       else
       I.readInt.l127 s n 10 t2
     else
     none
    else
    bif decide (n < (↑s.size : Int)) then
      bif inS n (↑s.size : Int) s.size then
       (I.typeOfWord (s.extract n.toNat s.size)).bind fun (r1 : Int) =>
       (I.integer r1).bind fun (r2 : Bool) =>
       bif !r2 then
        some ((⟨0, (⟨#[]⟩ : ByteArray), 0, 0, 0⟩ : TToken), false)
       else
       I.readInt.l127 s n r1 t2
      else
      none
     else
     I.readInt.l127 s n 10 t2
  else
  none
 else
 bif decide (n > 1) then
   bif inB 0 s.size then
    bif bt s 0 == 48 then
     some ((⟨0, (⟨#[]⟩ : ByteArray), 0, 0, 0⟩ : TToken), false)
    else
    bif decide (n < (↑s.size : Int)) then
      bif inS n (↑s.size : Int) s.size then
       (I.typeOfWord (s.extract n.toNat s.size)).bind fun (r0 : Int) =>
       (I.integer r0).bind fun (r1 : Bool) =>
       bif !r1 then
        some ((⟨0, (⟨#[]⟩ : ByteArray), 0, 0, 0⟩ : TToken), false)
       else
       I.readInt.l127 s n r0 t2
      else
      none
     else
     I.readInt.l127 s n 10 t2
   else
   none
  else
  bif decide (n < (↑s.size : Int)) then
    bif inS n (↑s.size : Int) s.size then
     (I.typeOfWord (s.extract n.toNat s.size)).bind fun (r0 : Int) =>
     (I.integer r0).bind fun (r1 : Bool) =>
     bif !r1 then
      some ((⟨0, (⟨#[]⟩ : ByteArray), 0, 0, 0⟩ : TToken), false)
     else
     I.readInt.l127 s n r0 t2
    else
    none
   else
   I.readInt.l127 s n 10 t2 :=
  (runA_eq 83 _ _).trans (by kernel_rfl)
theorem I.readInt.l127_eq (s : ByteArray) (n : Int) (t : Int) (t2 : TToken) : I.readInt.l127 s n t t2 =
  bif inS 0 n s.size then
  bif decide ((s.extract 0 n.toNat).size ≤ 281474976710656) && 10 == 10 && 64 == 64 then
   bif !(pUint (s.extract 0 n.toNat)).snd then
    some ((⟨0, (⟨#[]⟩ : ByteArray), 0, 0, 0⟩ : TToken), false)
   else
   (I.bits t).bind fun (r0 : Int) =>
    bif decide (0 ≤ IntKind.u64.wrap (r0 - 1)) then
     (I.signed t).bind fun (r1 : Bool) =>
     bif !r1 then
      bif decide ((pUint (s.extract 0 n.toNat)).fst > IntKind.u64.wrap (IntKind.u64.wrap (IntKind.u64.wrap (shlI IntKind.u64 1 (IntKind.u64.wrap (r0 - 1)) - 1) * 2) + 1)) then
       some ((⟨0, (⟨#[]⟩ : ByteArray), 0, 0, 0⟩ : TToken), false)
      else
      some ((⟨3, (⟨#[]⟩ : ByteArray), t, IntKind.i64.wrap (pUint (s.extract 0 n.toNat)).fst, 0⟩ : TToken), true)
     else
     bif decide ((pUint (s.extract 0 n.toNat)).fst > IntKind.u64.wrap (shlI IntKind.u64 1 (IntKind.u64.wrap (r0 - 1)) - 1)) then
       some ((⟨0, (⟨#[]⟩ : ByteArray), 0, 0, 0⟩ : TToken), false)
      else
      some ((⟨3, (⟨#[]⟩ : ByteArray), t, IntKind.i64.wrap (pUint (s.extract 0 n.toNat)).fst, 0⟩ : TToken), true)
    else
    none
  else
  none
 else
 none :=
  (runA_eq 83 _ _).trans (by kernel_rfl)
theorem I.hexDigit_eq (b : Int) : I.hexDigit b =
  some (Lib.indexByte ((⟨#[48, 49, 50, 51, 52, 53, 54, 55, 56, 57, 97, 98, 99, 100, 101, 102]⟩ : ByteArray)).data.toList b.toNat.toUInt8) :=
  (fnA_eq 113 [PV.i IntKind.u8 b] rfl).trans (by kernel_rfl)
noncomputable def I.quoted.l116 (s : ByteArray) (out : List Int) (i : Int) : Option ((ByteArray × (Int × Int))) := Y.runA 84 (fun ct c => at_ ct [true, true, false, true, false, false] c) ⟨[(0, .s s), (5, .ol 5 out), (6, .i IntKind.i64 i)], [], [], [], []⟩
theorem I.quoted_eq (s : ByteArray) : I.quoted s =
  I.quoted.l116 s ([]) 1 :=
  (fnA_eq 84 [PV.s s] rfl).trans (by kernel_rfl)
theorem I.quoted.l116_eq (s : ByteArray) (out : List Int) (i : Int) : I.quoted.l116 s out i =
  bif decide (i < (↑s.size : Int)) then
  bif inB i s.size then
   bif bt s i == 34 then
    bif decide ((↑out.length : Int) > 3000) then
     some ((⟨#[]⟩ : ByteArray), (IntKind.i64.wrap (i + 1), 5))
    else
    some (strOfBytes (List.map (fun (x : Int) ↦ x) out), (IntKind.i64.wrap (i + 1), 0))
   else
   bif decide (bt s i < 32) then
     some ((⟨#[]⟩ : ByteArray), (0, 4))
    else
    bif decide (bt s i > 126) then
      some ((⟨#[]⟩ : ByteArray), (0, 4))
     else
     bif bt s i == 92 then
       bif decide (IntKind.i64.wrap (i + 2) ≥ (↑s.size : Int)) then
        some ((⟨#[]⟩ : ByteArray), (0, 4))
       else
       bif inB (IntKind.i64.wrap (i + 1)) s.size then
         (I.hexDigit (bt s (IntKind.i64.wrap (i + 1)))).bind fun (r0 : Int) =>
         bif decide (r0 < 0) then
          some ((⟨#[]⟩ : ByteArray), (0, 4))
         else
         bif inB (IntKind.i64.wrap (i + 2)) s.size then
           (I.hexDigit (bt s (IntKind.i64.wrap (i + 2)))).bind fun (r1 : Int) =>
           bif decide (r1 < 0) then
            some ((⟨#[]⟩ : ByteArray), (0, 4))
           else
           bif inB (IntKind.i64.wrap (i + 1)) s.size then
            (I.hexDigit (bt s (IntKind.i64.wrap (i + 1)))).bind fun (r2 : Int) =>
            bif inB (IntKind.i64.wrap (i + 2)) s.size then
            (I.hexDigit (bt s (IntKind.i64.wrap (i + 2)))).bind fun (r3 : Int) =>
            bif room (out.length + [IntKind.u8.wrap (IntKind.i64.wrap (IntKind.i64.wrap (r2 * 16) + r3))].length) 1 then
            I.quoted.l116 s (out ++ [IntKind.u8.wrap (IntKind.i64.wrap (IntKind.i64.wrap (r2 * 16) + r3))]) (IntKind.i64.wrap (IntKind.i64.wrap (i + 2) + 1))
            else
            none
            else
            none
            else
            none
          else
          none
        else
        none
      else
      bif room (out.length + [bt s i].length) 1 then
        I.quoted.l116 s (out ++ [bt s i]) (IntKind.i64.wrap (i + 1))
       else
       none
  else
  none
 else
 some ((⟨#[]⟩ : ByteArray), (0, 4)) :=
  (runA_eq 84 _ _).trans (by kernel_rfl)
noncomputable def I.one.l120 (src : ByteArray) (at_0 : Int) (c : Int) (end_ : Int) (t4 : TToken) : Option ((TToken × (Int × Int))) := Y.runA 54 (fun ct c => at_ ct [true, true, true, false, false, false] c) ⟨[(0, .s src), (1, .i IntKind.i64 at_0), (4, .ad (.loc 4) 0), (7, .i IntKind.u8 c), (8, .i IntKind.i64 end_)], [(4, cells 86 t4)], [], [], []⟩
noncomputable def I.one.l1012 (src : ByteArray) (at_0 : Int) (t88 : List ByteArray) (t89 : Int) (t90 : Int) (t4 : TToken) : Option ((TToken × (Int × Int))) := Y.runA 54 (fun ct c => at_ ct [true, true, true, true, true, false, true, false, false] c) ⟨[(0, .s src), (1, .i IntKind.i64 at_0), (4, .ad (.loc 4) 0), (88, .fl 9 t88), (89, .i IntKind.i64 t89), (90, .i IntKind.i64 t90)], [(4, cells 86 t4)], [], [], []⟩
theorem I.one_eq (src : ByteArray) (at_0 : Int) : I.one src at_0 =
  bif inB at_0 src.size then
  I.one.l120 src at_0 (bt src at_0) at_0 (⟨0, (⟨#[]⟩ : ByteArray), 0, 0, 0⟩ : TToken)
 else
 none :=
  (fnA_eq 54 [PV.s src, PV.i IntKind.i64 at_0] rfl).trans (by kernel_rfl)
theorem I.one.l120_eq (src : ByteArray) (at_0 : Int) (c : Int) (end_ : Int) (t4 : TToken) : I.one.l120 src at_0 c end_ t4 =
  bif decide (end_ < (↑src.size : Int)) then
  bif inB end_ src.size then
   (I.wordy (bt src end_)).bind fun (r0 : Bool) =>
   bif r0 then
    I.one.l120 src at_0 c (IntKind.i64.wrap (end_ + 1)) t4
   else
   (I.lower c).bind fun (r1 : Bool) =>
    bif r1 then
     bif inS at_0 end_ src.size then
      (I.isTaken (src.extract at_0.toNat end_.toNat)).bind fun (r2 : Bool) =>
      bif r2 then
       some ((⟨2, src.extract at_0.toNat end_.toNat, 0, 0, 0⟩ : TToken), (end_, 0))
      else
      bif decide ((↑(src.extract at_0.toNat end_.toNat).size : Int) > 30) then
        some ((⟨0, (⟨#[]⟩ : ByteArray), 0, 0, 0⟩ : TToken), (0, 5))
       else
       some ((⟨1, src.extract at_0.toNat end_.toNat, 0, 0, 0⟩ : TToken), (end_, 0))
     else
     none
    else
    (I.digit c).bind fun (r2 : Bool) =>
     bif r2 then
      bif inS at_0 end_ src.size then
       (I.readInt (src.extract at_0.toNat end_.toNat)).bind fun (r3 : (TToken × Bool)) =>
       bif !r3.snd then
        some ((⟨0, (⟨#[]⟩ : ByteArray), 0, 0, 0⟩ : TToken), (0, 3))
       else
       some (r3.fst, (end_, 0))
      else
      none
     else
     bif c == 34 then
       bif inS at_0 (↑src.size : Int) src.size then
        (I.quoted (src.extract at_0.toNat src.size)).bind fun (r3 : (ByteArray × (Int × Int))) =>
        bif r3.snd.snd != 0 then
         some ((⟨0, (⟨#[]⟩ : ByteArray), 0, 0, 0⟩ : TToken), (0, r3.snd.snd))
        else
        some ((⟨4, r3.fst, 0, 0, 0⟩ : TToken), (IntKind.i64.wrap (at_0 + r3.snd.fst), 0))
       else
       none
      else
      I.one.l1012 src at_0 ([(⟨#[45, 62]⟩ : ByteArray), (⟨#[61, 61]⟩ : ByteArray), (⟨#[33, 61]⟩ : ByteArray), (⟨#[60, 61]⟩ : ByteArray), (⟨#[62, 61]⟩ : ByteArray), (⟨#[60, 60]⟩ : ByteArray), (⟨#[62, 62]⟩ : ByteArray), (⟨#[38, 38]⟩ : ByteArray), (⟨#[124, 124]⟩ : ByteArray), (⟨#[40]⟩ : ByteArray), (⟨#[41]⟩ : ByteArray), (⟨#[123]⟩ : ByteArray), (⟨#[125]⟩ : ByteArray), (⟨#[44]⟩ : ByteArray), (⟨#[59]⟩ : ByteArray), (⟨#[61]⟩ : ByteArray), (⟨#[60]⟩ : ByteArray), (⟨#[62]⟩ : ByteArray), (⟨#[43]⟩ : ByteArray), (⟨#[45]⟩ : ByteArray), (⟨#[42]⟩ : ByteArray), (⟨#[47]⟩ : ByteArray), (⟨#[37]⟩ : ByteArray), (⟨#[38]⟩ : ByteArray), (⟨#[124]⟩ : ByteArray), (⟨#[94]⟩ : ByteArray), (⟨#[33]⟩ : ByteArray), (⟨#[126]⟩ : ByteArray)]) (↑[(⟨#[45, 62]⟩ : ByteArray), (⟨#[61, 61]⟩ : ByteArray), (⟨#[33, 61]⟩ : ByteArray), (⟨#[60, 61]⟩ : ByteArray), (⟨#[62, 61]⟩ : ByteArray), (⟨#[60, 60]⟩ : ByteArray), (⟨#[62, 62]⟩ : ByteArray), (⟨#[38, 38]⟩ : ByteArray), (⟨#[124, 124]⟩ : ByteArray), (⟨#[40]⟩ : ByteArray), (⟨#[41]⟩ : ByteArray), (⟨#[123]⟩ : ByteArray), (⟨#[125]⟩ : ByteArray), (⟨#[44]⟩ : ByteArray), (⟨#[59]⟩ : ByteArray), (⟨#[61]⟩ : ByteArray), (⟨#[60]⟩ : ByteArray), (⟨#[62]⟩ : ByteArray), (⟨#[43]⟩ : ByteArray), (⟨#[45]⟩ : ByteArray), (⟨#[42]⟩ : ByteArray), (⟨#[47]⟩ : ByteArray), (⟨#[37]⟩ : ByteArray), (⟨#[38]⟩ : ByteArray), (⟨#[124]⟩ : ByteArray), (⟨#[94]⟩ : ByteArray), (⟨#[33]⟩ : ByteArray), (⟨#[126]⟩ : ByteArray)].length : Int) 0 t4
  else
  none
 else
 (I.lower c).bind fun (r0 : Bool) =>
  bif r0 then
   bif inS at_0 end_ src.size then
    (I.isTaken (src.extract at_0.toNat end_.toNat)).bind fun (r1 : Bool) =>
    bif r1 then
     some ((⟨2, src.extract at_0.toNat end_.toNat, 0, 0, 0⟩ : TToken), (end_, 0))
    else
    bif decide ((↑(src.extract at_0.toNat end_.toNat).size : Int) > 30) then
      some ((⟨0, (⟨#[]⟩ : ByteArray), 0, 0, 0⟩ : TToken), (0, 5))
     else
     some ((⟨1, src.extract at_0.toNat end_.toNat, 0, 0, 0⟩ : TToken), (end_, 0))
   else
   none
  else
  (I.digit c).bind fun (r1 : Bool) =>
   bif r1 then
    bif inS at_0 end_ src.size then
     (I.readInt (src.extract at_0.toNat end_.toNat)).bind fun (r2 : (TToken × Bool)) =>
     bif !r2.snd then
      some ((⟨0, (⟨#[]⟩ : ByteArray), 0, 0, 0⟩ : TToken), (0, 3))
     else
     some (r2.fst, (end_, 0))
    else
    none
   else
   bif c == 34 then
     bif inS at_0 (↑src.size : Int) src.size then
      (I.quoted (src.extract at_0.toNat src.size)).bind fun (r2 : (ByteArray × (Int × Int))) =>
      bif r2.snd.snd != 0 then
       some ((⟨0, (⟨#[]⟩ : ByteArray), 0, 0, 0⟩ : TToken), (0, r2.snd.snd))
      else
      some ((⟨4, r2.fst, 0, 0, 0⟩ : TToken), (IntKind.i64.wrap (at_0 + r2.snd.fst), 0))
     else
     none
    else
    I.one.l1012 src at_0 ([(⟨#[45, 62]⟩ : ByteArray), (⟨#[61, 61]⟩ : ByteArray), (⟨#[33, 61]⟩ : ByteArray), (⟨#[60, 61]⟩ : ByteArray), (⟨#[62, 61]⟩ : ByteArray), (⟨#[60, 60]⟩ : ByteArray), (⟨#[62, 62]⟩ : ByteArray), (⟨#[38, 38]⟩ : ByteArray), (⟨#[124, 124]⟩ : ByteArray), (⟨#[40]⟩ : ByteArray), (⟨#[41]⟩ : ByteArray), (⟨#[123]⟩ : ByteArray), (⟨#[125]⟩ : ByteArray), (⟨#[44]⟩ : ByteArray), (⟨#[59]⟩ : ByteArray), (⟨#[61]⟩ : ByteArray), (⟨#[60]⟩ : ByteArray), (⟨#[62]⟩ : ByteArray), (⟨#[43]⟩ : ByteArray), (⟨#[45]⟩ : ByteArray), (⟨#[42]⟩ : ByteArray), (⟨#[47]⟩ : ByteArray), (⟨#[37]⟩ : ByteArray), (⟨#[38]⟩ : ByteArray), (⟨#[124]⟩ : ByteArray), (⟨#[94]⟩ : ByteArray), (⟨#[33]⟩ : ByteArray), (⟨#[126]⟩ : ByteArray)]) (↑[(⟨#[45, 62]⟩ : ByteArray), (⟨#[61, 61]⟩ : ByteArray), (⟨#[33, 61]⟩ : ByteArray), (⟨#[60, 61]⟩ : ByteArray), (⟨#[62, 61]⟩ : ByteArray), (⟨#[60, 60]⟩ : ByteArray), (⟨#[62, 62]⟩ : ByteArray), (⟨#[38, 38]⟩ : ByteArray), (⟨#[124, 124]⟩ : ByteArray), (⟨#[40]⟩ : ByteArray), (⟨#[41]⟩ : ByteArray), (⟨#[123]⟩ : ByteArray), (⟨#[125]⟩ : ByteArray), (⟨#[44]⟩ : ByteArray), (⟨#[59]⟩ : ByteArray), (⟨#[61]⟩ : ByteArray), (⟨#[60]⟩ : ByteArray), (⟨#[62]⟩ : ByteArray), (⟨#[43]⟩ : ByteArray), (⟨#[45]⟩ : ByteArray), (⟨#[42]⟩ : ByteArray), (⟨#[47]⟩ : ByteArray), (⟨#[37]⟩ : ByteArray), (⟨#[38]⟩ : ByteArray), (⟨#[124]⟩ : ByteArray), (⟨#[94]⟩ : ByteArray), (⟨#[33]⟩ : ByteArray), (⟨#[126]⟩ : ByteArray)].length : Int) 0 t4 :=
  (runA_eq 54 _ _).trans (by kernel_rfl)
theorem I.one.l1012_eq (src : ByteArray) (at_0 : Int) (t88 : List ByteArray) (t89 : Int) (t90 : Int) (t4 : TToken) : I.one.l1012 src at_0 t88 t89 t90 t4 =
  bif decide (t90 < t89) then
  bif inB t90 t88.length then
   bif inS at_0 (↑src.size : Int) src.size then
    bif Lib.hasPrefix (src.extract at_0.toNat src.size).data.toList (t88.getD t90.toNat (⟨#[]⟩ : ByteArray)).data.toList then
     some ((⟨5, t88.getD t90.toNat (⟨#[]⟩ : ByteArray), 0, 0, 0⟩ : TToken), (IntKind.i64.wrap (at_0 + (↑(ByteArray.size (t88.getD t90.toNat (⟨#[]⟩ : ByteArray))) : Int)), 0))
    else
    I.one.l1012 src at_0 t88 t89 (IntKind.i64.wrap (t90 + 1)) t4
   else
   none
  else
  none
 else
 some ((⟨0, (⟨#[]⟩ : ByteArray), 0, 0, 0⟩ : TToken), (0, 2)) :=
  (runA_eq 54 _ _).trans (by kernel_rfl)
noncomputable def I.Scan.l244 (src : ByteArray) (out : List TToken) (at_0 : Int) (t3 : TFault) : Option ((List TToken × TFault)) := Y.runA 19 (fun ct c => at_ ct [true, true, true, false, true, false, false] c) ⟨[(0, .s src), (3, .ad (.loc 3) 0), (4, .ol 86 out), (5, .i IntKind.i64 at_0)], [(3, cells 43 t3)], [], [], []⟩
noncomputable def I.Scan.l15653 (src : ByteArray) (out : List TToken) (at_0 : Int) (t19 : Int) (t20 : Bool) (t3 : TFault) : Option ((List TToken × TFault)) := Y.runA 19 (fun ct c => at_ ct [true, true, true, false, true, false, false, true, false, false, true, false, true] c) ⟨[(0, .s src), (3, .ad (.loc 3) 0), (4, .ol 86 out), (5, .i IntKind.i64 at_0), (19, .i IntKind.u8 t19), (20, .b t20)], [(3, cells 43 t3)], [], [], []⟩
noncomputable def I.Scan.l1001840 (src : ByteArray) (out : List TToken) (at_0 : Int) (t3 : TFault) : Option ((List TToken × TFault)) := Y.runA 19 (fun ct c => at_ ct [true, true, true, false, true, false, false, true, false, false, true, false, true, true, true, false, false, false, false] c) ⟨[(0, .s src), (3, .ad (.loc 3) 0), (4, .ol 86 out), (5, .i IntKind.i64 at_0)], [(3, cells 43 t3)], [], [], []⟩
theorem I.Scan_eq (src : ByteArray) : I.Scan src =
  bif decide ((↑src.size : Int) > 12000) then
  some ([], (⟨1, 0⟩ : TFault))
 else
 I.Scan.l244 src ([]) 0 (⟨0, 0⟩ : TFault) :=
  (fnA_eq 19 [PV.s src] rfl).trans (by kernel_rfl)
theorem I.Scan.l244_eq (src : ByteArray) (out : List TToken) (at_0 : Int) (t3 : TFault) : I.Scan.l244 src out at_0 t3 =
  bif decide (at_0 < (↑src.size : Int)) then
  bif inB at_0 src.size then
   bif bt src at_0 == 32 then
    I.Scan.l15653 src out at_0 (bt src at_0) (bt src at_0 == 32) t3
   else
   I.Scan.l15653 src out at_0 (bt src at_0) (bt src at_0 == 10) t3
  else
  none
 else
 some (out, (⟨0, 0⟩ : TFault)) :=
  (runA_eq 19 _ _).trans (by kernel_rfl)
theorem I.Scan.l15653_eq (src : ByteArray) (out : List TToken) (at_0 : Int) (t19 : Int) (t20 : Bool) (t3 : TFault) : I.Scan.l15653 src out at_0 t19 t20 t3 =
  bif t20 then
  I.Scan.l244 src out (IntKind.i64.wrap (at_0 + 1)) t3
 else
 bif t19 == 35 then
   I.Scan.l1001840 src out at_0 t3
  else
  (I.one src at_0).bind fun (r0 : (TToken × (Int × Int))) =>
   bif r0.snd.snd != 0 then
    some ([], (⟨r0.snd.snd, at_0⟩ : TFault))
   else
   bif room (out.length + [TToken.mk r0.fst.gKind r0.fst.gText r0.fst.gType r0.fst.gN at_0].length) 48 then
     I.Scan.l244 src (out ++ [TToken.mk r0.fst.gKind r0.fst.gText r0.fst.gType r0.fst.gN at_0]) r0.snd.fst t3
    else
    none :=
  (runA_eq 19 _ _).trans (by kernel_rfl)
theorem I.Scan.l1001840_eq (src : ByteArray) (out : List TToken) (at_0 : Int) (t3 : TFault) : I.Scan.l1001840 src out at_0 t3 =
  bif decide (at_0 < (↑src.size : Int)) then
  bif inB at_0 src.size then
   bif bt src at_0 != 10 then
    I.Scan.l1001840 src out (IntKind.i64.wrap (at_0 + 1)) t3
   else
   I.Scan.l244 src out at_0 t3
  else
  none
 else
 I.Scan.l244 src out at_0 t3 :=
  (runA_eq 19 _ _).trans (by kernel_rfl)
theorem L.eqToken_eq (a : TToken) (b : TToken) : L.eqToken a b =
  bif a.gKind != b.gKind then
  some false
 else
 bif !bEq a.gText b.gText then
   some false
  else
  bif a.gType != b.gType then
    some false
   else
   bif a.gN != b.gN then
     some false
    else
    bif a.gAt != b.gAt then
      some false
     else
     some true :=
  (fnA_eq 55 [PV.st (cells 86 a), PV.st (cells 86 b)] rfl).trans (by kernel_rfl)
noncomputable def L.eqTokenS.l116 (a : List TToken) (b : List TToken) (i : Int) : Option Bool := Y.runA 20 (fun ct c => at_ ct [true, true, false, true, false, false] c) ⟨[(0, .fl 86 a), (1, .fl 86 b), (5, .i IntKind.i64 i)], [], [], [], []⟩
theorem L.eqTokenS_eq (a : List TToken) (b : List TToken) : L.eqTokenS a b =
  bif (↑a.length : Int) != (↑b.length : Int) then
  some false
 else
 L.eqTokenS.l116 a b 0 :=
  (fnA_eq 20 [PV.fl 86 a, PV.fl 86 b] rfl).trans (by kernel_rfl)
theorem L.eqTokenS.l116_eq (a : List TToken) (b : List TToken) (i : Int) : L.eqTokenS.l116 a b i =
  bif decide (i < (↑a.length : Int)) then
  bif inB i a.length then
   bif inB i b.length then
    (L.eqToken (a.getD i.toNat TToken.z) (b.getD i.toNat TToken.z)).bind fun (r0 : Bool) =>
    bif !r0 then
     some false
    else
    L.eqTokenS.l116 a b (IntKind.i64.wrap (i + 1))
   else
   none
  else
  none
 else
 some true :=
  (runA_eq 20 _ _).trans (by kernel_rfl)
theorem L.eqFault_eq (a : TFault) (b : TFault) : L.eqFault a b =
  bif a.gCode != b.gCode then
  some false
 else
 bif a.gAt != b.gAt then
   some false
  else
  some true :=
  (fnA_eq 21 [PV.st (cells 43 a), PV.st (cells 43 b)] rfl).trans (by kernel_rfl)
noncomputable def L.markText.l120 (k : Int) (out : ByteArray) : Option ByteArray := Y.runA 56 (fun ct c => at_ ct [true, true, true, false, false, false] c) ⟨[(0, .i IntKind.i64 k), (3, .s out)], [], [], [], []⟩
theorem L.markText_eq (k : Int) : L.markText k =
  bif decide (k ≤ 0) then
  some ((⟨#[109, 48]⟩ : ByteArray))
 else
 L.markText.l120 k ((⟨#[]⟩ : ByteArray)) :=
  (fnA_eq 56 [PV.i IntKind.i64 k] rfl).trans (by kernel_rfl)
theorem L.markText.l120_eq (k : Int) (out : ByteArray) : L.markText.l120 k out =
  bif decide (k > 0) then
  bif decide ((strOfBytes (List.map (fun (x : Int) ↦ x) [IntKind.u8.wrap (IntKind.i64.wrap (48 + k.tmod 10))])).size + out.size < 2 ^ 62) then
   L.markText.l120 (IntKind.i64.wrap (k.tdiv 10)) (strOfBytes (List.map (fun (x : Int) ↦ x) [IntKind.u8.wrap (IntKind.i64.wrap (48 + k.tmod 10))]) ++ out)
  else
  none
 else
 bif decide (((⟨#[109]⟩ : ByteArray)).size + out.size < 2 ^ 62) then
   some ((⟨#[109]⟩ : ByteArray) ++ out)
  else
  none :=
  (runA_eq 56 _ _).trans (by kernel_rfl)
noncomputable def L.markTokenS.l52 (k : Int) (i : Int) (v : List TToken) : Option ((Int × List TToken)) := Y.runB 22 (fun ct c => at_ ct [true, false, true, false, false] c) ⟨[(0, .vo 0), (1, .i IntKind.i64 k), (5, .i IntKind.i64 i)], [], [], [], [.ol 86 v]⟩
theorem L.markTokenS_eq (a : List TToken) (k : Int) : L.markTokenS a k =
  L.markTokenS.l52 k 0 a :=
  (fnW_eq 22 [PV.vo 0, PV.i IntKind.i64 k] [PV.ol 86 a] rfl).trans (by kernel_rfl)
theorem L.markTokenS.l52_eq (k : Int) (i : Int) (v : List TToken) : L.markTokenS.l52 k i v =
  bif decide (i < (↑v.length : Int)) then
  bif inB i v.length then
   (L.markText (IntKind.i64.wrap (k + 1))).bind fun (r0 : ByteArray) =>
   bnd (v.set i.toNat (TToken.mk k (v.getD i.toNat TToken.z).gText (v.getD i.toNat TToken.z).gType (v.getD i.toNat TToken.z).gN (v.getD i.toNat TToken.z).gAt)) fun (x0 : List TToken) =>
   bif inB i x0.length then
    bnd (x0.set i.toNat (TToken.mk (x0.getD i.toNat TToken.z).gKind r0 (x0.getD i.toNat TToken.z).gType (x0.getD i.toNat TToken.z).gN (x0.getD i.toNat TToken.z).gAt)) fun (x1 : List TToken) =>
    bif inB i x1.length then
     bnd (x1.set i.toNat (TToken.mk (x1.getD i.toNat TToken.z).gKind (x1.getD i.toNat TToken.z).gText (IntKind.i64.wrap (IntKind.i64.wrap (k + 1) + 1)) (x1.getD i.toNat TToken.z).gN (x1.getD i.toNat TToken.z).gAt)) fun (x2 : List TToken) =>
     bif inB i x2.length then
      bnd (x2.set i.toNat (TToken.mk (x2.getD i.toNat TToken.z).gKind (x2.getD i.toNat TToken.z).gText (x2.getD i.toNat TToken.z).gType (IntKind.i64.wrap (IntKind.i64.wrap (IntKind.i64.wrap (k + 1) + 1) + 1)) (x2.getD i.toNat TToken.z).gAt)) fun (x3 : List TToken) =>
      bif inB i x3.length then
       bnd (x3.set i.toNat (TToken.mk (x3.getD i.toNat TToken.z).gKind (x3.getD i.toNat TToken.z).gText (x3.getD i.toNat TToken.z).gType (x3.getD i.toNat TToken.z).gN (IntKind.i64.wrap (IntKind.i64.wrap (IntKind.i64.wrap (IntKind.i64.wrap (k + 1) + 1) + 1) + 1)))) fun (x4 : List TToken) =>
       L.markTokenS.l52 (IntKind.i64.wrap (IntKind.i64.wrap (IntKind.i64.wrap (IntKind.i64.wrap (IntKind.i64.wrap (k + 1) + 1) + 1) + 1) + 1)) (IntKind.i64.wrap (i + 1)) x4
      else
      none
     else
     none
    else
    none
   else
   none
  else
  none
 else
 some (k, v) :=
  (runB_eq 22 _ _).trans (by kernel_rfl)
noncomputable def L.heldTokenS.l52 (a : List TToken) (k : Int) (i : Int) : Option Int := Y.runA 23 (fun ct c => at_ ct [true, false, true, false, false] c) ⟨[(0, .fl 86 a), (1, .i IntKind.i64 k), (5, .i IntKind.i64 i)], [], [], [], []⟩
theorem L.heldTokenS_eq (a : List TToken) (k : Int) : L.heldTokenS a k =
  L.heldTokenS.l52 a k 0 :=
  (fnA_eq 23 [PV.fl 86 a, PV.i IntKind.i64 k] rfl).trans (by kernel_rfl)
theorem L.heldTokenS.l52_eq (a : List TToken) (k : Int) (i : Int) : L.heldTokenS.l52 a k i =
  bif decide (i < (↑a.length : Int)) then
  bif inB i a.length then
   bif (a.getD i.toNat TToken.z).gKind != k then
    some (-1)
   else
   bif inB i a.length then
     (L.markText (IntKind.i64.wrap (k + 1))).bind fun (r0 : ByteArray) =>
     bif !bEq (a.getD i.toNat TToken.z).gText r0 then
      some (-1)
     else
     bif inB i a.length then
       bif (a.getD i.toNat TToken.z).gType != IntKind.i64.wrap (IntKind.i64.wrap (k + 1) + 1) then
        some (-1)
       else
       bif inB i a.length then
         bif (a.getD i.toNat TToken.z).gN != IntKind.i64.wrap (IntKind.i64.wrap (IntKind.i64.wrap (k + 1) + 1) + 1) then
          some (-1)
         else
         bif inB i a.length then
           bif (a.getD i.toNat TToken.z).gAt != IntKind.i64.wrap (IntKind.i64.wrap (IntKind.i64.wrap (IntKind.i64.wrap (k + 1) + 1) + 1) + 1) then
            some (-1)
           else
           L.heldTokenS.l52 a (IntKind.i64.wrap (IntKind.i64.wrap (IntKind.i64.wrap (IntKind.i64.wrap (IntKind.i64.wrap (k + 1) + 1) + 1) + 1) + 1)) (IntKind.i64.wrap (i + 1))
          else
          none
        else
        none
      else
      none
    else
    none
  else
  none
 else
 some k :=
  (runA_eq 23 _ _).trans (by kernel_rfl)
theorem L.FnExactScan_eq (aSrc : ByteArray) : L.FnExactScan aSrc =
  bif decide ((↑aSrc.size : Int) > 1048576) then
  some true
 else
 (R.Scan aSrc).bind fun (r0 : (List TToken × TFault)) =>
  (I.Scan aSrc).bind fun (r1 : (List TToken × TFault)) =>
  (L.eqTokenS r1.fst r0.fst).bind fun (r2 : Bool) =>
  bif !r2 then
   some false
  else
  (L.eqFault r1.snd r0.snd).bind fun (r3 : Bool) =>
   bif !r3 then
    some false
   else
   (L.markTokenS r1.fst 1).bind fun (r4 : (Int × List TToken)) =>
    (L.heldTokenS r4.snd 1).bind fun (r5 : Int) =>
    bif decide (r5 < 0) then
     some false
    else
    bif r5 != r4.fst then
      some false
     else
     (I.Scan aSrc).bind fun (r6 : (List TToken × TFault)) =>
      (L.eqTokenS r6.fst r0.fst).bind fun (r7 : Bool) =>
      bif !r7 then
       some false
      else
      (L.eqFault r6.snd r0.snd).bind fun (r8 : Bool) =>
       bif !r8 then
        some false
       else
       (L.heldTokenS r4.snd 1).bind fun (r9 : Int) =>
        bif decide (r9 < 0) then
         some false
        else
        bif r9 != r4.fst then
          some false
         else
         some true :=
  (fnA_eq 5 [PV.s aSrc] rfl).trans (by kernel_rfl)
end Go.KM.S1
