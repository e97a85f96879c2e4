/- The equations of the law's functions. Conditions: none. -/
import Derived.Test.YtgjcobbngimleaaDoorVSg
namespace Go.KM.V1
open Go Go.KM
open Go.KM.Fam (Dn dflt)
open Go.KM.Enc (cells sz mkE glob gany u8)
set_option autoImplicit false
set_option linter.unusedVariables false
set_option maxRecDepth 100000
theorem R.l1Open_eq (code : List Int) : R.l1Open code =
  bif decide ((↑code.length : Int) > 2000) then
  bif inS 0 2000 code.length then
   some ((), (sub code 0 2000, 0))
  else
  none
 else
 some ((), (code, 0)) :=
  (fnB_eq 39 [PV.fl 5 code] [] rfl).trans (by kernel_rfl)
theorem R.l1Rd_pick_eq (r : (List Int × Int)) (n : Int) : R.l1Rd_pick r n =
  bif decide (n < 1) then
  some (0, (r.fst, IntKind.i64.wrap (r.snd + 1)))
 else
 bif (↑r.fst.length : Int) == 0 then
   some (0, (r.fst, IntKind.i64.wrap (r.snd + 1)))
  else
  bif decide (IntKind.i64.wrap (IntKind.i64.wrap (r.snd + 1) - 1) < (↑r.fst.length : Int)) then
    bif inB (IntKind.i64.wrap (IntKind.i64.wrap (r.snd + 1) - 1)) r.fst.length then
     bif n != 0 then
      some ((IntKind.i64.wrap (r.fst.getD (IntKind.i64.wrap (IntKind.i64.wrap (r.snd + 1) - 1)).toNat 0)).tmod n, (r.fst, IntKind.i64.wrap (r.snd + 1)))
     else
     none
    else
    none
   else
   bif (↑r.fst.length : Int) != 0 then
     bif inB ((IntKind.i64.wrap (IntKind.i64.wrap (r.snd + 1) - 1)).tmod (↑r.fst.length : Int)) r.fst.length then
      bif (↑r.fst.length : Int) != 0 then
       bif inB ((IntKind.i64.wrap (IntKind.i64.wrap (IntKind.i64.wrap (IntKind.i64.wrap (r.snd + 1) - 1) * 7) + 3)).tmod (↑r.fst.length : Int)) r.fst.length then
        bif (↑r.fst.length : Int) != 0 then
         bif n != 0 then
          some ((bitXor IntKind.i64 (IntKind.i64.wrap (IntKind.i64.wrap (IntKind.i64.wrap (IntKind.i64.wrap (IntKind.i64.wrap (r.fst.getD ((IntKind.i64.wrap (IntKind.i64.wrap (r.snd + 1) - 1)).tmod (↑r.fst.length : Int)).toNat 0) * 131) + IntKind.i64.wrap (IntKind.i64.wrap (r.fst.getD ((IntKind.i64.wrap (IntKind.i64.wrap (IntKind.i64.wrap (IntKind.i64.wrap (r.snd + 1) - 1) * 7) + 3)).tmod (↑r.fst.length : Int)).toNat 0) * 1117)) + IntKind.i64.wrap (IntKind.i64.wrap (IntKind.i64.wrap (r.snd + 1) - 1) * 29)) + IntKind.i64.wrap (IntKind.i64.wrap ((IntKind.i64.wrap (IntKind.i64.wrap (r.snd + 1) - 1)).tdiv (↑r.fst.length : Int)) * 53))) (IntKind.i64.wrap ((IntKind.i64.wrap (IntKind.i64.wrap (IntKind.i64.wrap (IntKind.i64.wrap (IntKind.i64.wrap (r.fst.getD ((IntKind.i64.wrap (IntKind.i64.wrap (r.snd + 1) - 1)).tmod (↑r.fst.length : Int)).toNat 0) * 131) + IntKind.i64.wrap (IntKind.i64.wrap (r.fst.getD ((IntKind.i64.wrap (IntKind.i64.wrap (IntKind.i64.wrap (IntKind.i64.wrap (r.snd + 1) - 1) * 7) + 3)).tmod (↑r.fst.length : Int)).toNat 0) * 1117)) + IntKind.i64.wrap (IntKind.i64.wrap (IntKind.i64.wrap (r.snd + 1) - 1) * 29)) + IntKind.i64.wrap (IntKind.i64.wrap ((IntKind.i64.wrap (IntKind.i64.wrap (r.snd + 1) - 1)).tdiv (↑r.fst.length : Int)) * 53))).tdiv 64))).tmod n, (r.fst, IntKind.i64.wrap (r.snd + 1)))
         else
         none
        else
        none
       else
       none
      else
      none
     else
     none
    else
    none :=
  (fnB_eq 40 [PV.ad (Base.obj 0) 0, PV.i IntKind.i64 n] [[PV.fl 5 r.fst, PV.i IntKind.i64 r.snd]] rfl).trans (by kernel_rfl)
theorem R.l4Bool_eq (b : Bool) : R.l4Bool b =
  bif b then
  some (⟨1, 1, (⟨#[]⟩ : ByteArray)⟩ : TValue)
 else
 some (⟨1, 0, (⟨#[]⟩ : ByteArray)⟩ : TValue) :=
  (fnA_eq 100 [PV.b b] rfl).trans (by kernel_rfl)
noncomputable def R.l1Many.l56 (s : ByteArray) (n : Int) (out : ByteArray) : Option ByteArray := Y.runA 67 (fun ct c => at_ ct [true, true, false, false, false] c) ⟨[(0, .s s), (1, .i IntKind.i64 n), (5, .s out)], [], [], []⟩
theorem R.l1Many_eq (s : ByteArray) (n : Int) : R.l1Many s n =
  R.l1Many.l56 s n ((⟨#[]⟩ : ByteArray)) :=
  (fnA_eq 67 [PV.s s, PV.i IntKind.i64 n] rfl).trans (by kernel_rfl)
theorem R.l1Many.l56_eq (s : ByteArray) (n : Int) (out : ByteArray) : R.l1Many.l56 s n out =
  bif decide (n > 0) then
  bif n.tmod 2 == 1 then
   bif decide (out.size + s.size < 2 ^ 62) then
    bif decide (s.size + s.size < 2 ^ 62) then
     R.l1Many.l56 (s ++ s) (IntKind.i64.wrap (n.tdiv 2)) (out ++ s)
    else
    none
   else
   none
  else
  bif decide (s.size + s.size < 2 ^ 62) then
    R.l1Many.l56 (s ++ s) (IntKind.i64.wrap (n.tdiv 2)) out
   else
   none
 else
 some out :=
  (runA_eq 67 _ _).trans (by kernel_rfl)
theorem R.l4Text_eq (s : ByteArray) : R.l4Text s =
  some (⟨2, 0, s⟩ : TValue) :=
  (fnA_eq 28 [PV.s s] rfl).trans (by kernel_rfl)
theorem R.l1Path_eq (r : (List Int × Int)) : R.l1Path r =
  (R.l1Rd_pick r 8).bind fun (r0 : (Int × (List Int × Int))) =>
 bif inB r0.fst [(⟨#[97]⟩ : ByteArray), (⟨#[98]⟩ : ByteArray), (⟨#[108, 105, 98, 47, 120]⟩ : ByteArray), (⟨#[108, 105, 98, 47, 121]⟩ : ByteArray), (⟨#[111, 117, 116]⟩ : ByteArray), (⟨#[116, 48]⟩ : ByteArray), (⟨#[116, 49]⟩ : ByteArray), (⟨#[103, 111, 110, 101]⟩ : ByteArray)].length then
  some ([(⟨#[97]⟩ : ByteArray), (⟨#[98]⟩ : ByteArray), (⟨#[108, 105, 98, 47, 120]⟩ : ByteArray), (⟨#[108, 105, 98, 47, 121]⟩ : ByteArray), (⟨#[111, 117, 116]⟩ : ByteArray), (⟨#[116, 48]⟩ : ByteArray), (⟨#[116, 49]⟩ : ByteArray), (⟨#[103, 111, 110, 101]⟩ : ByteArray)].getD (Int.toNat r0.fst) (⟨#[]⟩ : ByteArray), (r0.snd.fst, r0.snd.snd))
 else
 none :=
  (fnB_eq 127 [PV.ad (Base.obj 0) 0] [[PV.fl 5 r.fst, PV.i IntKind.i64 r.snd]] rfl).trans (by kernel_rfl)
noncomputable def R.l1DrawText.l500 (n : Int) (out : List Int) (i : Int) (m : List Int) (m_1 : Int) : Option (ByteArray × List Int × Int) := Y.runB 101 (fun ct c => at_ ct [true, true, true, true, false, true, false, false] c) ⟨[(0, .ad (.obj 0) 0), (3, .i IntKind.i64 n), (4, .ol 5 out), (5, .i IntKind.i64 i)], [], [[.fl 5 m, .i IntKind.i64 m_1]], []⟩
theorem R.l1DrawText_eq (r : (List Int × Int)) : R.l1DrawText r =
  (R.l1Rd_pick r 12).bind fun (r0 : (Int × (List Int × Int))) =>
 bif r0.fst == 0 then
  some ((⟨#[]⟩ : ByteArray), (r0.snd.fst, r0.snd.snd))
 else
 bif r0.fst == 1 then
   some ((⟨#[49, 50]⟩ : ByteArray), (r0.snd.fst, r0.snd.snd))
  else
  bif r0.fst == 2 then
    some ((⟨#[45, 55]⟩ : ByteArray), (r0.snd.fst, r0.snd.snd))
   else
   bif r0.fst == 3 then
     some ((⟨#[97, 32, 98]⟩ : ByteArray), (r0.snd.fst, r0.snd.snd))
    else
    bif r0.fst == 4 then
      some ((⟨#[113, 34, 117, 92, 111, 10]⟩ : ByteArray), (r0.snd.fst, r0.snd.snd))
     else
     bif r0.fst == 5 then
       some ((⟨#[255, 0, 32, 122]⟩ : ByteArray), (r0.snd.fst, r0.snd.snd))
      else
      bif r0.fst == 6 then
        (R.l1Path r0.snd).bind fun (r1 : (ByteArray × (List Int × Int))) =>
        some (r1.fst, (r1.snd.fst, r1.snd.snd))
       else
       (R.l1Rd_pick r0.snd 5).bind fun (r1 : (Int × (List Int × Int))) =>
        R.l1DrawText.l500 r1.fst ([]) 0 r1.snd.fst r1.snd.snd :=
  (fnB_eq 101 [PV.ad (Base.obj 0) 0] [[PV.fl 5 r.fst, PV.i IntKind.i64 r.snd]] rfl).trans (by kernel_rfl)
theorem R.l1DrawText.l500_eq (n : Int) (out : List Int) (i : Int) (m : List Int) (m_1 : Int) : R.l1DrawText.l500 n out i m m_1 =
  bif decide (i ≤ n) then
  (R.l1Rd_pick (m, m_1) 4).bind fun (r0 : (Int × (List Int × Int))) =>
  bif room (out.length + [IntKind.u8.wrap (IntKind.i64.wrap (97 + r0.fst))].length) 1 then
   R.l1DrawText.l500 n (out ++ [IntKind.u8.wrap (IntKind.i64.wrap (97 + r0.fst))]) (IntKind.i64.wrap (i + 1)) r0.snd.fst r0.snd.snd
  else
  none
 else
 some (strOfBytes (List.map (fun (x : Int) ↦ x) out), (m, m_1)) :=
  (runB_eq 101 _ _).trans (by kernel_rfl)
noncomputable def R.l1Bits.l53 (t3 : Int) (t4 : Bool) : Option Int := Y.runA 68 (fun ct c => at_ ct [true, false, true, false, true] c) ⟨[(3, .i IntKind.i64 t3), (4, .b t4)], [], [], []⟩
noncomputable def R.l1Bits.l215 (t3 : Int) (t7 : Bool) : Option Int := Y.runA 68 (fun ct c => at_ ct [true, false, true, false, true, true, true] c) ⟨[(3, .i IntKind.i64 t3), (7, .b t7)], [], [], []⟩
theorem R.l1Bits_eq (t : Int) : R.l1Bits t =
  bif t == 3 then
  R.l1Bits.l53 t (t == 3)
 else
 R.l1Bits.l53 t (t == 7) :=
  (fnA_eq 68 [PV.i IntKind.i64 t] rfl).trans (by kernel_rfl)
theorem R.l1Bits.l53_eq (t3 : Int) (t4 : Bool) : R.l1Bits.l53 t3 t4 =
  bif t4 then
  some 8
 else
 bif t3 == 4 then
   R.l1Bits.l215 t3 (t3 == 4)
  else
  R.l1Bits.l215 t3 (t3 == 8) :=
  (runA_eq 68 _ _).trans (by kernel_rfl)
theorem R.l1Bits.l215_eq (t3 : Int) (t7 : Bool) : R.l1Bits.l215 t3 t7 =
  bif t7 then
  some 16
 else
 bif t3 == 5 then
   bif t3 == 5 then
    some 32
   else
   some 64
  else
  bif t3 == 9 then
    some 32
   else
   some 64 :=
  (runA_eq 68 _ _).trans (by kernel_rfl)
theorem R.l1Signed_eq (t : Int) : R.l1Signed t =
  bif decide (t ≥ 7) then
  some (decide (t ≤ 10))
 else
 some false :=
  (fnA_eq 69 [PV.i IntKind.i64 t] rfl).trans (by kernel_rfl)
noncomputable def R.l1Max.l500 (n : Int) (m : Int) (i : Int) : Option Int := Y.runA 43 (fun ct c => at_ ct [true, true, true, true, false, true, false, false] c) ⟨[(3, .i IntKind.i64 n), (4, .i IntKind.u64 m), (5, .i IntKind.i64 i)], [], [], []⟩
theorem R.l1Max_eq (t : Int) : R.l1Max t =
  (R.l1Bits t).bind fun (r0 : Int) =>
 (R.l1Signed t).bind fun (r1 : Bool) =>
 bif r1 then
  R.l1Max.l500 (IntKind.i64.wrap (r0 - 1)) 0 0
 else
 R.l1Max.l500 r0 0 0 :=
  (fnA_eq 43 [PV.i IntKind.i64 t] rfl).trans (by kernel_rfl)
theorem R.l1Max.l500_eq (n : Int) (m : Int) (i : Int) : R.l1Max.l500 n m i =
  bif decide (i < n) then
  R.l1Max.l500 n (IntKind.u64.wrap (IntKind.u64.wrap (m * 2) + 1)) (IntKind.i64.wrap (i + 1))
 else
 some m :=
  (runA_eq 43 _ _).trans (by kernel_rfl)
theorem R.l4Into_eq (t : Int) (bits : Int) : R.l4Into t bits =
  (R.l1Bits t).bind fun (r0 : Int) =>
 bif decide (r0 < 64) then
  bif decide (0 ≤ IntKind.u64.wrap r0) then
   bif shlI IntKind.u64 1 (IntKind.u64.wrap r0) != 0 then
    (R.l1Signed t).bind fun (r1 : Bool) =>
    bif r1 then
     bif decide (bits.tmod (shlI IntKind.u64 1 (IntKind.u64.wrap r0)) ≥ IntKind.u64.wrap ((shlI IntKind.u64 1 (IntKind.u64.wrap r0)).tdiv 2)) then
      some (IntKind.i64.wrap (IntKind.u64.wrap (bits.tmod (shlI IntKind.u64 1 (IntKind.u64.wrap r0)) - shlI IntKind.u64 1 (IntKind.u64.wrap r0))))
     else
     some (IntKind.i64.wrap (bits.tmod (shlI IntKind.u64 1 (IntKind.u64.wrap r0))))
    else
    some (IntKind.i64.wrap (bits.tmod (shlI IntKind.u64 1 (IntKind.u64.wrap r0))))
   else
   none
  else
  none
 else
 some (IntKind.i64.wrap bits) :=
  (fnA_eq 44 [PV.i IntKind.i64 t, PV.i IntKind.u64 bits] rfl).trans (by kernel_rfl)
theorem R.l1Number_eq (r : (List Int × Int)) (t : Int) : R.l1Number r t =
  (R.l1Max t).bind fun (r0 : Int) =>
 (R.l1Rd_pick r 9).bind fun (r1 : (Int × (List Int × Int))) =>
 bif r1.fst == 0 then
  some (IntKind.i64.wrap r0, (r1.snd.fst, r1.snd.snd))
 else
 bif r1.fst == 1 then
   (R.l1Rd_pick r1.snd 3).bind fun (r2 : (Int × (List Int × Int))) =>
   some (IntKind.i64.wrap (IntKind.u64.wrap (r0 - IntKind.u64.wrap r2.fst)), (r2.snd.fst, r2.snd.snd))
  else
  bif r1.fst == 2 then
    some (IntKind.i64.wrap (IntKind.u64.wrap (Int.tdiv r0 2)), (r1.snd.fst, r1.snd.snd))
   else
   bif r1.fst == 3 then
     (R.l1Rd_pick r1.snd 256).bind fun (r2 : (Int × (List Int × Int))) =>
     (R.l1Rd_pick r2.snd 256).bind fun (r3 : (Int × (List Int × Int))) =>
     (R.l1Rd_pick r3.snd 256).bind fun (r4 : (Int × (List Int × Int))) =>
     (R.l4Into t (IntKind.u64.wrap (IntKind.u64.wrap (IntKind.u64.wrap r2.fst * IntKind.u64.wrap r3.fst) * IntKind.u64.wrap r4.fst))).bind fun (r5 : Int) =>
     some (r5, (r4.snd.fst, r4.snd.snd))
    else
    (R.l1Rd_pick r1.snd 10).bind fun (r2 : (Int × (List Int × Int))) =>
     some (r2.fst, (r2.snd.fst, r2.snd.snd)) :=
  (fnB_eq 102 [PV.ad (Base.obj 0) 0, PV.i IntKind.i64 t] [[PV.fl 5 r.fst, PV.i IntKind.i64 r.snd]] rfl).trans (by kernel_rfl)
theorem R.l4Num_eq (t : Int) (bits : Int) : R.l4Num t bits =
  (R.l4Into t bits).bind fun (r0 : Int) =>
 some (⟨t, r0, (⟨#[]⟩ : ByteArray)⟩ : TValue) :=
  (fnA_eq 103 [PV.i IntKind.i64 t, PV.i IntKind.u64 bits] rfl).trans (by kernel_rfl)
theorem R.l4Value_eq (r : (List Int × Int)) (t : Int) : R.l4Value r t =
  bif t == 1 then
  (R.l1Rd_pick r 2).bind fun (r0 : (Int × (List Int × Int))) =>
  (R.l4Bool (r0.fst == 0)).bind fun (r1 : TValue) =>
  some (r1, (r0.snd.fst, r0.snd.snd))
 else
 bif t == 2 then
   (R.l1Rd_pick r 12).bind fun (r0 : (Int × (List Int × Int))) =>
   bif r0.fst == 0 then
    (R.l1Rd_pick r0.snd 3).bind fun (r1 : (Int × (List Int × Int))) =>
    (R.l1Many ((⟨#[118]⟩ : ByteArray)) (IntKind.i64.wrap (3000 - r1.fst))).bind fun (r2 : ByteArray) =>
    (R.l4Text r2).bind fun (r3 : TValue) =>
    some (r3, (r1.snd.fst, r1.snd.snd))
   else
   (R.l1Rd_pick r0.snd 3).bind fun (r1 : (Int × (List Int × Int))) =>
    bif r1.fst == 0 then
     (R.l1Rd_pick r1.snd 12).bind fun (r2 : (Int × (List Int × Int))) =>
     bif inB r2.fst [(⟨#[48]⟩ : ByteArray), (⟨#[45, 48]⟩ : ByteArray), (⟨#[45, 49]⟩ : ByteArray), (⟨#[57, 50, 50, 51, 51, 55, 50, 48, 51, 54, 56, 53, 52, 55, 55, 53, 56, 48, 55]⟩ : ByteArray), (⟨#[57, 50, 50, 51, 51, 55, 50, 48, 51, 54, 56, 53, 52, 55, 55, 53, 56, 48, 56]⟩ : ByteArray), (⟨#[45, 57, 50, 50, 51, 51, 55, 50, 48, 51, 54, 56, 53, 52, 55, 55, 53, 56, 48, 56]⟩ : ByteArray), (⟨#[45, 57, 50, 50, 51, 51, 55, 50, 48, 51, 54, 56, 53, 52, 55, 55, 53, 56, 48, 57]⟩ : ByteArray), (⟨#[48, 49]⟩ : ByteArray), (⟨#[43, 49]⟩ : ByteArray), (⟨#[45]⟩ : ByteArray), (⟨#[49, 56, 52, 52, 54, 55, 52, 52, 48, 55, 51, 55, 48, 57, 53, 53, 49, 54, 49, 53]⟩ : ByteArray), (⟨#[49, 50, 51, 52, 53, 54, 55, 56, 57, 48, 49, 50, 51, 52, 53, 54, 55, 56, 57, 48, 49, 50, 51]⟩ : ByteArray)].length then
      (R.l4Text ([(⟨#[48]⟩ : ByteArray), (⟨#[45, 48]⟩ : ByteArray), (⟨#[45, 49]⟩ : ByteArray), (⟨#[57, 50, 50, 51, 51, 55, 50, 48, 51, 54, 56, 53, 52, 55, 55, 53, 56, 48, 55]⟩ : ByteArray), (⟨#[57, 50, 50, 51, 51, 55, 50, 48, 51, 54, 56, 53, 52, 55, 55, 53, 56, 48, 56]⟩ : ByteArray), (⟨#[45, 57, 50, 50, 51, 51, 55, 50, 48, 51, 54, 56, 53, 52, 55, 55, 53, 56, 48, 56]⟩ : ByteArray), (⟨#[45, 57, 50, 50, 51, 51, 55, 50, 48, 51, 54, 56, 53, 52, 55, 55, 53, 56, 48, 57]⟩ : ByteArray), (⟨#[48, 49]⟩ : ByteArray), (⟨#[43, 49]⟩ : ByteArray), (⟨#[45]⟩ : ByteArray), (⟨#[49, 56, 52, 52, 54, 55, 52, 52, 48, 55, 51, 55, 48, 57, 53, 53, 49, 54, 49, 53]⟩ : ByteArray), (⟨#[49, 50, 51, 52, 53, 54, 55, 56, 57, 48, 49, 50, 51, 52, 53, 54, 55, 56, 57, 48, 49, 50, 51]⟩ : ByteArray)].getD (Int.toNat r2.fst) (⟨#[]⟩ : ByteArray))).bind fun (r3 : TValue) =>
      some (r3, (r2.snd.fst, r2.snd.snd))
     else
     none
    else
    (R.l1DrawText r1.snd).bind fun (r2 : (ByteArray × (List Int × Int))) =>
     (R.l4Text r2.fst).bind fun (r3 : TValue) =>
     some (r3, (r2.snd.fst, r2.snd.snd))
  else
  (R.l1Number r t).bind fun (r0 : (Int × (List Int × Int))) =>
   (R.l1Rd_pick r0.snd 4).bind fun (r1 : (Int × (List Int × Int))) =>
   bif r1.fst == 0 then
    (R.l4Num t (IntKind.u64.wrap (0 - IntKind.u64.wrap r0.fst))).bind fun (r2 : TValue) =>
    some (r2, (r1.snd.fst, r1.snd.snd))
   else
   bif r1.fst == 1 then
     (R.l1Max t).bind fun (r2 : Int) =>
     (R.l1Rd_pick r1.snd 3).bind fun (r3 : (Int × (List Int × Int))) =>
     (R.l4Num t (IntKind.u64.wrap (IntKind.u64.wrap (r2 + 1) - IntKind.u64.wrap r3.fst))).bind fun (r4 : TValue) =>
     some (r4, (r3.snd.fst, r3.snd.snd))
    else
    (R.l4Num t (IntKind.u64.wrap r0.fst)).bind fun (r2 : TValue) =>
     some (r2, (r1.snd.fst, r1.snd.snd)) :=
  (fnB_eq 66 [PV.ad (Base.obj 0) 0, PV.i IntKind.i64 t] [[PV.fl 5 r.fst, PV.i IntKind.i64 r.snd]] rfl).trans (by kernel_rfl)
theorem R.l4Any_eq (r : (List Int × Int)) (t : Int) : R.l4Any r t =
  (R.l4Value r t).bind fun (r0 : (TValue × (List Int × Int))) =>
 (R.l1Rd_pick r0.snd 12).bind fun (r1 : (Int × (List Int × Int))) =>
 bif r1.fst == 0 then
  (R.l1Rd_pick r1.snd 4).bind fun (r2 : (Int × (List Int × Int))) =>
  bif r2.fst == 0 then
   (R.l1Rd_pick r2.snd 13).bind fun (r3 : (Int × (List Int × Int))) =>
   some ((⟨IntKind.i64.wrap (r3.fst - 1), r0.fst.gN, r0.fst.gText⟩ : TValue), (r3.snd.fst, r3.snd.snd))
  else
  bif r2.fst == 1 then
    (R.l1Rd_pick r2.snd 6).bind fun (r3 : (Int × (List Int × Int))) =>
    bif inB r3.fst [2, -1, 256, -129, 65536, 4294967296].length then
     some ((⟨r0.fst.gType, [2, -1, 256, -129, 65536, 4294967296].getD (Int.toNat r3.fst) 0, r0.fst.gText⟩ : TValue), (r3.snd.fst, r3.snd.snd))
    else
    none
   else
   bif r2.fst == 2 then
     some ((⟨r0.fst.gType, r0.fst.gN, (⟨#[116]⟩ : ByteArray)⟩ : TValue), (r2.snd.fst, r2.snd.snd))
    else
    (R.l1Many ((⟨#[118]⟩ : ByteArray)) 3001).bind fun (r3 : ByteArray) =>
     some ((⟨r0.fst.gType, r0.fst.gN, r3⟩ : TValue), (r2.snd.fst, r2.snd.snd))
 else
 some (r0.fst, (r1.snd.fst, r1.snd.snd)) :=
  (fnB_eq 41 [PV.ad (Base.obj 0) 0, PV.i IntKind.i64 t] [[PV.fl 5 r.fst, PV.i IntKind.i64 r.snd]] rfl).trans (by kernel_rfl)
theorem R.l1Integer_eq (t : Int) : R.l1Integer t =
  bif decide (t ≥ 3) then
  some (decide (t ≤ 10))
 else
 some false :=
  (fnA_eq 42 [PV.i IntKind.i64 t] rfl).trans (by kernel_rfl)
noncomputable def R.DrawBinary.l63 (op : Int) (t : Int) (t3 : TValue) (t4 : TValue) (m : List Int) (m_1 : Int) : Option (Int × TValue × TValue) := Y.runA 12 (fun ct c => at_ ct [true, true, true, true, true] c) ⟨[(3, .ad (.loc 3) 0), (4, .ad (.loc 4) 0), (5, .ad (.obj 0) 0), (6, .i IntKind.i64 op), (7, .i IntKind.i64 t)], [(3, cells 25 t3), (4, cells 25 t4)], [[.fl 5 m, .i IntKind.i64 m_1]], []⟩
noncomputable def R.DrawBinary.l255 (op : Int) (t : Int) (t3 : TValue) (t4 : TValue) (a : TValue) (m : List Int) (m_1 : Int) : Option (Int × TValue × TValue) := Y.runA 12 (fun ct c => at_ ct [true, true, true, true, true, true, true] c) ⟨[(3, .ad (.loc 3) 0), (4, .ad (.loc 4) 0), (5, .ad (.obj 0) 0), (6, .i IntKind.i64 op), (7, .i IntKind.i64 t), (8, .ad (.loc 8) 0)], [(3, cells 25 t3), (4, cells 25 t4), (8, cells 25 a)], [[.fl 5 m, .i IntKind.i64 m_1]], []⟩
noncomputable def R.DrawBinary.l1023 (op : Int) (t : Int) (t3 : TValue) (t4 : TValue) (a : TValue) (b : TValue) (m : List Int) (m_1 : Int) : Option (Int × TValue × TValue) := Y.runA 12 (fun ct c => at_ ct [true, true, true, true, true, true, true, true, true] c) ⟨[(3, .ad (.loc 3) 0), (4, .ad (.loc 4) 0), (5, .ad (.obj 0) 0), (6, .i IntKind.i64 op), (7, .i IntKind.i64 t), (8, .ad (.loc 8) 0), (9, .ad (.loc 9) 0)], [(3, cells 25 t3), (4, cells 25 t4), (8, cells 25 a), (9, cells 25 b)], [[.fl 5 m, .i IntKind.i64 m_1]], []⟩
noncomputable def R.DrawBinary.l32747 (op : Int) (t : Int) (t3 : TValue) (t4 : TValue) (a : TValue) (b : TValue) (m : List Int) (m_1 : Int) : Option (Int × TValue × TValue) := Y.runA 12 (fun ct c => at_ ct [true, true, true, true, true, true, true, true, true, false, true, false, true, true] c) ⟨[(3, .ad (.loc 3) 0), (4, .ad (.loc 4) 0), (5, .ad (.obj 0) 0), (6, .i IntKind.i64 op), (7, .i IntKind.i64 t), (8, .ad (.loc 8) 0), (9, .ad (.loc 9) 0)], [(3, cells 25 t3), (4, cells 25 t4), (8, cells 25 a), (9, cells 25 b)], [[.fl 5 m, .i IntKind.i64 m_1]], []⟩
noncomputable def R.DrawBinary.l2047 (op : Int) (t3 : TValue) (t4 : TValue) (a : TValue) (b : TValue) (m : List Int) (m_1 : Int) : Option (Int × TValue × TValue) := Y.runA 12 (fun ct c => at_ ct [true, true, true, true, true, true, true, true, true, true] c) ⟨[(3, .ad (.loc 3) 0), (4, .ad (.loc 4) 0), (5, .ad (.obj 0) 0), (6, .i IntKind.i64 op), (8, .ad (.loc 8) 0), (9, .ad (.loc 9) 0)], [(3, cells 25 t3), (4, cells 25 t4), (8, cells 25 a), (9, cells 25 b)], [[.fl 5 m, .i IntKind.i64 m_1]], []⟩
noncomputable def R.DrawBinary.l4095 (op : Int) (t3 : TValue) (t4 : TValue) (a : TValue) (b : TValue) (m : List Int) (m_1 : Int) : Option (Int × TValue × TValue) := Y.runA 12 (fun ct c => at_ ct [true, true, true, true, true, true, true, true, true, true, true] c) ⟨[(3, .ad (.loc 3) 0), (4, .ad (.loc 4) 0), (5, .ad (.obj 0) 0), (6, .i IntKind.i64 op), (8, .ad (.loc 8) 0), (9, .ad (.loc 9) 0)], [(3, cells 25 t3), (4, cells 25 t4), (8, cells 25 a), (9, cells 25 b)], [[.fl 5 m, .i IntKind.i64 m_1]], []⟩
theorem R.DrawBinary_eq (code : List Int) : R.DrawBinary code =
  (R.l1Open code).bind fun (r0 : (Unit × (List Int × Int))) =>
 (R.l1Rd_pick r0.snd 18).bind fun (r1 : (Int × (List Int × Int))) =>
 (R.l1Rd_pick r1.snd 8).bind fun (r2 : (Int × (List Int × Int))) =>
 bif decide (IntKind.i64.wrap (1 + r1.fst) ≤ 2) then
  R.DrawBinary.l63 (IntKind.i64.wrap (1 + r1.fst)) 1 (⟨0, 0, (⟨#[]⟩ : ByteArray)⟩ : TValue) (⟨0, 0, (⟨#[]⟩ : ByteArray)⟩ : TValue) r2.snd.fst r2.snd.snd
 else
 bif decide (IntKind.i64.wrap (1 + r1.fst) ≤ 9) then
   (R.l1Rd_pick r2.snd 3).bind fun (r3 : (Int × (List Int × Int))) =>
   bif r3.fst == 0 then
    R.DrawBinary.l63 (IntKind.i64.wrap (1 + r1.fst)) 2 (⟨0, 0, (⟨#[]⟩ : ByteArray)⟩ : TValue) (⟨0, 0, (⟨#[]⟩ : ByteArray)⟩ : TValue) r3.snd.fst r3.snd.snd
   else
   R.DrawBinary.l63 (IntKind.i64.wrap (1 + r1.fst)) (IntKind.i64.wrap (3 + r2.fst)) (⟨0, 0, (⟨#[]⟩ : ByteArray)⟩ : TValue) (⟨0, 0, (⟨#[]⟩ : ByteArray)⟩ : TValue) r3.snd.fst r3.snd.snd
  else
  R.DrawBinary.l63 (IntKind.i64.wrap (1 + r1.fst)) (IntKind.i64.wrap (3 + r2.fst)) (⟨0, 0, (⟨#[]⟩ : ByteArray)⟩ : TValue) (⟨0, 0, (⟨#[]⟩ : ByteArray)⟩ : TValue) r2.snd.fst r2.snd.snd :=
  (fnA_eq 12 [PV.fl 5 code] rfl).trans (by kernel_rfl)
theorem R.DrawBinary.l63_eq (op : Int) (t : Int) (t3 : TValue) (t4 : TValue) (m : List Int) (m_1 : Int) : R.DrawBinary.l63 op t t3 t4 m m_1 =
  (R.l4Any (m, m_1) t).bind fun (r0 : (TValue × (List Int × Int))) =>
 (R.l1Rd_pick r0.snd 16).bind fun (r1 : (Int × (List Int × Int))) =>
 bif r1.fst == 0 then
  (R.l1Rd_pick r1.snd 10).bind fun (r2 : (Int × (List Int × Int))) =>
  R.DrawBinary.l255 op (IntKind.i64.wrap (1 + r2.fst)) t3 t4 r0.fst r2.snd.fst r2.snd.snd
 else
 R.DrawBinary.l255 op t t3 t4 r0.fst r1.snd.fst r1.snd.snd :=
  (runA_eq 12 _ _).trans (by kernel_rfl)
theorem R.DrawBinary.l255_eq (op : Int) (t : Int) (t3 : TValue) (t4 : TValue) (a : TValue) (m : List Int) (m_1 : Int) : R.DrawBinary.l255 op t t3 t4 a m m_1 =
  (R.l4Any (m, m_1) t).bind fun (r0 : (TValue × (List Int × Int))) =>
 bif decide (op ≥ 17) then
  (R.l1Integer r0.fst.gType).bind fun (r1 : Bool) =>
  bif r1 then
   (R.l1Rd_pick r0.snd 2).bind fun (r2 : (Int × (List Int × Int))) =>
   bif r2.fst == 0 then
    (R.l1Rd_pick r2.snd 70).bind fun (r3 : (Int × (List Int × Int))) =>
    (R.l1Max t).bind fun (r4 : Int) =>
    bif IntKind.i64.wrap (IntKind.u64.wrap (Int.tmod r4 71 + 1)) != 0 then
     R.DrawBinary.l1023 op t t3 t4 a (⟨r0.fst.gType, Int.tmod r3.fst (IntKind.i64.wrap (IntKind.u64.wrap (Int.tmod r4 71 + 1))), r0.fst.gText⟩ : TValue) r3.snd.fst r3.snd.snd
    else
    none
   else
   R.DrawBinary.l1023 op t t3 t4 a r0.fst r2.snd.fst r2.snd.snd
  else
  R.DrawBinary.l1023 op t t3 t4 a r0.fst r0.snd.fst r0.snd.snd
 else
 R.DrawBinary.l1023 op t t3 t4 a r0.fst r0.snd.fst r0.snd.snd :=
  (runA_eq 12 _ _).trans (by kernel_rfl)
theorem R.DrawBinary.l1023_eq (op : Int) (t : Int) (t3 : TValue) (t4 : TValue) (a : TValue) (b : TValue) (m : List Int) (m_1 : Int) : R.DrawBinary.l1023 op t t3 t4 a b m m_1 =
  bif decide (op ≥ 17) then
  (R.l1Integer b.gType).bind fun (r0 : Bool) =>
  bif r0 then
   bif b.gType == a.gType then
    (R.l1Rd_pick (m, m_1) 6).bind fun (r1 : (Int × (List Int × Int))) =>
    bif r1.fst == 0 then
     (R.l1Rd_pick r1.snd 8).bind fun (r2 : (Int × (List Int × Int))) =>
     bif inB r2.fst [8, 16, 32, 64, 7, 15, 31, 63].length then
      (R.l1Max t).bind fun (r3 : Int) =>
      bif decide ([8, 16, 32, 64, 7, 15, 31, 63].getD (Int.toNat r2.fst) 0 > IntKind.i64.wrap (shrI IntKind.u64 r3 1)) then
       R.DrawBinary.l32747 op t t3 t4 a (⟨b.gType, 8, b.gText⟩ : TValue) r2.snd.fst r2.snd.snd
      else
      R.DrawBinary.l32747 op t t3 t4 a (⟨b.gType, [8, 16, 32, 64, 7, 15, 31, 63].getD (Int.toNat r2.fst) 0, b.gText⟩ : TValue) r2.snd.fst r2.snd.snd
     else
     none
    else
    R.DrawBinary.l2047 op t3 t4 a b r1.snd.fst r1.snd.snd
   else
   R.DrawBinary.l2047 op t3 t4 a b m m_1
  else
  R.DrawBinary.l2047 op t3 t4 a b m m_1
 else
 R.DrawBinary.l2047 op t3 t4 a b m m_1 :=
  (runA_eq 12 _ _).trans (by kernel_rfl)
theorem R.DrawBinary.l32747_eq (op : Int) (t : Int) (t3 : TValue) (t4 : TValue) (a : TValue) (b : TValue) (m : List Int) (m_1 : Int) : R.DrawBinary.l32747 op t t3 t4 a b m m_1 =
  (R.l1Rd_pick (m, m_1) 3).bind fun (r0 : (Int × (List Int × Int))) =>
 bif inB r0.fst [1, 5, 100].length then
  bif decide (t ≥ 7) then
   R.DrawBinary.l2047 op t3 t4 (⟨a.gType, IntKind.i64.wrap (0 - [1, 5, 100].getD (Int.toNat r0.fst) 0), a.gText⟩ : TValue) b r0.snd.fst r0.snd.snd
  else
  R.DrawBinary.l2047 op t3 t4 (⟨a.gType, [1, 5, 100].getD (Int.toNat r0.fst) 0, a.gText⟩ : TValue) b r0.snd.fst r0.snd.snd
 else
 none :=
  (runA_eq 12 _ _).trans (by kernel_rfl)
theorem R.DrawBinary.l2047_eq (op : Int) (t3 : TValue) (t4 : TValue) (a : TValue) (b : TValue) (m : List Int) (m_1 : Int) : R.DrawBinary.l2047 op t3 t4 a b m m_1 =
  bif decide (op ≤ 8) then
  (R.l1Rd_pick (m, m_1) 4).bind fun (r0 : (Int × (List Int × Int))) =>
  bif r0.fst == 0 then
   R.DrawBinary.l4095 op t3 t4 a a r0.snd.fst r0.snd.snd
  else
  R.DrawBinary.l4095 op t3 t4 a b r0.snd.fst r0.snd.snd
 else
 R.DrawBinary.l4095 op t3 t4 a b m m_1 :=
  (runA_eq 12 _ _).trans (by kernel_rfl)
theorem R.DrawBinary.l4095_eq (op : Int) (t3 : TValue) (t4 : TValue) (a : TValue) (b : TValue) (m : List Int) (m_1 : Int) : R.DrawBinary.l4095 op t3 t4 a b m m_1 =
  (R.l1Rd_pick (m, m_1) 24).bind fun (r0 : (Int × (List Int × Int))) =>
 bif r0.fst == 0 then
  (R.l1Rd_pick r0.snd 22).bind fun (r1 : (Int × (List Int × Int))) =>
  some (IntKind.i64.wrap (r1.fst - 1), (a, b))
 else
 some (op, (a, b)) :=
  (runA_eq 12 _ _).trans (by kernel_rfl)
theorem R.ValidValue_eq (v : TValue) : R.ValidValue v =
  bif v.gType == 1 then
  bif v.gN == 0 then
   some (bEq v.gText (⟨#[]⟩ : ByteArray))
  else
  bif v.gN == 1 then
    some (bEq v.gText (⟨#[]⟩ : ByteArray))
   else
   some false
 else
 bif v.gType == 2 then
   bif v.gN == 0 then
    some (decide ((↑v.gText.size : Int) ≤ 3000))
   else
   some false
  else
  (R.l1Integer v.gType).bind fun (r0 : Bool) =>
   bif r0 then
    bif bEq v.gText (⟨#[]⟩ : ByteArray) then
     (R.l4Into v.gType (IntKind.u64.wrap v.gN)).bind fun (r1 : Int) =>
     some (v.gN == r1)
    else
    some false
   else
   some false :=
  (fnA_eq 13 [PV.st (cells 25 v)] rfl).trans (by kernel_rfl)
theorem I.integer_eq (t : Int) : I.integer t =
  bif decide (t ≥ 3) then
  some (decide (t ≤ 10))
 else
 some false :=
  (fnA_eq 52 [PV.i IntKind.i64 t] rfl).trans (by kernel_rfl)
noncomputable def I.bits.l53 (t3 : Int) (t4 : Bool) : Option Int := Y.runA 71 (fun ct c => at_ ct [true, false, true, false, true] c) ⟨[(3, .i IntKind.i64 t3), (4, .b t4)], [], [], []⟩
noncomputable def I.bits.l215 (t3 : Int) (t7 : Bool) : Option Int := Y.runA 71 (fun ct c => at_ ct [true, false, true, false, true, true, true] c) ⟨[(3, .i IntKind.i64 t3), (7, .b t7)], [], [], []⟩
theorem I.bits_eq (t : Int) : I.bits t =
  bif t == 3 then
  I.bits.l53 t (t == 3)
 else
 I.bits.l53 t (t == 7) :=
  (fnA_eq 71 [PV.i IntKind.i64 t] rfl).trans (by kernel_rfl)
theorem I.bits.l53_eq (t3 : Int) (t4 : Bool) : I.bits.l53 t3 t4 =
  bif t4 then
  some 8
 else
 bif t3 == 4 then
   I.bits.l215 t3 (t3 == 4)
  else
  I.bits.l215 t3 (t3 == 8) :=
  (runA_eq 71 _ _).trans (by kernel_rfl)
theorem I.bits.l215_eq (t3 : Int) (t7 : Bool) : I.bits.l215 t3 t7 =
  bif t7 then
  some 16
 else
 bif t3 == 5 then
   bif t3 == 5 then
    some 32
   else
   some 64
  else
  bif t3 == 9 then
    some 32
   else
   some 64 :=
  (runA_eq 71 _ _).trans (by kernel_rfl)
theorem I.signed_eq (t : Int) : I.signed t =
  some (decide (t ≥ 7)) :=
  (fnA_eq 61 [PV.i IntKind.i64 t] rfl).trans (by kernel_rfl)
theorem I.into_eq (x : Int) (t : Int) : I.into x t =
  (I.bits t).bind fun (r0 : Int) =>
 bif r0 == 64 then
  some (IntKind.i64.wrap x)
 else
 bif decide (0 ≤ r0) then
   (I.signed t).bind fun (r1 : Bool) =>
   bif r1 then
    bif decide (0 ≤ IntKind.u64.wrap (r0 - 1)) then
     bif shrI IntKind.u64 (bitAnd IntKind.u64 x (IntKind.u64.wrap (shlI IntKind.u64 1 r0 - 1))) (IntKind.u64.wrap (r0 - 1)) == 1 then
      bif decide (0 ≤ r0) then
       some (IntKind.i64.wrap (bitOr IntKind.u64 (bitAnd IntKind.u64 x (IntKind.u64.wrap (shlI IntKind.u64 1 r0 - 1))) (shlI IntKind.u64 18446744073709551615 r0)))
      else
      none
     else
     some (IntKind.i64.wrap (bitAnd IntKind.u64 x (IntKind.u64.wrap (shlI IntKind.u64 1 r0 - 1))))
    else
    none
   else
   some (IntKind.i64.wrap (bitAnd IntKind.u64 x (IntKind.u64.wrap (shlI IntKind.u64 1 r0 - 1))))
  else
  none :=
  (fnA_eq 50 [PV.i IntKind.u64 x, PV.i IntKind.i64 t] rfl).trans (by kernel_rfl)
theorem I.ValidValue_eq (v : TValue) : I.ValidValue v =
  bif v.gType == 1 then
  bif v.gN == 0 then
   some (bEq v.gText (⟨#[]⟩ : ByteArray))
  else
  bif v.gN == 1 then
    some (bEq v.gText (⟨#[]⟩ : ByteArray))
   else
   some false
 else
 bif v.gType == 2 then
   bif v.gN == 0 then
    some (decide ((↑v.gText.size : Int) ≤ 3000))
   else
   some false
  else
  (I.integer v.gType).bind fun (r0 : Bool) =>
   bif r0 then
    bif bEq v.gText (⟨#[]⟩ : ByteArray) then
     (I.into (IntKind.u64.wrap v.gN) v.gType).bind fun (r1 : Int) =>
     some (r1 == v.gN)
    else
    some false
   else
   some false :=
  (fnA_eq 17 [PV.st (cells 25 v)] rfl).trans (by kernel_rfl)
theorem I.binType_eq (op : Int) (a : Int) (b : Int) : I.binType op a b =
  bif a != b then
  some 0
 else
 bif a == 0 then
   some 0
  else
  bif op == 1 then
    bif a == 1 then
     some 1
    else
    some 0
   else
   bif op == 2 then
     bif a == 1 then
      some 1
     else
     some 0
    else
    bif op == 3 then
      some 1
     else
     bif op == 4 then
       some 1
      else
      bif decide (op ≥ 5) then
        bif decide (op ≤ 8) then
         (I.integer a).bind fun (r0 : Bool) =>
         bif r0 then
          some 1
         else
         bif a == 2 then
           some 1
          else
          some 0
        else
        bif op == 9 then
          (I.integer a).bind fun (r0 : Bool) =>
          bif r0 then
           some a
          else
          bif a == 2 then
            some a
           else
           some 0
         else
         bif decide (op > 9) then
           bif decide (op ≤ 18) then
            (I.integer a).bind fun (r0 : Bool) =>
            bif r0 then
            some a
            else
            some 0
           else
           some 0
          else
          some 0
       else
       bif op == 9 then
         (I.integer a).bind fun (r0 : Bool) =>
         bif r0 then
          some a
         else
         bif a == 2 then
           some a
          else
          some 0
        else
        bif decide (op > 9) then
          bif decide (op ≤ 18) then
           (I.integer a).bind fun (r0 : Bool) =>
           bif r0 then
            some a
           else
           some 0
          else
          some 0
         else
         some 0 :=
  (fnA_eq 45 [PV.i IntKind.i64 op, PV.i IntKind.i64 a, PV.i IntKind.i64 b] rfl).trans (by kernel_rfl)
theorem I.truth_eq (b : Bool) : I.truth b =
  bif b then
  some (⟨1, 1, (⟨#[]⟩ : ByteArray)⟩ : TValue)
 else
 some (⟨1, 0, (⟨#[]⟩ : ByteArray)⟩ : TValue) :=
  (fnA_eq 46 [PV.b b] rfl).trans (by kernel_rfl)
noncomputable def I.order.l31 (less : Bool) (a : TValue) (b : TValue) : Option Int := Y.runA 47 (fun ct c => at_ ct [true, true, true, true] c) ⟨[(2, .ad (.loc 2) 0), (3, .ad (.loc 3) 0), (5, .b less)], [(2, cells 25 a), (3, cells 25 b)], [], []⟩
theorem I.order_eq (a : TValue) (b : TValue) : I.order a b =
  bif a.gType == 2 then
  some (Lib.compareBytes a.gText.data.toList b.gText.data.toList)
 else
 (I.signed a.gType).bind fun (r0 : Bool) =>
  bif !r0 then
   I.order.l31 (decide (IntKind.u64.wrap a.gN < IntKind.u64.wrap b.gN)) a b
  else
  I.order.l31 (decide (a.gN < b.gN)) a b :=
  (fnA_eq 47 [PV.st (cells 25 a), PV.st (cells 25 b)] rfl).trans (by kernel_rfl)
theorem I.order.l31_eq (less : Bool) (a : TValue) (b : TValue) : I.order.l31 less a b =
  bif less then
  some (-1)
 else
 bif a.gN == b.gN then
   some 0
  else
  some 1 :=
  (runA_eq 47 _ _).trans (by kernel_rfl)
theorem I.divide_eq (op : Int) (a : TValue) (b : TValue) : I.divide op a b =
  (I.signed a.gType).bind fun (r0 : Bool) =>
 bif !r0 then
  bif op == 14 then
   bif IntKind.u64.wrap b.gN != 0 then
    some (IntKind.u64.wrap ((IntKind.u64.wrap a.gN).tdiv (IntKind.u64.wrap b.gN)))
   else
   none
  else
  bif IntKind.u64.wrap b.gN != 0 then
    some ((IntKind.u64.wrap a.gN).tmod (IntKind.u64.wrap b.gN))
   else
   none
 else
 bif b.gN == -1 then
   bif op == 14 then
    some (IntKind.u64.wrap (0 - IntKind.u64.wrap a.gN))
   else
   some 0
  else
  bif op == 14 then
    bif b.gN != 0 then
     some (IntKind.u64.wrap (IntKind.i64.wrap (a.gN.tdiv b.gN)))
    else
    none
   else
   bif b.gN != 0 then
     some (IntKind.u64.wrap (a.gN.tmod b.gN))
    else
    none :=
  (fnA_eq 48 [PV.i IntKind.i64 op, PV.st (cells 25 a), PV.st (cells 25 b)] rfl).trans (by kernel_rfl)
theorem I.shift_eq (op : Int) (a : TValue) (b : TValue) : I.shift op a b =
  (I.bits a.gType).bind fun (r0 : Int) =>
 (I.signed a.gType).bind fun (r1 : Bool) =>
 bif r1 then
  bif decide (b.gN < 0) then
   bif op == 18 then
    (I.signed a.gType).bind fun (r2 : Bool) =>
    bif r2 then
     bif decide (a.gN < 0) then
      some 18446744073709551615
     else
     some 0
    else
    some 0
   else
   some 0
  else
  bif decide (IntKind.u64.wrap b.gN ≥ r0) then
    bif op == 18 then
     (I.signed a.gType).bind fun (r2 : Bool) =>
     bif r2 then
      bif decide (a.gN < 0) then
       some 18446744073709551615
      else
      some 0
     else
     some 0
    else
    some 0
   else
   bif op == 17 then
     bif decide (0 ≤ IntKind.u64.wrap b.gN) then
      some (shlI IntKind.u64 (IntKind.u64.wrap a.gN) (IntKind.u64.wrap b.gN))
     else
     none
    else
    (I.signed a.gType).bind fun (r2 : Bool) =>
     bif r2 then
      bif decide (0 ≤ IntKind.u64.wrap b.gN) then
       some (IntKind.u64.wrap (shrI IntKind.i64 a.gN (IntKind.u64.wrap b.gN)))
      else
      none
     else
     bif decide (0 ≤ IntKind.u64.wrap b.gN) then
       some (shrI IntKind.u64 (IntKind.u64.wrap a.gN) (IntKind.u64.wrap b.gN))
      else
      none
 else
 bif decide (IntKind.u64.wrap b.gN ≥ r0) then
   bif op == 18 then
    (I.signed a.gType).bind fun (r2 : Bool) =>
    bif r2 then
     bif decide (a.gN < 0) then
      some 18446744073709551615
     else
     some 0
    else
    some 0
   else
   some 0
  else
  bif op == 17 then
    bif decide (0 ≤ IntKind.u64.wrap b.gN) then
     some (shlI IntKind.u64 (IntKind.u64.wrap a.gN) (IntKind.u64.wrap b.gN))
    else
    none
   else
   (I.signed a.gType).bind fun (r2 : Bool) =>
    bif r2 then
     bif decide (0 ≤ IntKind.u64.wrap b.gN) then
      some (IntKind.u64.wrap (shrI IntKind.i64 a.gN (IntKind.u64.wrap b.gN)))
     else
     none
    else
    bif decide (0 ≤ IntKind.u64.wrap b.gN) then
      some (shrI IntKind.u64 (IntKind.u64.wrap a.gN) (IntKind.u64.wrap b.gN))
     else
     none :=
  (fnA_eq 49 [PV.i IntKind.i64 op, PV.st (cells 25 a), PV.st (cells 25 b)] rfl).trans (by kernel_rfl)
noncomputable def I.Binary.l16736255 (op : Int) (t : Int) (y : Int) (t147 : Bool) (a : TValue) (b : TValue) (t6 : TValue) : Option (TValue × ByteArray) := Y.runA 14 (fun ct c => at_ ct [true, true, true, true, true, true, true, false, true, false, true, true, true, true, true, true, true, true, true, true, true, true, true] c) ⟨[(0, .i IntKind.i64 op), (4, .ad (.loc 4) 0), (5, .ad (.loc 5) 0), (6, .ad (.loc 6) 0), (9, .i IntKind.i64 t), (11, .i IntKind.u64 y), (147, .b t147)], [(4, cells 25 a), (5, cells 25 b), (6, cells 25 t6)], [], []⟩
theorem I.Binary_eq (op : Int) (a : TValue) (b : TValue) : I.Binary op a b =
  (I.ValidValue a).bind fun (r0 : Bool) =>
 bif !r0 then
  some ((⟨0, 0, (⟨#[]⟩ : ByteArray)⟩ : TValue), (⟨#[116, 121, 112, 101]⟩ : ByteArray))
 else
 (I.ValidValue b).bind fun (r1 : Bool) =>
  bif !r1 then
   some ((⟨0, 0, (⟨#[]⟩ : ByteArray)⟩ : TValue), (⟨#[116, 121, 112, 101]⟩ : ByteArray))
  else
  (I.binType op a.gType b.gType).bind fun (r2 : Int) =>
   bif r2 == 0 then
    some ((⟨0, 0, (⟨#[]⟩ : ByteArray)⟩ : TValue), (⟨#[116, 121, 112, 101]⟩ : ByteArray))
   else
   bif op == 1 then
     (I.truth (bitOr IntKind.i64 a.gN b.gN == 1)).bind fun (r3 : TValue) =>
     some (r3, (⟨#[]⟩ : ByteArray))
    else
    bif op == 2 then
      (I.truth (bitAnd IntKind.i64 a.gN b.gN == 1)).bind fun (r3 : TValue) =>
      some (r3, (⟨#[]⟩ : ByteArray))
     else
     bif op == 3 then
       (I.truth (a.gType == b.gType && (a.gN == b.gN && (a.gText.toList == b.gText.toList && true)))).bind fun (r3 : TValue) =>
       some (r3, (⟨#[]⟩ : ByteArray))
      else
      bif op == 4 then
        (I.truth (!(a.gType == b.gType && (a.gN == b.gN && (a.gText.toList == b.gText.toList && true))))).bind fun (r3 : TValue) =>
        some (r3, (⟨#[]⟩ : ByteArray))
       else
       bif op == 5 then
         (I.order a b).bind fun (r3 : Int) =>
         (I.truth (decide (r3 < 0))).bind fun (r4 : TValue) =>
         some (r4, (⟨#[]⟩ : ByteArray))
        else
        bif op == 6 then
          (I.order a b).bind fun (r3 : Int) =>
          (I.truth (decide (r3 ≤ 0))).bind fun (r4 : TValue) =>
          some (r4, (⟨#[]⟩ : ByteArray))
         else
         bif op == 7 then
           (I.order a b).bind fun (r3 : Int) =>
           (I.truth (decide (r3 > 0))).bind fun (r4 : TValue) =>
           some (r4, (⟨#[]⟩ : ByteArray))
          else
          bif op == 8 then
            (I.order a b).bind fun (r3 : Int) =>
            (I.truth (decide (r3 ≥ 0))).bind fun (r4 : TValue) =>
            some (r4, (⟨#[]⟩ : ByteArray))
           else
           bif a.gType == 2 then
            bif decide (a.gText.size + b.gText.size < 2 ^ 62) then
            bif decide ((↑(a.gText ++ b.gText).size : Int) > 3000) then
            some ((⟨0, 0, (⟨#[]⟩ : ByteArray)⟩ : TValue), (⟨#[108, 111, 110, 103]⟩ : ByteArray))
            else
            some ((⟨2, 0, a.gText ++ b.gText⟩ : TValue), (⟨#[]⟩ : ByteArray))
            else
            none
            else
            bif op == 9 then
            (I.into (IntKind.u64.wrap (IntKind.u64.wrap a.gN + IntKind.u64.wrap b.gN)) a.gType).bind fun (r3 : Int) =>
            some ((⟨a.gType, r3, (⟨#[]⟩ : ByteArray)⟩ : TValue), (⟨#[]⟩ : ByteArray))
            else
            bif op == 10 then
            (I.into (IntKind.u64.wrap (IntKind.u64.wrap a.gN - IntKind.u64.wrap b.gN)) a.gType).bind fun (r3 : Int) =>
            some ((⟨a.gType, r3, (⟨#[]⟩ : ByteArray)⟩ : TValue), (⟨#[]⟩ : ByteArray))
            else
            bif op == 13 then
            (I.into (IntKind.u64.wrap (IntKind.u64.wrap a.gN * IntKind.u64.wrap b.gN)) a.gType).bind fun (r3 : Int) =>
            some ((⟨a.gType, r3, (⟨#[]⟩ : ByteArray)⟩ : TValue), (⟨#[]⟩ : ByteArray))
            else
            bif op == 11 then
            (I.into (bitOr IntKind.u64 (IntKind.u64.wrap a.gN) (IntKind.u64.wrap b.gN)) a.gType).bind fun (r3 : Int) =>
            some ((⟨a.gType, r3, (⟨#[]⟩ : ByteArray)⟩ : TValue), (⟨#[]⟩ : ByteArray))
            else
            bif op == 12 then
            (I.into (bitXor IntKind.u64 (IntKind.u64.wrap a.gN) (IntKind.u64.wrap b.gN)) a.gType).bind fun (r3 : Int) =>
            some ((⟨a.gType, r3, (⟨#[]⟩ : ByteArray)⟩ : TValue), (⟨#[]⟩ : ByteArray))
            else
            bif op == 16 then
            (I.into (bitAnd IntKind.u64 (IntKind.u64.wrap a.gN) (IntKind.u64.wrap b.gN)) a.gType).bind fun (r3 : Int) =>
            some ((⟨a.gType, r3, (⟨#[]⟩ : ByteArray)⟩ : TValue), (⟨#[]⟩ : ByteArray))
            else
            bif op == 14 then
            I.Binary.l16736255 op a.gType (IntKind.u64.wrap b.gN) (op == 14) a b (⟨0, 0, (⟨#[]⟩ : ByteArray)⟩ : TValue)
            else
            I.Binary.l16736255 op a.gType (IntKind.u64.wrap b.gN) (op == 15) a b (⟨0, 0, (⟨#[]⟩ : ByteArray)⟩ : TValue) :=
  (fnA_eq 14 [PV.i IntKind.i64 op, PV.st (cells 25 a), PV.st (cells 25 b)] rfl).trans (by kernel_rfl)
theorem I.Binary.l16736255_eq (op : Int) (t : Int) (y : Int) (t147 : Bool) (a : TValue) (b : TValue) (t6 : TValue) : I.Binary.l16736255 op t y t147 a b t6 =
  bif t147 then
  bif y == 0 then
   some ((⟨0, 0, (⟨#[]⟩ : ByteArray)⟩ : TValue), (⟨#[100, 105, 118, 105, 100, 101]⟩ : ByteArray))
  else
  (I.divide op a b).bind fun (r0 : Int) =>
   (I.into r0 t).bind fun (r1 : Int) =>
   some ((⟨t, r1, (⟨#[]⟩ : ByteArray)⟩ : TValue), (⟨#[]⟩ : ByteArray))
 else
 (I.shift op a b).bind fun (r0 : Int) =>
  (I.into r0 t).bind fun (r1 : Int) =>
  some ((⟨t, r1, (⟨#[]⟩ : ByteArray)⟩ : TValue), (⟨#[]⟩ : ByteArray)) :=
  (runA_eq 14 _ _).trans (by kernel_rfl)
theorem I.unType_eq (op : Int) (a : Int) : I.unType op a =
  bif op == 2 then
  bif a == 1 then
   some a
  else
  bif op == 1 then
    (I.integer a).bind fun (r0 : Bool) =>
    bif r0 then
     some a
    else
    some 0
   else
   bif op == 3 then
     (I.integer a).bind fun (r0 : Bool) =>
     bif r0 then
      some a
     else
     some 0
    else
    some 0
 else
 bif op == 1 then
   (I.integer a).bind fun (r0 : Bool) =>
   bif r0 then
    some a
   else
   some 0
  else
  bif op == 3 then
    (I.integer a).bind fun (r0 : Bool) =>
    bif r0 then
     some a
    else
    some 0
   else
   some 0 :=
  (fnA_eq 51 [PV.i IntKind.i64 op, PV.i IntKind.i64 a] rfl).trans (by kernel_rfl)
theorem I.Unary_eq (op : Int) (a : TValue) : I.Unary op a =
  (I.ValidValue a).bind fun (r0 : Bool) =>
 bif !r0 then
  some ((⟨0, 0, (⟨#[]⟩ : ByteArray)⟩ : TValue), (⟨#[116, 121, 112, 101]⟩ : ByteArray))
 else
 (I.unType op a.gType).bind fun (r1 : Int) =>
  bif r1 == 0 then
   some ((⟨0, 0, (⟨#[]⟩ : ByteArray)⟩ : TValue), (⟨#[116, 121, 112, 101]⟩ : ByteArray))
  else
  bif op == 2 then
    (I.truth (a.gN == 0)).bind fun (r2 : TValue) =>
    some (r2, (⟨#[]⟩ : ByteArray))
   else
   bif op == 1 then
     (I.into (IntKind.u64.wrap (0 - IntKind.u64.wrap a.gN)) a.gType).bind fun (r2 : Int) =>
     some ((⟨a.gType, r2, (⟨#[]⟩ : ByteArray)⟩ : TValue), (⟨#[]⟩ : ByteArray))
    else
    (I.into (bitXor IntKind.u64 (if IntKind.u64.signed = true then -1 else IntKind.u64.max) (IntKind.u64.wrap a.gN)) a.gType).bind fun (r2 : Int) =>
     some ((⟨a.gType, r2, (⟨#[]⟩ : ByteArray)⟩ : TValue), (⟨#[]⟩ : ByteArray)) :=
  (fnA_eq 15 [PV.i IntKind.i64 op, PV.st (cells 25 a)] rfl).trans (by kernel_rfl)
theorem I.Convert_eq (a : TValue) (to : Int) : I.Convert a to =
  (I.ValidValue a).bind fun (r0 : Bool) =>
 bif !r0 then
  some ((⟨0, 0, (⟨#[]⟩ : ByteArray)⟩ : TValue), (⟨#[116, 121, 112, 101]⟩ : ByteArray))
 else
 (I.integer a.gType).bind fun (r1 : Bool) =>
  bif !r1 then
   some ((⟨0, 0, (⟨#[]⟩ : ByteArray)⟩ : TValue), (⟨#[116, 121, 112, 101]⟩ : ByteArray))
  else
  (I.integer to).bind fun (r2 : Bool) =>
   bif !r2 then
    some ((⟨0, 0, (⟨#[]⟩ : ByteArray)⟩ : TValue), (⟨#[116, 121, 112, 101]⟩ : ByteArray))
   else
   (I.into (IntKind.u64.wrap a.gN) to).bind fun (r3 : Int) =>
    some ((⟨to, r3, (⟨#[]⟩ : ByteArray)⟩ : TValue), (⟨#[]⟩ : ByteArray)) :=
  (fnA_eq 16 [PV.st (cells 25 a), PV.i IntKind.i64 to] rfl).trans (by kernel_rfl)
noncomputable def I.builtType.l500 (op : Int) (want : List Int) (t35 : List Int) (t36 : Int) (t37 : Int) : Option Int := Y.runA 32 (fun ct c => at_ ct [true, true, true, true, false, true, false, false] c) ⟨[(0, .i IntKind.i64 op), (5, .fl 3 want), (35, .fl 3 t35), (36, .i IntKind.i64 t36), (37, .i IntKind.i64 t37)], [], [], []⟩
theorem I.builtType_eq (op : Int) (kids : List Int) : I.builtType op kids =
  bif decide (op < 1) then
  some 0
 else
 bif decide (op > 12) then
   some 0
  else
  bif inB op [[], [2], [2], [2], [2, 2], [], [2], [2, 10], [2, 10, 10], [2, 2], [3], [-1], [2]].length then
    bif (↑kids.length : Int) != (↑(List.length ([[], [2], [2], [2], [2, 2], [], [2], [2, 10], [2, 10, 10], [2, 2], [3], [-1], [2]].getD op.toNat [])) : Int) then
     some 0
    else
    I.builtType.l500 op ([[], [2], [2], [2], [2, 2], [], [2], [2, 10], [2, 10, 10], [2, 2], [3], [-1], [2]].getD op.toNat []) kids (↑kids.length : Int) 0
   else
   none :=
  (fnA_eq 32 [PV.i IntKind.i64 op, PV.fl 3 kids] rfl).trans (by kernel_rfl)
theorem I.builtType.l500_eq (op : Int) (want : List Int) (t35 : List Int) (t36 : Int) (t37 : Int) : I.builtType.l500 op want t35 t36 t37 =
  bif decide (t37 < t36) then
  bif inB t37 t35.length then
   bif inB t37 (List.length want) then
    bif List.getD want t37.toNat 0 == -1 then
     (I.integer (t35.getD t37.toNat 0)).bind fun (r0 : Bool) =>
     bif r0 then
      I.builtType.l500 op want t35 t36 (IntKind.i64.wrap (t37 + 1))
     else
     bif inB t37 (List.length want) then
       bif List.getD want t37.toNat 0 == t35.getD t37.toNat 0 then
        I.builtType.l500 op want t35 t36 (IntKind.i64.wrap (t37 + 1))
       else
       some 0
      else
      none
    else
    bif inB t37 (List.length want) then
      bif List.getD want t37.toNat 0 == t35.getD t37.toNat 0 then
       I.builtType.l500 op want t35 t36 (IntKind.i64.wrap (t37 + 1))
      else
      some 0
     else
     none
   else
   none
  else
  none
 else
 bif inB op [0, 2, 1, 2, 2, 2, 10, 3, 2, 10, 2, 2, 10].length then
   some ([0, 2, 1, 2, 2, 2, 10, 3, 2, 10, 2, 2, 10].getD op.toNat 0)
  else
  none :=
  (runA_eq 32 _ _).trans (by kernel_rfl)
theorem I.vInt_eq (n : Int) : I.vInt n =
  some (⟨10, n, (⟨#[]⟩ : ByteArray)⟩ : TValue) :=
  (fnA_eq 33 [PV.i IntKind.i64 n] rfl).trans (by kernel_rfl)
theorem I.vText_eq (s : ByteArray) : I.vText s =
  some (⟨2, 0, s⟩ : TValue) :=
  (fnA_eq 34 [PV.s s] rfl).trans (by kernel_rfl)
theorem I.decimal_eq (v : TValue) : I.decimal v =
  (I.signed v.gType).bind fun (r0 : Bool) =>
 bif r0 then
  bif decide (-9223372036854775808 ≤ v.gN) && decide (v.gN ≤ 9223372036854775807) && 10 == 10 then
   some ({ data := (Lib.itoa v.gN).toArray })
  else
  none
 else
 bif decide (0 ≤ IntKind.u64.wrap v.gN) && decide (IntKind.u64.wrap v.gN < 18446744073709551616) && 10 == 10 then
   some ({ data := (Lib.decDigits (IntKind.u64.wrap v.gN).toNat).toArray })
  else
  none :=
  (fnA_eq 36 [PV.st (cells 25 v)] rfl).trans (by kernel_rfl)
noncomputable def I.Built.l116 (op : Int) (args : List TValue) (ts : List Int) (t16 : List TValue) (t17 : Int) (t18 : Int) (t4 : TValue) : Option (TValue × ByteArray) := Y.runA 9 (fun ct c => at_ ct [true, true, false, true, false, false] c) ⟨[(0, .i IntKind.i64 op), (1, .fl 25 args), (4, .ad (.loc 4) 0), (6, .ol 3 ts), (16, .fl 25 t16), (17, .i IntKind.i64 t17), (18, .i IntKind.i64 t18)], [(4, cells 25 t4)], [], []⟩
theorem I.Built_eq (op : Int) (args : List TValue) : I.Built op args =
  I.Built.l116 op args ([]) args (↑args.length : Int) 0 (⟨0, 0, (⟨#[]⟩ : ByteArray)⟩ : TValue) :=
  (fnA_eq 9 [PV.i IntKind.i64 op, PV.fl 25 args] rfl).trans (by kernel_rfl)
theorem I.Built.l116_eq (op : Int) (args : List TValue) (ts : List Int) (t16 : List TValue) (t17 : Int) (t18 : Int) (t4 : TValue) : I.Built.l116 op args ts t16 t17 t18 t4 =
  bif decide (t18 < t17) then
  bif inB t18 t16.length then
   (I.ValidValue (t16.getD t18.toNat TValue.z)).bind fun (r0 : Bool) =>
   bif !r0 then
    some ((⟨0, 0, (⟨#[]⟩ : ByteArray)⟩ : TValue), (⟨#[116, 121, 112, 101]⟩ : ByteArray))
   else
   bif room (ts.length + [(t16.getD t18.toNat TValue.z).gType].length) 8 then
     I.Built.l116 op args (ts ++ [(t16.getD t18.toNat TValue.z).gType]) t16 t17 (IntKind.i64.wrap (t18 + 1)) t4
    else
    none
  else
  none
 else
 bif decide (op ≤ 5) then
   some ((⟨0, 0, (⟨#[]⟩ : ByteArray)⟩ : TValue), (⟨#[116, 121, 112, 101]⟩ : ByteArray))
  else
  (I.builtType op ts).bind fun (r0 : Int) =>
   bif r0 == 0 then
    some ((⟨0, 0, (⟨#[]⟩ : ByteArray)⟩ : TValue), (⟨#[116, 121, 112, 101]⟩ : ByteArray))
   else
   bif inB 0 args.length then
     bif op == 6 then
      (I.vInt (↑(args.getD 0 TValue.z).gText.size : Int)).bind fun (r1 : TValue) =>
      some (r1, (⟨#[]⟩ : ByteArray))
     else
     bif op == 7 then
       bif inB 1 args.length then
        bif decide ((args.getD 1 TValue.z).gN < 0) then
         some ((⟨0, 0, (⟨#[]⟩ : ByteArray)⟩ : TValue), (⟨#[114, 97, 110, 103, 101]⟩ : ByteArray))
        else
        bif decide ((args.getD 1 TValue.z).gN ≥ (↑(args.getD 0 TValue.z).gText.size : Int)) then
          some ((⟨0, 0, (⟨#[]⟩ : ByteArray)⟩ : TValue), (⟨#[114, 97, 110, 103, 101]⟩ : ByteArray))
         else
         bif inB (args.getD 1 TValue.z).gN (args.getD 0 TValue.z).gText.size then
           some ((⟨3, IntKind.i64.wrap (bt (args.getD 0 TValue.z).gText (args.getD 1 TValue.z).gN), (⟨#[]⟩ : ByteArray)⟩ : TValue), (⟨#[]⟩ : ByteArray))
          else
          none
       else
       none
      else
      bif op == 8 then
        bif inB 1 args.length then
         bif inB 2 args.length then
          bif decide ((args.getD 1 TValue.z).gN < 0) then
           some ((⟨0, 0, (⟨#[]⟩ : ByteArray)⟩ : TValue), (⟨#[114, 97, 110, 103, 101]⟩ : ByteArray))
          else
          bif decide ((args.getD 2 TValue.z).gN < (args.getD 1 TValue.z).gN) then
            some ((⟨0, 0, (⟨#[]⟩ : ByteArray)⟩ : TValue), (⟨#[114, 97, 110, 103, 101]⟩ : ByteArray))
           else
           bif decide ((args.getD 2 TValue.z).gN > (↑(args.getD 0 TValue.z).gText.size : Int)) then
            some ((⟨0, 0, (⟨#[]⟩ : ByteArray)⟩ : TValue), (⟨#[114, 97, 110, 103, 101]⟩ : ByteArray))
            else
            bif inS (args.getD 1 TValue.z).gN (args.getD 2 TValue.z).gN (args.getD 0 TValue.z).gText.size then
            (I.vText ((args.getD 0 TValue.z).gText.extract (args.getD 1 TValue.z).gN.toNat (args.getD 2 TValue.z).gN.toNat)).bind fun (r1 : TValue) =>
            some (r1, (⟨#[]⟩ : ByteArray))
            else
            none
         else
         none
        else
        none
       else
       bif op == 9 then
         bif inB 1 args.length then
          bif decide ((args.getD 0 TValue.z).gText.size < 4294967281) then
           (I.vInt (Lib.index (args.getD 0 TValue.z).gText.data.toList (args.getD 1 TValue.z).gText.data.toList)).bind fun (r1 : TValue) =>
           some (r1, (⟨#[]⟩ : ByteArray))
          else
          none
         else
         none
        else
        bif op == 10 then
          bif inB 0 args.length then
           (I.vText (strOfBytes (List.map (fun (x : Int) ↦ x) [IntKind.u8.wrap (args.getD 0 TValue.z).gN]))).bind fun (r1 : TValue) =>
           some (r1, (⟨#[]⟩ : ByteArray))
          else
          none
         else
         bif op == 11 then
           bif inB 0 args.length then
            (I.decimal (args.getD 0 TValue.z)).bind fun (r1 : ByteArray) =>
            (I.vText r1).bind fun (r2 : TValue) =>
            some (r2, (⟨#[]⟩ : ByteArray))
           else
           none
          else
          bif decide ((args.getD 0 TValue.z).gText.size ≤ 281474976710656) && 10 == 10 && 64 == 64 then
            bif !(pInt (args.getD 0 TValue.z).gText).snd then
            some ((⟨0, 0, (⟨#[]⟩ : ByteArray)⟩ : TValue), (⟨#[110, 117, 109, 98, 101, 114]⟩ : ByteArray))
            else
            bif decide (-9223372036854775808 ≤ (pInt (args.getD 0 TValue.z).gText).fst) && decide ((pInt (args.getD 0 TValue.z).gText).fst ≤ 9223372036854775807) && 10 == 10 then
            bif !bEq { data := (Lib.itoa (pInt (args.getD 0 TValue.z).gText).fst).toArray } (args.getD 0 TValue.z).gText then
            some ((⟨0, 0, (⟨#[]⟩ : ByteArray)⟩ : TValue), (⟨#[110, 117, 109, 98, 101, 114]⟩ : ByteArray))
            else
            (I.vInt ((pInt (args.getD 0 TValue.z).gText).fst)).bind fun (r1 : TValue) =>
            some (r1, (⟨#[]⟩ : ByteArray))
            else
            none
           else
           none
    else
    none :=
  (runA_eq 9 _ _).trans (by kernel_rfl)
theorem L.FnValues_eq (code : List Int) : L.FnValues code =
  bif decide ((↑code.length : Int) > 1048576) then
  some true
 else
 (R.DrawBinary code).bind fun (r0 : (Int × (TValue × TValue))) =>
  (R.ValidValue r0.snd.fst).bind fun (r1 : Bool) =>
  bif !r1 then
   (I.Binary 13 r0.snd.fst r0.snd.snd).bind fun (r2 : (TValue × ByteArray)) =>
   bif bEq r2.snd (⟨#[116, 121, 112, 101]⟩ : ByteArray) then
    some (r2.fst.gType == 0 && (r2.fst.gN == 0 && (r2.fst.gText.toList == (⟨#[]⟩ : ByteArray).toList && true)))
   else
   some false
  else
  (R.ValidValue r0.snd.snd).bind fun (r2 : Bool) =>
   bif !r2 then
    (I.Binary 13 r0.snd.fst r0.snd.snd).bind fun (r3 : (TValue × ByteArray)) =>
    bif bEq r3.snd (⟨#[116, 121, 112, 101]⟩ : ByteArray) then
     some (r3.fst.gType == 0 && (r3.fst.gN == 0 && (r3.fst.gText.toList == (⟨#[]⟩ : ByteArray).toList && true)))
    else
    some false
   else
   bif r0.snd.fst.gType != r0.snd.snd.gType then
     (I.Binary 13 r0.snd.fst r0.snd.snd).bind fun (r3 : (TValue × ByteArray)) =>
     bif bEq r3.snd (⟨#[116, 121, 112, 101]⟩ : ByteArray) then
      some (r3.fst.gType == 0 && (r3.fst.gN == 0 && (r3.fst.gText.toList == (⟨#[]⟩ : ByteArray).toList && true)))
     else
     some false
    else
    bif decide (r0.snd.fst.gType < 3) then
      (I.Binary 13 r0.snd.fst r0.snd.snd).bind fun (r3 : (TValue × ByteArray)) =>
      bif bEq r3.snd (⟨#[116, 121, 112, 101]⟩ : ByteArray) then
       some (r3.fst.gType == 0 && (r3.fst.gN == 0 && (r3.fst.gText.toList == (⟨#[]⟩ : ByteArray).toList && true)))
      else
      some false
     else
     (I.Unary 1 r0.snd.fst).bind fun (r3 : (TValue × ByteArray)) =>
      (I.Binary 9 r0.snd.fst r3.fst).bind fun (r4 : (TValue × ByteArray)) =>
      (I.Unary 3 r0.snd.fst).bind fun (r5 : (TValue × ByteArray)) =>
      (I.Unary 3 r5.fst).bind fun (r6 : (TValue × ByteArray)) =>
      (I.Convert r0.snd.fst 10).bind fun (r7 : (TValue × ByteArray)) =>
      (I.Convert r7.fst r0.snd.fst.gType).bind fun (r8 : (TValue × ByteArray)) =>
      bif decide (ByteArray.size r3.snd + ByteArray.size r4.snd < 2 ^ 62) then
       bif decide ((r3.snd ++ r4.snd).size + ByteArray.size r5.snd < 2 ^ 62) then
        bif decide ((r3.snd ++ r4.snd ++ r5.snd).size + ByteArray.size r6.snd < 2 ^ 62) then
         bif decide ((r3.snd ++ r4.snd ++ r5.snd ++ r6.snd).size + ByteArray.size r7.snd < 2 ^ 62) then
          bif decide ((r3.snd ++ r4.snd ++ r5.snd ++ r6.snd ++ r7.snd).size + ByteArray.size r8.snd < 2 ^ 62) then
           bif !bEq (r3.snd ++ r4.snd ++ r5.snd ++ r6.snd ++ r7.snd ++ r8.snd) (⟨#[]⟩ : ByteArray) then
            some false
           else
           bif !(r4.fst.gType == r0.snd.fst.gType && (r4.fst.gN == 0 && (r4.fst.gText.toList == (⟨#[]⟩ : ByteArray).toList && true))) then
            some false
            else
            bif !(r6.fst.gType == r0.snd.fst.gType && (r6.fst.gN == r0.snd.fst.gN && (r6.fst.gText.toList == r0.snd.fst.gText.toList && true))) then
            some false
            else
            bif !(r8.fst.gType == r0.snd.fst.gType && (r8.fst.gN == r0.snd.fst.gN && (r8.fst.gText.toList == r0.snd.fst.gText.toList && true))) then
            some false
            else
            (I.ValidValue r3.fst).bind fun (r9 : Bool) =>
            bif !r9 then
            some false
            else
            (I.ValidValue r5.fst).bind fun (r10 : Bool) =>
            bif !r10 then
            some false
            else
            (I.ValidValue r7.fst).bind fun (r11 : Bool) =>
            bif !r11 then
            some false
            else
            (I.Built 11 ([{ gType := r7.fst.gType, gN := r7.fst.gN, gText := r7.fst.gText }])).bind fun (r12 : (TValue × ByteArray)) =>
            (I.Built 12 ([{ gType := r12.fst.gType, gN := r12.fst.gN, gText := r12.fst.gText }])).bind fun (r13 : (TValue × ByteArray)) =>
            bif decide (ByteArray.size r12.snd + ByteArray.size r13.snd < 2 ^ 62) then
            bif !bEq (r12.snd ++ r13.snd) (⟨#[]⟩ : ByteArray) then
            some false
            else
            bif !(r13.fst.gType == r7.fst.gType && (r13.fst.gN == r7.fst.gN && (r13.fst.gText.toList == r7.fst.gText.toList && true))) then
            some false
            else
            (I.Binary 14 r0.snd.fst r0.snd.snd).bind fun (r14 : (TValue × ByteArray)) =>
            (I.Binary 15 r0.snd.fst r0.snd.snd).bind fun (r15 : (TValue × ByteArray)) =>
            bif r0.snd.snd.gN == 0 then
            bif bEq r14.snd (⟨#[100, 105, 118, 105, 100, 101]⟩ : ByteArray) then
            bif bEq r15.snd (⟨#[100, 105, 118, 105, 100, 101]⟩ : ByteArray) then
            bif r14.fst.gType == 0 && (r14.fst.gN == 0 && (r14.fst.gText.toList == (⟨#[]⟩ : ByteArray).toList && true)) then
            some (r15.fst.gType == 0 && (r15.fst.gN == 0 && (r15.fst.gText.toList == (⟨#[]⟩ : ByteArray).toList && true)))
            else
            some false
            else
            some false
            else
            some false
            else
            (I.Binary 13 r14.fst r0.snd.snd).bind fun (r16 : (TValue × ByteArray)) =>
            (I.Binary 9 r16.fst r15.fst).bind fun (r17 : (TValue × ByteArray)) =>
            (I.Binary 5 r0.snd.fst r0.snd.snd).bind fun (r18 : (TValue × ByteArray)) =>
            (I.Binary 8 r0.snd.fst r0.snd.snd).bind fun (r19 : (TValue × ByteArray)) =>
            bif decide (ByteArray.size r14.snd + ByteArray.size r15.snd < 2 ^ 62) then
            bif decide ((r14.snd ++ r15.snd).size + ByteArray.size r16.snd < 2 ^ 62) then
            bif decide ((r14.snd ++ r15.snd ++ r16.snd).size + ByteArray.size r17.snd < 2 ^ 62) then
            bif decide ((r14.snd ++ r15.snd ++ r16.snd ++ r17.snd).size + ByteArray.size r18.snd < 2 ^ 62) then
            bif decide ((r14.snd ++ r15.snd ++ r16.snd ++ r17.snd ++ r18.snd).size + ByteArray.size r19.snd < 2 ^ 62) then
            bif bEq (r14.snd ++ r15.snd ++ r16.snd ++ r17.snd ++ r18.snd ++ r19.snd) (⟨#[]⟩ : ByteArray) then
            bif r17.fst.gType == r0.snd.fst.gType && (r17.fst.gN == r0.snd.fst.gN && (r17.fst.gText.toList == r0.snd.fst.gText.toList && true)) then
            bif IntKind.i64.wrap (r18.fst.gN + r19.fst.gN) == 1 then
            (I.ValidValue r14.fst).bind fun (r20 : Bool) =>
            bif r20 then
            (I.ValidValue r15.fst).bind fun (r21 : Bool) =>
            some r21
            else
            some false
            else
            some false
            else
            some false
            else
            some false
            else
            none
            else
            none
            else
            none
            else
            none
            else
            none
            else
            none
          else
          none
         else
         none
        else
        none
       else
       none
      else
      none :=
  (fnA_eq 4 [PV.fl 5 code] rfl).trans (by kernel_rfl)
end Go.KM.V1
