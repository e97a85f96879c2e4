/- The equations of the law's functions. Conditions: none. -/
import Derived.Test.YtgjcobbngimleaaLSg
namespace Go.KM.L1
open Go Go.KM
open Go.KM.Fam (Dn dflt)
open Go.KM.Enc (cells sz mkE glob gany u8)
set_option autoImplicit false
set_option linter.unusedVariables false
set_option maxRecDepth 100000
theorem L.szFile_eq (a : TFile) (left : Int) : L.szFile a left =
  bif decide (IntKind.i64.wrap (left - (↑a.gName.size : Int)) < 0) then
  some (-1)
 else
 bif decide (IntKind.i64.wrap (IntKind.i64.wrap (left - (↑a.gName.size : Int)) - (↑a.gText.size : Int)) < 0) then
   some (-1)
  else
  some (IntKind.i64.wrap (IntKind.i64.wrap (left - (↑a.gName.size : Int)) - (↑a.gText.size : Int))) :=
  (fnA_eq 21 [PV.st (cells 51 a), PV.i IntKind.i64 left] rfl).trans (by kernel_rfl)
noncomputable def L.szFileS.l244 (a : List TFile) (left : Int) (i : Int) : Option Int := Y.runA 6 (fun ct c => at_ ct [true, true, true, false, true, false, false] c) ⟨[(0, .fl 51 a), (1, .i IntKind.i64 left), (5, .i IntKind.i64 i)], [], [], [], []⟩
theorem L.szFileS_eq (a : List TFile) (left : Int) : L.szFileS a left =
  bif decide (IntKind.i64.wrap (left - (↑a.length : Int)) < 0) then
  some (-1)
 else
 L.szFileS.l244 a (IntKind.i64.wrap (left - (↑a.length : Int))) 0 :=
  (fnA_eq 6 [PV.fl 51 a, PV.i IntKind.i64 left] rfl).trans (by kernel_rfl)
theorem L.szFileS.l244_eq (a : List TFile) (left : Int) (i : Int) : L.szFileS.l244 a left i =
  bif decide (i < (↑a.length : Int)) then
  bif inB i a.length then
   (L.szFile (a.getD i.toNat TFile.z) left).bind fun (r0 : Int) =>
   bif decide (r0 < 0) then
    some (-1)
   else
   L.szFileS.l244 a r0 (IntKind.i64.wrap (i + 1))
  else
  none
 else
 some left :=
  (runA_eq 6 _ _).trans (by kernel_rfl)
theorem L.szPlace_eq (a : TPlace) (left : Int) : L.szPlace a left =
  (L.szFileS a.gFiles left).bind fun (r0 : Int) =>
 bif decide (r0 < 0) then
  some (-1)
 else
 some r0 :=
  (fnA_eq 5 [PV.st (cells 24 a), PV.i IntKind.i64 left] rfl).trans (by kernel_rfl)
theorem L.toFile_eq (a : TFile) : L.toFile a =
  some a :=
  (fnA_eq 25 [PV.st (cells 51 a)] rfl).trans (by kernel_rfl)
noncomputable def L.toFileS.l116 (a : List TFile) (out : List TFile) (i : Int) : Option (List TFile) := Y.runA 9 (fun ct c => at_ ct [true, true, false, true, false, false] c) ⟨[(0, .fl 51 a), (3, .ol 47 out), (4, .i IntKind.i64 i)], [], [], [], []⟩
theorem L.toFileS_eq (a : List TFile) : L.toFileS a =
  bif decide (0 ≤ (↑a.length : Int)) && (↑a.length : Int) == (↑a.length : Int) && room a.length 32 then
  L.toFileS.l116 a (List.replicate a.length (TFile.mk ((⟨#[]⟩ : ByteArray)) ((⟨#[]⟩ : ByteArray)))) 0
 else
 none :=
  (fnA_eq 9 [PV.fl 51 a] rfl).trans (by kernel_rfl)
theorem L.toFileS.l116_eq (a : List TFile) (out : List TFile) (i : Int) : L.toFileS.l116 a out i =
  bif decide (i < (↑a.length : Int)) then
  bif inB i a.length then
   (L.toFile (a.getD i.toNat TFile.z)).bind fun (r0 : TFile) =>
   bif inB i out.length then
    L.toFileS.l116 a (out.set i.toNat (TFile.mk r0.gName r0.gText)) (IntKind.i64.wrap (i + 1))
   else
   none
  else
  none
 else
 some out :=
  (runA_eq 9 _ _).trans (by kernel_rfl)
theorem L.toPlace_eq (a : TPlace) : L.toPlace a =
  (L.toFileS a.gFiles).bind fun (r0 : List TFile) =>
 some (⟨r0⟩ : TPlace) :=
  (fnA_eq 8 [PV.st (cells 24 a)] rfl).trans (by kernel_rfl)
noncomputable def R.l6PrefixOk.l116 (s : ByteArray) (i : Int) : Option Bool := Y.runA 44 (fun ct c => at_ ct [true, true, false, true, false, false] c) ⟨[(0, .s s), (3, .i IntKind.i64 i)], [], [], [], []⟩
theorem R.l6PrefixOk_eq (s : ByteArray) : R.l6PrefixOk s =
  bif decide ((↑s.size : Int) > 60) then
  some false
 else
 R.l6PrefixOk.l116 s 0 :=
  (fnA_eq 44 [PV.s s] rfl).trans (by kernel_rfl)
theorem R.l6PrefixOk.l116_eq (s : ByteArray) (i : Int) : R.l6PrefixOk.l116 s i =
  bif decide (i < (↑s.size : Int)) then
  bif inB i s.size then
   bif decide (bt s i < 33) then
    some false
   else
   bif inB i s.size then
     bif decide (bt s i > 126) then
      some false
     else
     R.l6PrefixOk.l116 s (IntKind.i64.wrap (i + 1))
    else
    none
  else
  none
 else
 some true :=
  (runA_eq 44 _ _).trans (by kernel_rfl)
theorem R.l6PathOk_eq (s : ByteArray) : R.l6PathOk s =
  bif decide ((↑s.size : Int) ≥ 1) then
  (R.l6PrefixOk s).bind fun (r0 : Bool) =>
  some r0
 else
 some false :=
  (fnA_eq 23 [PV.s s] rfl).trans (by kernel_rfl)
noncomputable def R.l9FilesOk.l116 (files : List TFile) (i : Int) : Option Bool := Y.runA 43 (fun ct c => at_ ct [true, true, false, true, false, false] c) ⟨[(0, .fl 47 files), (5, .i IntKind.i64 i)], [], [], [], []⟩
theorem R.l9FilesOk_eq (files : List TFile) (most : Int) : R.l9FilesOk files most =
  bif decide ((↑files.length : Int) > most) then
  some false
 else
 R.l9FilesOk.l116 files 0 :=
  (fnA_eq 43 [PV.fl 47 files, PV.i IntKind.i64 most] rfl).trans (by kernel_rfl)
theorem R.l9FilesOk.l116_eq (files : List TFile) (i : Int) : R.l9FilesOk.l116 files i =
  bif decide (i < (↑files.length : Int)) then
  bif inB i files.length then
   (R.l6PathOk ((files.getD i.toNat TFile.z).gName)).bind fun (r0 : Bool) =>
   bif !r0 then
    some false
   else
   bif inB i files.length then
     bif decide ((↑(files.getD i.toNat TFile.z).gText.size : Int) > 3000) then
      some false
     else
     bif decide (i > 0) then
       bif inB (IntKind.i64.wrap (i - 1)) files.length then
        bif inB i files.length then
         bif !bLt (files.getD (IntKind.i64.wrap (i - 1)).toNat TFile.z).gName (files.getD i.toNat TFile.z).gName then
          some false
         else
         R.l9FilesOk.l116 files (IntKind.i64.wrap (i + 1))
        else
        none
       else
       none
      else
      R.l9FilesOk.l116 files (IntKind.i64.wrap (i + 1))
    else
    none
  else
  none
 else
 some true :=
  (runA_eq 43 _ _).trans (by kernel_rfl)
theorem R.ValidPlace_eq (p : TPlace) : R.ValidPlace p =
  (R.l9FilesOk p.gFiles 40).bind fun (r0 : Bool) =>
 some r0 :=
  (fnA_eq 22 [PV.st (cells 29 p)] rfl).trans (by kernel_rfl)
noncomputable def R.l6Put.l244 (files : List TFile) (name : ByteArray) (text : ByteArray) (out : List TFile) (done : Bool) (i : Int) : Option (List TFile) := Y.runA 24 (fun ct c => at_ ct [true, true, true, false, true, false, false] c) ⟨[(0, .fl 47 files), (1, .s name), (2, .s text), (7, .ol 47 out), (8, .b done), (9, .i IntKind.i64 i)], [], [], [], []⟩
theorem R.l6Put_eq (files : List TFile) (name : ByteArray) (text : ByteArray) : R.l6Put files name text =
  R.l6Put.l244 files name text ([]) false 0 :=
  (fnA_eq 24 [PV.fl 47 files, PV.s name, PV.s text] rfl).trans (by kernel_rfl)
theorem R.l6Put.l244_eq (files : List TFile) (name : ByteArray) (text : ByteArray) (out : List TFile) (done : Bool) (i : Int) : R.l6Put.l244 files name text out done i =
  bif decide (i < (↑files.length : Int)) then
  bif !done then
   bif inB i files.length then
    bif !bLt (files.getD i.toNat TFile.z).gName name then
     bif room (out.length + [TFile.mk name text].length) 32 then
      bif inB i files.length then
       bif !bEq (files.getD i.toNat TFile.z).gName name then
        bif inB i files.length then
         bif room ((out ++ [TFile.mk name text]).length + [TFile.mk (files.getD i.toNat TFile.z).gName (files.getD i.toNat TFile.z).gText].length) 32 then
          R.l6Put.l244 files name text (out ++ [TFile.mk name text] ++ [TFile.mk (files.getD i.toNat TFile.z).gName (files.getD i.toNat TFile.z).gText]) true (IntKind.i64.wrap (i + 1))
         else
         none
        else
        none
       else
       R.l6Put.l244 files name text (out ++ [TFile.mk name text]) true (IntKind.i64.wrap (i + 1))
      else
      none
     else
     none
    else
    bif inB i files.length then
      bif !bEq (files.getD i.toNat TFile.z).gName name then
       bif inB i files.length then
        bif room (out.length + [TFile.mk (files.getD i.toNat TFile.z).gName (files.getD i.toNat TFile.z).gText].length) 32 then
         R.l6Put.l244 files name text (out ++ [TFile.mk (files.getD i.toNat TFile.z).gName (files.getD i.toNat TFile.z).gText]) done (IntKind.i64.wrap (i + 1))
        else
        none
       else
       none
      else
      R.l6Put.l244 files name text out done (IntKind.i64.wrap (i + 1))
     else
     none
   else
   none
  else
  bif inB i files.length then
    bif !bEq (files.getD i.toNat TFile.z).gName name then
     bif inB i files.length then
      bif room (out.length + [TFile.mk (files.getD i.toNat TFile.z).gName (files.getD i.toNat TFile.z).gText].length) 32 then
       R.l6Put.l244 files name text (out ++ [TFile.mk (files.getD i.toNat TFile.z).gName (files.getD i.toNat TFile.z).gText]) done (IntKind.i64.wrap (i + 1))
      else
      none
     else
     none
    else
    R.l6Put.l244 files name text out done (IntKind.i64.wrap (i + 1))
   else
   none
 else
 bif !done then
   bif room (out.length + [TFile.mk name text].length) 32 then
    some (out ++ [TFile.mk name text])
   else
   none
  else
  some out :=
  (runA_eq 24 _ _).trans (by kernel_rfl)
noncomputable def R.Lay.l244 (files : List TFile) (out : List TFile) (i : Int) (t4 : TPlace) : Option ((TPlace × Int)) := Y.runA 7 (fun ct c => at_ ct [true, true, true, false, true, false, false] c) ⟨[(1, .fl 47 files), (4, .ad (.loc 4) 0), (6, .ol 47 out), (7, .i IntKind.i64 i)], [(4, cells 29 t4)], [], [], []⟩
theorem R.Lay_eq (p : TPlace) (files : List TFile) : R.Lay p files =
  (R.ValidPlace p).bind fun (r0 : Bool) =>
 bif !r0 then
  some ((⟨[]⟩ : TPlace), 1)
 else
 bif decide ((↑files.length : Int) > 40) then
   some ((⟨[]⟩ : TPlace), 1)
  else
  bif room (0 + p.gFiles.length) 32 then
    R.Lay.l244 files p.gFiles 0 (⟨[]⟩ : TPlace)
   else
   none :=
  (fnA_eq 7 [PV.st (cells 29 p), PV.fl 47 files] rfl).trans (by kernel_rfl)
theorem R.Lay.l244_eq (files : List TFile) (out : List TFile) (i : Int) (t4 : TPlace) : R.Lay.l244 files out i t4 =
  bif decide (i < (↑files.length : Int)) then
  bif inB i files.length then
   (R.l6PathOk ((files.getD i.toNat TFile.z).gName)).bind fun (r0 : Bool) =>
   bif !r0 then
    some ((⟨[]⟩ : TPlace), 1)
   else
   bif inB i files.length then
     bif decide ((↑(files.getD i.toNat TFile.z).gText.size : Int) > 3000) then
      some ((⟨[]⟩ : TPlace), 1)
     else
     bif inB i files.length then
       bif inB i files.length then
        (R.l6Put out ((files.getD i.toNat TFile.z).gName) ((files.getD i.toNat TFile.z).gText)).bind fun (r1 : List TFile) =>
        R.Lay.l244 files r1 (IntKind.i64.wrap (i + 1)) t4
       else
       none
      else
      none
    else
    none
  else
  none
 else
 bif decide ((↑out.length : Int) > 40) then
   some ((⟨[]⟩ : TPlace), 2)
  else
  some ((⟨out⟩ : TPlace), 0) :=
  (runA_eq 7 _ _).trans (by kernel_rfl)
noncomputable def I.pathText.l116 (s : ByteArray) (i : Int) : Option Bool := Y.runA 45 (fun ct c => at_ ct [true, true, false, true, false, false] c) ⟨[(0, .s s), (3, .i IntKind.i64 i)], [], [], [], []⟩
theorem I.pathText_eq (s : ByteArray) : I.pathText s =
  bif decide ((↑s.size : Int) > 60) then
  some false
 else
 I.pathText.l116 s 0 :=
  (fnA_eq 45 [PV.s s] rfl).trans (by kernel_rfl)
theorem I.pathText.l116_eq (s : ByteArray) (i : Int) : I.pathText.l116 s i =
  bif decide (i < (↑s.size : Int)) then
  bif inB i s.size then
   bif decide (bt s i < 33) then
    some false
   else
   bif inB i s.size then
     bif decide (bt s i > 126) then
      some false
     else
     I.pathText.l116 s (IntKind.i64.wrap (i + 1))
    else
    none
  else
  none
 else
 some true :=
  (runA_eq 45 _ _).trans (by kernel_rfl)
theorem I.fileName_eq (s : ByteArray) : I.fileName s =
  bif !bEq s ((⟨#[]⟩ : ByteArray)) then
  (I.pathText s).bind fun (r0 : Bool) =>
  some r0
 else
 some false :=
  (fnA_eq 26 [PV.s s] rfl).trans (by kernel_rfl)
noncomputable def I.filesOk.l116 (files : List TFile) (t11 : List TFile) (t12 : Int) (t13 : Int) : Option Bool := Y.runA 38 (fun ct c => at_ ct [true, true, false, true, false, false] c) ⟨[(0, .fl 47 files), (11, .fl 47 t11), (12, .i IntKind.i64 t12), (13, .i IntKind.i64 t13)], [], [], [], []⟩
theorem I.filesOk_eq (files : List TFile) (most : Int) : I.filesOk files most =
  bif decide ((↑files.length : Int) > most) then
  some false
 else
 I.filesOk.l116 files files (↑files.length : Int) 0 :=
  (fnA_eq 38 [PV.fl 47 files, PV.i IntKind.i64 most] rfl).trans (by kernel_rfl)
theorem I.filesOk.l116_eq (files : List TFile) (t11 : List TFile) (t12 : Int) (t13 : Int) : I.filesOk.l116 files t11 t12 t13 =
  bif decide (t13 < t12) then
  bif inB t13 t11.length then
   (I.fileName ((t11.getD t13.toNat TFile.z).gName)).bind fun (r0 : Bool) =>
   bif !r0 then
    some false
   else
   bif decide ((↑(t11.getD t13.toNat TFile.z).gText.size : Int) > 3000) then
     some false
    else
    bif decide (t13 > 0) then
      bif inB (IntKind.i64.wrap (t13 - 1)) files.length then
       bif !bLt (files.getD (IntKind.i64.wrap (t13 - 1)).toNat TFile.z).gName (t11.getD t13.toNat TFile.z).gName then
        some false
       else
       I.filesOk.l116 files t11 t12 (IntKind.i64.wrap (t13 + 1))
      else
      none
     else
     I.filesOk.l116 files t11 t12 (IntKind.i64.wrap (t13 + 1))
  else
  none
 else
 some true :=
  (runA_eq 38 _ _).trans (by kernel_rfl)
theorem I.ValidPlace_eq (p : TPlace) : I.ValidPlace p =
  (I.filesOk p.gFiles 40).bind fun (r0 : Bool) =>
 some r0 :=
  (fnA_eq 18 [PV.st (cells 29 p)] rfl).trans (by kernel_rfl)
theorem I.setFile_1_eq (o0 : List TFile) (o1 : (ByteArray × ByteArray)) (k : Int) : I.setFile_1 o0 o1 k =
  bif inB k o0.length then
  some (!bLt (o0.getD k.toNat TFile.z).gName o1.fst, (o0, (o1.fst, o1.snd)))
 else
 none :=
  (fnB_eq 47 [PV.i IntKind.i64 k, PV.ad (Base.obj 0) 0, PV.ad (Base.obj 1) 0] [[PV.ol 47 o0], [PV.s o1.fst, PV.s o1.snd]] rfl).trans (by kernel_rfl)
noncomputable def G.sort_Search_c47.l56 (i : Int) (j : Int) (m : List TFile) (m_1 : ByteArray) (m_2 : ByteArray) : Option ((Int × (List TFile × (ByteArray × ByteArray)))) := Y.runB 46 (fun ct c => at_ ct [true, true, false, false, false] c) ⟨[(1, .clo 47 [(0, 0), (1, 0)]), (5, .i IntKind.i64 i), (6, .i IntKind.i64 j)], [], [[.ol 47 m], [.s m_1, .s m_2]], [], []⟩
theorem G.sort_Search_c47_eq (o0 : List TFile) (o1 : (ByteArray × ByteArray)) (n : Int) : G.sort_Search_c47 o0 o1 n =
  G.sort_Search_c47.l56 0 n o0 o1.fst o1.snd :=
  (fnB_eq 46 [PV.i IntKind.i64 n, PV.clo 47 [(0, 0), (1, 0)]] [[PV.ol 47 o0], [PV.s o1.fst, PV.s o1.snd]] rfl).trans (by kernel_rfl)
theorem G.sort_Search_c47.l56_eq (i : Int) (j : Int) (m : List TFile) (m_1 : ByteArray) (m_2 : ByteArray) : G.sort_Search_c47.l56 i j m m_1 m_2 =
  bif decide (i < j) then
  (I.setFile_1 m (m_1, m_2) (IntKind.i64.wrap (shrI IntKind.u64 (IntKind.u64.wrap (IntKind.i64.wrap (i + j))) 1))).bind fun (r0 : (Bool × (List TFile × (ByteArray × ByteArray)))) =>
  bif !r0.fst then
   G.sort_Search_c47.l56 (IntKind.i64.wrap (IntKind.i64.wrap (shrI IntKind.u64 (IntKind.u64.wrap (IntKind.i64.wrap (i + j))) 1) + 1)) j r0.snd.fst r0.snd.snd.fst r0.snd.snd.snd
  else
  G.sort_Search_c47.l56 i (IntKind.i64.wrap (shrI IntKind.u64 (IntKind.u64.wrap (IntKind.i64.wrap (i + j))) 1)) r0.snd.fst r0.snd.snd.fst r0.snd.snd.snd
 else
 some (i, (m, (m_1, m_2))) :=
  (runB_eq 46 _ _).trans (by kernel_rfl)
theorem I.setFile_eq (files : List TFile) (f : TFile) : I.setFile files f =
  (G.sort_Search_c47 files (f.gName, f.gText) (↑files.length : Int)).bind fun (r0 : (Int × (List TFile × (ByteArray × ByteArray)))) =>
 bif decide (r0.fst < (↑(List.length r0.snd.fst) : Int)) then
  bif inB r0.fst (List.length r0.snd.fst) then
   bif bEq (List.getD r0.snd.fst (Int.toNat r0.fst) TFile.z).gName r0.snd.snd.fst then
    bif inB r0.fst (List.length r0.snd.fst) then
     some (List.set r0.snd.fst (Int.toNat r0.fst) (TFile.mk (List.getD r0.snd.fst (Int.toNat r0.fst) TFile.z).gName r0.snd.snd.snd))
    else
    none
   else
   bif room (List.length r0.snd.fst + [TFile.mk ((⟨#[]⟩ : ByteArray)) ((⟨#[]⟩ : ByteArray))].length) 32 then
     bif inS (IntKind.i64.wrap (r0.fst + 1)) (↑(r0.snd.fst ++ [TFile.mk ((⟨#[]⟩ : ByteArray)) ((⟨#[]⟩ : ByteArray))]).length : Int) (r0.snd.fst ++ [TFile.mk ((⟨#[]⟩ : ByteArray)) ((⟨#[]⟩ : ByteArray))]).length then
      bif inS r0.fst (↑(r0.snd.fst ++ [TFile.mk ((⟨#[]⟩ : ByteArray)) ((⟨#[]⟩ : ByteArray))]).length : Int) (r0.snd.fst ++ [TFile.mk ((⟨#[]⟩ : ByteArray)) ((⟨#[]⟩ : ByteArray))]).length then
       bif inB r0.fst (List.take (IntKind.i64.wrap (r0.fst + 1)).toNat (r0.snd.fst ++ [TFile.mk ((⟨#[]⟩ : ByteArray)) ((⟨#[]⟩ : ByteArray))]) ++ List.take ((r0.snd.fst ++ [TFile.mk ((⟨#[]⟩ : ByteArray)) ((⟨#[]⟩ : ByteArray))]).length - (IntKind.i64.wrap (r0.fst + 1)).toNat) (sub (r0.snd.fst ++ [TFile.mk ((⟨#[]⟩ : ByteArray)) ((⟨#[]⟩ : ByteArray))]) r0.fst (↑(r0.snd.fst ++ [TFile.mk ((⟨#[]⟩ : ByteArray)) ((⟨#[]⟩ : ByteArray))]).length : Int)) ++ List.drop ((IntKind.i64.wrap (r0.fst + 1)).toNat + min (sub (r0.snd.fst ++ [TFile.mk ((⟨#[]⟩ : ByteArray)) ((⟨#[]⟩ : ByteArray))]) r0.fst (↑(r0.snd.fst ++ [TFile.mk ((⟨#[]⟩ : ByteArray)) ((⟨#[]⟩ : ByteArray))]).length : Int)).length ((r0.snd.fst ++ [TFile.mk ((⟨#[]⟩ : ByteArray)) ((⟨#[]⟩ : ByteArray))]).length - (IntKind.i64.wrap (r0.fst + 1)).toNat)) (r0.snd.fst ++ [TFile.mk ((⟨#[]⟩ : ByteArray)) ((⟨#[]⟩ : ByteArray))])).length then
        some ((List.take (IntKind.i64.wrap (r0.fst + 1)).toNat (r0.snd.fst ++ [TFile.mk ((⟨#[]⟩ : ByteArray)) ((⟨#[]⟩ : ByteArray))]) ++ List.take ((r0.snd.fst ++ [TFile.mk ((⟨#[]⟩ : ByteArray)) ((⟨#[]⟩ : ByteArray))]).length - (IntKind.i64.wrap (r0.fst + 1)).toNat) (sub (r0.snd.fst ++ [TFile.mk ((⟨#[]⟩ : ByteArray)) ((⟨#[]⟩ : ByteArray))]) r0.fst (↑(r0.snd.fst ++ [TFile.mk ((⟨#[]⟩ : ByteArray)) ((⟨#[]⟩ : ByteArray))]).length : Int)) ++ List.drop ((IntKind.i64.wrap (r0.fst + 1)).toNat + min (sub (r0.snd.fst ++ [TFile.mk ((⟨#[]⟩ : ByteArray)) ((⟨#[]⟩ : ByteArray))]) r0.fst (↑(r0.snd.fst ++ [TFile.mk ((⟨#[]⟩ : ByteArray)) ((⟨#[]⟩ : ByteArray))]).length : Int)).length ((r0.snd.fst ++ [TFile.mk ((⟨#[]⟩ : ByteArray)) ((⟨#[]⟩ : ByteArray))]).length - (IntKind.i64.wrap (r0.fst + 1)).toNat)) (r0.snd.fst ++ [TFile.mk ((⟨#[]⟩ : ByteArray)) ((⟨#[]⟩ : ByteArray))])).set (Int.toNat r0.fst) (TFile.mk r0.snd.snd.fst r0.snd.snd.snd))
       else
       none
      else
      none
     else
     none
    else
    none
  else
  none
 else
 bif room (List.length r0.snd.fst + [TFile.mk ((⟨#[]⟩ : ByteArray)) ((⟨#[]⟩ : ByteArray))].length) 32 then
   bif inS (IntKind.i64.wrap (r0.fst + 1)) (↑(r0.snd.fst ++ [TFile.mk ((⟨#[]⟩ : ByteArray)) ((⟨#[]⟩ : ByteArray))]).length : Int) (r0.snd.fst ++ [TFile.mk ((⟨#[]⟩ : ByteArray)) ((⟨#[]⟩ : ByteArray))]).length then
    bif inS r0.fst (↑(r0.snd.fst ++ [TFile.mk ((⟨#[]⟩ : ByteArray)) ((⟨#[]⟩ : ByteArray))]).length : Int) (r0.snd.fst ++ [TFile.mk ((⟨#[]⟩ : ByteArray)) ((⟨#[]⟩ : ByteArray))]).length then
     bif inB r0.fst (List.take (IntKind.i64.wrap (r0.fst + 1)).toNat (r0.snd.fst ++ [TFile.mk ((⟨#[]⟩ : ByteArray)) ((⟨#[]⟩ : ByteArray))]) ++ List.take ((r0.snd.fst ++ [TFile.mk ((⟨#[]⟩ : ByteArray)) ((⟨#[]⟩ : ByteArray))]).length - (IntKind.i64.wrap (r0.fst + 1)).toNat) (sub (r0.snd.fst ++ [TFile.mk ((⟨#[]⟩ : ByteArray)) ((⟨#[]⟩ : ByteArray))]) r0.fst (↑(r0.snd.fst ++ [TFile.mk ((⟨#[]⟩ : ByteArray)) ((⟨#[]⟩ : ByteArray))]).length : Int)) ++ List.drop ((IntKind.i64.wrap (r0.fst + 1)).toNat + min (sub (r0.snd.fst ++ [TFile.mk ((⟨#[]⟩ : ByteArray)) ((⟨#[]⟩ : ByteArray))]) r0.fst (↑(r0.snd.fst ++ [TFile.mk ((⟨#[]⟩ : ByteArray)) ((⟨#[]⟩ : ByteArray))]).length : Int)).length ((r0.snd.fst ++ [TFile.mk ((⟨#[]⟩ : ByteArray)) ((⟨#[]⟩ : ByteArray))]).length - (IntKind.i64.wrap (r0.fst + 1)).toNat)) (r0.snd.fst ++ [TFile.mk ((⟨#[]⟩ : ByteArray)) ((⟨#[]⟩ : ByteArray))])).length then
      some ((List.take (IntKind.i64.wrap (r0.fst + 1)).toNat (r0.snd.fst ++ [TFile.mk ((⟨#[]⟩ : ByteArray)) ((⟨#[]⟩ : ByteArray))]) ++ List.take ((r0.snd.fst ++ [TFile.mk ((⟨#[]⟩ : ByteArray)) ((⟨#[]⟩ : ByteArray))]).length - (IntKind.i64.wrap (r0.fst + 1)).toNat) (sub (r0.snd.fst ++ [TFile.mk ((⟨#[]⟩ : ByteArray)) ((⟨#[]⟩ : ByteArray))]) r0.fst (↑(r0.snd.fst ++ [TFile.mk ((⟨#[]⟩ : ByteArray)) ((⟨#[]⟩ : ByteArray))]).length : Int)) ++ List.drop ((IntKind.i64.wrap (r0.fst + 1)).toNat + min (sub (r0.snd.fst ++ [TFile.mk ((⟨#[]⟩ : ByteArray)) ((⟨#[]⟩ : ByteArray))]) r0.fst (↑(r0.snd.fst ++ [TFile.mk ((⟨#[]⟩ : ByteArray)) ((⟨#[]⟩ : ByteArray))]).length : Int)).length ((r0.snd.fst ++ [TFile.mk ((⟨#[]⟩ : ByteArray)) ((⟨#[]⟩ : ByteArray))]).length - (IntKind.i64.wrap (r0.fst + 1)).toNat)) (r0.snd.fst ++ [TFile.mk ((⟨#[]⟩ : ByteArray)) ((⟨#[]⟩ : ByteArray))])).set (Int.toNat r0.fst) (TFile.mk r0.snd.snd.fst r0.snd.snd.snd))
     else
     none
    else
    none
   else
   none
  else
  none :=
  (fnA_eq 27 [PV.ol 47 files, PV.st (cells 47 f)] rfl).trans (by kernel_rfl)
noncomputable def I.Lay.l244 (out : List TFile) (t21 : List TFile) (t22 : Int) (t23 : Int) (t4 : TPlace) : Option ((TPlace × Int)) := Y.runA 10 (fun ct c => at_ ct [true, true, true, false, true, false, false] c) ⟨[(4, .ad (.loc 4) 0), (6, .ol 47 out), (21, .fl 47 t21), (22, .i IntKind.i64 t22), (23, .i IntKind.i64 t23)], [(4, cells 29 t4)], [], [], []⟩
theorem I.Lay_eq (p : TPlace) (files : List TFile) : I.Lay p files =
  (I.ValidPlace p).bind fun (r0 : Bool) =>
 bif !r0 then
  some ((⟨[]⟩ : TPlace), 1)
 else
 bif decide ((↑files.length : Int) > 40) then
   some ((⟨[]⟩ : TPlace), 1)
  else
  bif room p.gFiles.length 32 then
    I.Lay.l244 p.gFiles files (↑files.length : Int) 0 (⟨[]⟩ : TPlace)
   else
   none :=
  (fnA_eq 10 [PV.st (cells 29 p), PV.fl 47 files] rfl).trans (by kernel_rfl)
theorem I.Lay.l244_eq (out : List TFile) (t21 : List TFile) (t22 : Int) (t23 : Int) (t4 : TPlace) : I.Lay.l244 out t21 t22 t23 t4 =
  bif decide (t23 < t22) then
  bif inB t23 t21.length then
   (I.fileName ((t21.getD t23.toNat TFile.z).gName)).bind fun (r0 : Bool) =>
   bif !r0 then
    some ((⟨[]⟩ : TPlace), 1)
   else
   bif decide ((↑(t21.getD t23.toNat TFile.z).gText.size : Int) > 3000) then
     some ((⟨[]⟩ : TPlace), 1)
    else
    (I.setFile out (t21.getD t23.toNat TFile.z)).bind fun (r1 : List TFile) =>
     I.Lay.l244 r1 t21 t22 (IntKind.i64.wrap (t23 + 1)) t4
  else
  none
 else
 bif decide ((↑out.length : Int) > 40) then
   some ((⟨[]⟩ : TPlace), 2)
  else
  some ((⟨out⟩ : TPlace), 0) :=
  (runA_eq 10 _ _).trans (by kernel_rfl)
theorem L.eqFile_eq (a : TFile) (b : TFile) : L.eqFile a b =
  bif !bEq a.gName b.gName then
  some false
 else
 bif !bEq a.gText b.gText then
   some false
  else
  some true :=
  (fnA_eq 28 [PV.st (cells 47 a), PV.st (cells 47 b)] rfl).trans (by kernel_rfl)
noncomputable def L.eqFileS.l116 (a : List TFile) (b : List TFile) (i : Int) : Option Bool := Y.runA 12 (fun ct c => at_ ct [true, true, false, true, false, false] c) ⟨[(0, .fl 47 a), (1, .fl 47 b), (5, .i IntKind.i64 i)], [], [], [], []⟩
theorem L.eqFileS_eq (a : List TFile) (b : List TFile) : L.eqFileS a b =
  bif (↑a.length : Int) != (↑b.length : Int) then
  some false
 else
 L.eqFileS.l116 a b 0 :=
  (fnA_eq 12 [PV.fl 47 a, PV.fl 47 b] rfl).trans (by kernel_rfl)
theorem L.eqFileS.l116_eq (a : List TFile) (b : List TFile) (i : Int) : L.eqFileS.l116 a b i =
  bif decide (i < (↑a.length : Int)) then
  bif inB i a.length then
   bif inB i b.length then
    (L.eqFile (a.getD i.toNat TFile.z) (b.getD i.toNat TFile.z)).bind fun (r0 : Bool) =>
    bif !r0 then
     some false
    else
    L.eqFileS.l116 a b (IntKind.i64.wrap (i + 1))
   else
   none
  else
  none
 else
 some true :=
  (runA_eq 12 _ _).trans (by kernel_rfl)
theorem L.eqPlace_eq (a : TPlace) (b : TPlace) : L.eqPlace a b =
  (L.eqFileS a.gFiles b.gFiles).bind fun (r0 : Bool) =>
 bif !r0 then
  some false
 else
 some true :=
  (fnA_eq 11 [PV.st (cells 29 a), PV.st (cells 29 b)] rfl).trans (by kernel_rfl)
noncomputable def L.markText.l120 (k : Int) (out : ByteArray) : Option ByteArray := Y.runA 29 (fun ct c => at_ ct [true, true, true, false, false, false] c) ⟨[(0, .i IntKind.i64 k), (3, .s out)], [], [], [], []⟩
theorem L.markText_eq (k : Int) : L.markText k =
  bif decide (k ≤ 0) then
  some ((⟨#[109, 48]⟩ : ByteArray))
 else
 L.markText.l120 k ((⟨#[]⟩ : ByteArray)) :=
  (fnA_eq 29 [PV.i IntKind.i64 k] rfl).trans (by kernel_rfl)
theorem L.markText.l120_eq (k : Int) (out : ByteArray) : L.markText.l120 k out =
  bif decide (k > 0) then
  bif decide ((strOfBytes (List.map (fun (x : Int) ↦ x) [IntKind.u8.wrap (IntKind.i64.wrap (48 + k.tmod 10))])).size + out.size < 2 ^ 62) then
   L.markText.l120 (IntKind.i64.wrap (k.tdiv 10)) (strOfBytes (List.map (fun (x : Int) ↦ x) [IntKind.u8.wrap (IntKind.i64.wrap (48 + k.tmod 10))]) ++ out)
  else
  none
 else
 bif decide (((⟨#[109]⟩ : ByteArray)).size + out.size < 2 ^ 62) then
   some ((⟨#[109]⟩ : ByteArray) ++ out)
  else
  none :=
  (runA_eq 29 _ _).trans (by kernel_rfl)
noncomputable def L.markFileS.l52 (k : Int) (i : Int) (v : List TFile) : Option ((Int × List TFile)) := Y.runB 14 (fun ct c => at_ ct [true, false, true, false, false] c) ⟨[(0, .vo 0), (1, .i IntKind.i64 k), (5, .i IntKind.i64 i)], [], [], [], [.ol 47 v]⟩
theorem L.markFileS_eq (a : List TFile) (k : Int) : L.markFileS a k =
  L.markFileS.l52 k 0 a :=
  (fnW_eq 14 [PV.vo 0, PV.i IntKind.i64 k] [PV.ol 47 a] rfl).trans (by kernel_rfl)
theorem L.markFileS.l52_eq (k : Int) (i : Int) (v : List TFile) : L.markFileS.l52 k i v =
  bif decide (i < (↑v.length : Int)) then
  (L.markText k).bind fun (r0 : ByteArray) =>
  bif inB i v.length then
   (L.markText (IntKind.i64.wrap (k + 1))).bind fun (r1 : ByteArray) =>
   bnd (v.set i.toNat (TFile.mk r0 (v.getD i.toNat TFile.z).gText)) fun (x0 : List TFile) =>
   bif inB i x0.length then
    bnd (x0.set i.toNat (TFile.mk (x0.getD i.toNat TFile.z).gName r1)) fun (x1 : List TFile) =>
    L.markFileS.l52 (IntKind.i64.wrap (IntKind.i64.wrap (k + 1) + 1)) (IntKind.i64.wrap (i + 1)) x1
   else
   none
  else
  none
 else
 some (k, v) :=
  (runB_eq 14 _ _).trans (by kernel_rfl)
theorem L.markPlace_eq (a : List TFile) (k : Int) : L.markPlace a k =
  (L.markFileS a k).bind fun (r0 : (Int × List TFile)) =>
 some (r0.fst, r0.snd) :=
  (fnW_eq 13 [PV.st [PV.vo 0], PV.i IntKind.i64 k] [PV.ol 47 a] rfl).trans (by kernel_rfl)
noncomputable def L.heldFileS.l52 (a : List TFile) (k : Int) (i : Int) : Option Int := Y.runA 30 (fun ct c => at_ ct [true, false, true, false, false] c) ⟨[(0, .fl 47 a), (1, .i IntKind.i64 k), (5, .i IntKind.i64 i)], [], [], [], []⟩
theorem L.heldFileS_eq (a : List TFile) (k : Int) : L.heldFileS a k =
  L.heldFileS.l52 a k 0 :=
  (fnA_eq 30 [PV.fl 47 a, PV.i IntKind.i64 k] rfl).trans (by kernel_rfl)
theorem L.heldFileS.l52_eq (a : List TFile) (k : Int) (i : Int) : L.heldFileS.l52 a k i =
  bif decide (i < (↑a.length : Int)) then
  bif inB i a.length then
   (L.markText k).bind fun (r0 : ByteArray) =>
   bif !bEq (a.getD i.toNat TFile.z).gName r0 then
    some (-1)
   else
   bif inB i a.length then
     (L.markText (IntKind.i64.wrap (k + 1))).bind fun (r1 : ByteArray) =>
     bif !bEq (a.getD i.toNat TFile.z).gText r1 then
      some (-1)
     else
     L.heldFileS.l52 a (IntKind.i64.wrap (IntKind.i64.wrap (k + 1) + 1)) (IntKind.i64.wrap (i + 1))
    else
    none
  else
  none
 else
 some k :=
  (runA_eq 30 _ _).trans (by kernel_rfl)
theorem L.heldPlace_eq (a : TPlace) (k : Int) : L.heldPlace a k =
  (L.heldFileS a.gFiles k).bind fun (r0 : Int) =>
 bif decide (r0 < 0) then
  some (-1)
 else
 some r0 :=
  (fnA_eq 15 [PV.st (cells 29 a), PV.i IntKind.i64 k] rfl).trans (by kernel_rfl)
theorem L.FnExactLay_eq (aP : TPlace) (aFiles : List TFile) : L.FnExactLay aP aFiles =
  (L.szPlace aP 1048576).bind fun (r0 : Int) =>
 bif decide (r0 < 0) then
  some true
 else
 (L.szFileS aFiles r0).bind fun (r1 : Int) =>
  bif decide (r1 < 0) then
   some true
  else
  (L.toPlace aP).bind fun (r2 : TPlace) =>
   (L.toFileS aFiles).bind fun (r3 : List TFile) =>
   (R.Lay r2 r3).bind fun (r4 : (TPlace × Int)) =>
   (L.toPlace aP).bind fun (r5 : TPlace) =>
   (L.toFileS aFiles).bind fun (r6 : List TFile) =>
   (I.Lay r5 r6).bind fun (r7 : (TPlace × Int)) =>
   (L.eqPlace r7.fst r4.fst).bind fun (r8 : Bool) =>
   bif !r8 then
    some false
   else
   bif r7.snd != r4.snd then
     some false
    else
    (L.toPlace aP).bind fun (r9 : TPlace) =>
     (L.eqPlace r5 r9).bind fun (r10 : Bool) =>
     bif !r10 then
      some false
     else
     (L.toFileS aFiles).bind fun (r11 : List TFile) =>
      (L.eqFileS r6 r11).bind fun (r12 : Bool) =>
      bif !r12 then
       some false
      else
      (L.markPlace r5.gFiles 1).bind fun (r13 : (Int × List TFile)) =>
       (L.markFileS r6 r13.fst).bind fun (r14 : (Int × List TFile)) =>
       bif decide (r14.fst < 0) then
        some false
       else
       (L.eqPlace r7.fst r4.fst).bind fun (r15 : Bool) =>
        bif !r15 then
         some false
        else
        bif r7.snd != r4.snd then
          some false
         else
         (L.markPlace r7.fst.gFiles 1).bind fun (r16 : (Int × List TFile)) =>
          (L.heldPlace (TPlace.mk r16.snd) 1).bind fun (r17 : Int) =>
          bif decide (r17 < 0) then
           some false
          else
          bif r17 != r16.fst then
            some false
           else
           (L.toPlace aP).bind fun (r18 : TPlace) =>
            (L.toFileS aFiles).bind fun (r19 : List TFile) =>
            (I.Lay r18 r19).bind fun (r20 : (TPlace × Int)) =>
            (L.eqPlace r20.fst r4.fst).bind fun (r21 : Bool) =>
            bif !r21 then
            some false
            else
            bif r20.snd != r4.snd then
            some false
            else
            (L.heldPlace (TPlace.mk r16.snd) 1).bind fun (r22 : Int) =>
            bif decide (r22 < 0) then
            some false
            else
            bif r22 != r16.fst then
            some false
            else
            some true :=
  (fnA_eq 3 [PV.st (cells 24 aP), PV.fl 51 aFiles] rfl).trans (by kernel_rfl)
end Go.KM.L1
