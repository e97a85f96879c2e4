/- The tables of the law's functions. Conditions: none. -/
import Derived.Test.YtgjcobbngimleaaKmX
import Derived.Test.YtgjcobbngimleaaLTy
import Derived.Lib.Index
import Derived.Lib.ItoaNum
import Derived.Lib.ParseIntB
import Derived.Lib.Fields
import Derived.Lib.Bytealg
import Derived.Lib.Strings
import Derived.KernelRfl
import Derived.Test.YtgjcobbngimleaaProg
namespace Go.KM.L1
open Go Go.KM
open Go.KM.Fam (Dn dflt)
open Go.KM.Enc (cells sz mkE glob gany u8)
set_option autoImplicit false
set_option linter.unusedVariables false
set_option maxRecDepth 100000
def bSet (ps : List PV) : Option (Bool × PV) := match ps with
  | [.ol 27 xs, .st cs] => some (true, .ol 27 xs)
  | _ => none
noncomputable def sg21 : Sig := { fn := Go.Proofs.Try.f21, ct := fun _ => false, lv := fun _ => ([], []), draw := fun _ => none, md := fun _ => .peek, esc := fun _ => false, e := false, pt := [.any, .any], lnd := true, rt := [.int .i64], hide := false, mo := [], nd := fun _ => none, w := false, x := false, xt := fun _ => false }
noncomputable def sg6 : Sig := { fn := Go.Proofs.Try.f6, ct := fun _ => false, lv := fun p => match p with | 122 => ([(0, .no), (1, .no), (5, .no)], []) | _ => ([], []), draw := fun _ => none, md := fun _ => .peek, esc := fun _ => false, e := false, pt := [.fl 51, .any], lnd := true, rt := [.int .i64], hide := false, mo := [], nd := fun _ => none, w := false, x := false, xt := fun _ => false }
noncomputable def sg5 : Sig := { fn := Go.Proofs.Try.f5, ct := fun _ => false, lv := fun _ => ([], []), draw := fun _ => none, md := fun _ => .peek, esc := fun _ => false, e := false, pt := [.st, .any], lnd := true, rt := [.int .i64], hide := false, mo := [], nd := fun _ => none, w := false, x := false, xt := fun _ => false }
noncomputable def sg25 : Sig := { fn := Go.Proofs.Try.f25, ct := fun _ => false, lv := fun _ => ([], []), draw := fun _ => none, md := fun _ => .peek, esc := fun _ => false, e := false, pt := [.any], lnd := true, rt := [.st 47], hide := false, mo := [], nd := fun _ => none, w := false, x := false, xt := fun _ => false }
noncomputable def sg9 : Sig := { fn := Go.Proofs.Try.f9, ct := fun _ => false, lv := fun p => match p with | 58 => ([(0, .no), (3, .no), (4, .no)], []) | _ => ([], []), draw := fun _ => none, md := fun p => match p with | 22 => .take | _ => .peek, esc := fun _ => false, e := false, pt := [.fl 51], lnd := true, rt := [.ol 47], hide := false, mo := [], nd := fun _ => none, w := false, x := false, xt := fun _ => false }
noncomputable def sg8 : Sig := { fn := Go.Proofs.Try.f8, ct := fun _ => false, lv := fun _ => ([], []), draw := fun _ => none, md := fun p => match p with | 8 => .take | _ => .peek, esc := fun _ => false, e := false, pt := [.st], lnd := true, rt := [.so 29], hide := false, mo := [], nd := fun _ => none, w := false, x := false, xt := fun _ => false }
noncomputable def sg44 : Sig := { fn := Go.Proofs.Try.f44, ct := fun _ => false, lv := fun p => match p with | 58 => ([(0, .no), (3, .no)], []) | _ => ([], []), draw := fun _ => none, md := fun _ => .peek, esc := fun _ => false, e := false, pt := [.any], lnd := true, rt := [.bool], hide := false, mo := [], nd := fun _ => none, w := false, x := false, xt := fun _ => false }
noncomputable def sg23 : Sig := { fn := Go.Proofs.Try.f23, ct := fun _ => false, lv := fun _ => ([], []), draw := fun _ => none, md := fun _ => .peek, esc := fun _ => false, e := false, pt := [.any], lnd := true, rt := [.bool], hide := false, mo := [], nd := fun _ => none, w := false, x := false, xt := fun _ => false }
noncomputable def sg43 : Sig := { fn := Go.Proofs.Try.f43, ct := fun _ => false, lv := fun p => match p with | 58 => ([(0, .no), (5, .no)], []) | _ => ([], []), draw := fun p => match p with | 6 => some 0 | _ => none, md := fun _ => .peek, esc := fun _ => false, e := false, pt := [.fl 47, .any], lnd := true, rt := [.bool], hide := false, mo := [], nd := fun _ => none, w := false, x := false, xt := fun _ => false }
noncomputable def sg22 : Sig := { fn := Go.Proofs.Try.f22, ct := fun _ => false, lv := fun _ => ([], []), draw := fun _ => none, md := fun _ => .peek, esc := fun _ => false, e := false, pt := [.st], lnd := true, rt := [.bool], hide := false, mo := [], nd := fun _ => none, w := false, x := false, xt := fun _ => false }
noncomputable def sg24 : Sig := { fn := Go.Proofs.Try.f24, ct := fun _ => false, lv := fun p => match p with | 122 => ([(0, .no), (1, .no), (2, .no), (7, .ol 47), (8, .no), (9, .no)], []) | _ => ([], []), draw := fun _ => none, md := fun p => match p with | 28 => .take | 41 => .take | 50 => .take | 56 => .take | _ => .peek, esc := fun _ => false, e := false, pt := [.fl 47, .any, .any], lnd := true, rt := [.ol 47], hide := false, mo := [], nd := fun _ => none, w := false, x := false, xt := fun _ => false }
noncomputable def sg7 : Sig := { fn := Go.Proofs.Try.f7, ct := fun _ => false, lv := fun p => match p with | 122 => ([(1, .no), (4, .no), (6, .ol 47), (7, .no)], [(4, [.fl 47])]) | _ => ([], []), draw := fun p => match p with | 9 => some 0 | _ => none, md := fun p => match p with | 60 => .take | _ => .peek, esc := fun _ => false, e := false, pt := [.st, .fl 47], lnd := true, rt := [.so 29, .int .i64], hide := false, mo := [], nd := fun _ => none, w := false, x := false, xt := fun _ => false }
noncomputable def sg45 : Sig := { fn := Go.Proofs.Try.f45, ct := fun _ => false, lv := fun p => match p with | 58 => ([(0, .no), (3, .no)], []) | _ => ([], []), draw := fun _ => none, md := fun _ => .peek, esc := fun _ => false, e := false, pt := [.any], lnd := true, rt := [.bool], hide := false, mo := [], nd := fun _ => none, w := false, x := false, xt := fun _ => false }
noncomputable def sg26 : Sig := { fn := Go.Proofs.Try.f26, ct := fun _ => false, lv := fun _ => ([], []), draw := fun _ => none, md := fun _ => .peek, esc := fun _ => false, e := false, pt := [.any], lnd := true, rt := [.bool], hide := false, mo := [], nd := fun _ => none, w := false, x := false, xt := fun _ => false }
noncomputable def sg38 : Sig := { fn := Go.Proofs.Try.f38, ct := fun _ => false, lv := fun p => match p with | 58 => ([(0, .no), (11, .no), (12, .no), (13, .no)], []) | _ => ([], []), draw := fun p => match p with | 6 => some 0 | _ => none, md := fun _ => .peek, esc := fun _ => false, e := false, pt := [.fl 47, .any], lnd := true, rt := [.bool], hide := false, mo := [], nd := fun _ => none, w := false, x := false, xt := fun _ => false }
noncomputable def sg18 : Sig := { fn := Go.Proofs.Try.f18, ct := fun _ => false, lv := fun _ => ([], []), draw := fun _ => none, md := fun _ => .peek, esc := fun _ => false, e := false, pt := [.st], lnd := true, rt := [.bool], hide := false, mo := [], nd := fun _ => none, w := false, x := false, xt := fun _ => false }
noncomputable def sg47 : Sig := { fn := Go.Proofs.Try.f47, ct := fun _ => false, lv := fun _ => ([], []), draw := fun p => match p with | 1 => some 0 | _ => none, md := fun _ => .peek, esc := fun _ => false, e := true, pt := [.any], lnd := false, rt := [.bool], hide := false, mo := [[.ol 47], [.str, .str]], nd := fun _ => none, w := false, x := false, xt := fun _ => false }
noncomputable def sg46 : Sig := { fn := Go.Proofs.Try.f46, ct := fun _ => false, lv := fun p => match p with | 28 => ([(1, .no), (5, .no), (6, .no)], []) | _ => ([], []), draw := fun _ => none, md := fun _ => .peek, esc := fun _ => false, e := true, pt := [.any, .any], lnd := false, rt := [.int .i64], hide := false, mo := [[.ol 47], [.str, .str]], nd := fun _ => none, w := false, x := false, xt := fun _ => false }
noncomputable def sg27 : Sig := { fn := Go.Proofs.Try.f27, ct := fun _ => false, lv := fun _ => ([], []), draw := fun p => match p with | 2 => some 0 | 6 => some 0 | _ => none, md := fun p => match p with | 30 => .take | 31 => .take | 38 => .frz | 47 => .take | _ => .peek, esc := fun p => match p with | 2 => true | 3 => true | _ => false, e := true, pt := [.ol 47, .any], lnd := false, rt := [.ol 47], hide := true, mo := [], nd := fun _ => none, w := false, x := false, xt := fun _ => false }
noncomputable def sg10 : Sig := { fn := Go.Proofs.Try.f10, ct := fun _ => false, lv := fun p => match p with | 122 => ([(4, .no), (6, .ol 47), (21, .no), (22, .no), (23, .no)], [(4, [.fl 47])]) | _ => ([], []), draw := fun _ => none, md := fun p => match p with | 38 => .take | 46 => .take | _ => .peek, esc := fun _ => false, e := false, pt := [.st, .fl 47], lnd := true, rt := [.so 29, .int .i64], hide := false, mo := [], nd := fun _ => none, w := false, x := false, xt := fun _ => false }
noncomputable def sg28 : Sig := { fn := Go.Proofs.Try.f28, ct := fun _ => false, lv := fun _ => ([], []), draw := fun _ => none, md := fun _ => .peek, esc := fun _ => false, e := false, pt := [.any, .any], lnd := true, rt := [.bool], hide := false, mo := [], nd := fun _ => none, w := false, x := false, xt := fun _ => false }
noncomputable def sg12 : Sig := { fn := Go.Proofs.Try.f12, ct := fun _ => false, lv := fun p => match p with | 58 => ([(0, .no), (1, .no), (5, .no)], []) | _ => ([], []), draw := fun p => match p with | 6 => some 0 | _ => none, md := fun _ => .peek, esc := fun _ => false, e := false, pt := [.fl 47, .fl 47], lnd := true, rt := [.bool], hide := false, mo := [], nd := fun _ => none, w := false, x := false, xt := fun _ => false }
noncomputable def sg11 : Sig := { fn := Go.Proofs.Try.f11, ct := fun _ => false, lv := fun _ => ([], []), draw := fun _ => none, md := fun _ => .peek, esc := fun _ => false, e := false, pt := [.st, .st], lnd := true, rt := [.bool], hide := false, mo := [], nd := fun _ => none, w := false, x := false, xt := fun _ => false }
noncomputable def sg29 : Sig := { fn := Go.Proofs.Try.f29, ct := fun _ => false, lv := fun p => match p with | 60 => ([(0, .no), (3, .no)], []) | _ => ([], []), draw := fun _ => none, md := fun _ => .peek, esc := fun _ => false, e := false, pt := [.any], lnd := true, rt := [.str], hide := false, mo := [], nd := fun _ => none, w := false, x := false, xt := fun _ => false }
noncomputable def sg14 : Sig := { fn := Go.Proofs.Try.f14, ct := fun _ => false, lv := fun p => match p with | 26 => ([(0, .no), (1, .no), (5, .no)], []) | _ => ([], []), draw := fun _ => none, md := fun _ => .peek, esc := fun _ => false, e := false, pt := [.any, .any], lnd := false, rt := [.int .i64], hide := false, mo := [[.ol 47]], nd := fun _ => none, w := true, x := false, xt := fun _ => false }
noncomputable def sg13 : Sig := { fn := Go.Proofs.Try.f13, ct := fun _ => false, lv := fun _ => ([], []), draw := fun _ => none, md := fun _ => .peek, esc := fun _ => false, e := false, pt := [.any, .any], lnd := false, rt := [.int .i64], hide := false, mo := [[.ol 47]], nd := fun _ => none, w := true, x := false, xt := fun _ => false }
noncomputable def sg30 : Sig := { fn := Go.Proofs.Try.f30, ct := fun _ => false, lv := fun p => match p with | 26 => ([(0, .no), (1, .no), (5, .no)], []) | _ => ([], []), draw := fun p => match p with | 4 => some 7 | 7 => some 7 | _ => none, md := fun _ => .peek, esc := fun _ => false, e := false, pt := [.fl 47, .any], lnd := true, rt := [.int .i64], hide := false, mo := [], nd := fun _ => none, w := false, x := false, xt := fun _ => false }
noncomputable def sg15 : Sig := { fn := Go.Proofs.Try.f15, ct := fun _ => false, lv := fun _ => ([], []), draw := fun _ => none, md := fun _ => .peek, esc := fun _ => false, e := false, pt := [.st, .any], lnd := true, rt := [.int .i64], hide := false, mo := [], nd := fun _ => none, w := false, x := false, xt := fun _ => false }
noncomputable def sg3 : Sig := { fn := Go.Proofs.Try.f3, ct := fun _ => false, lv := fun _ => ([], []), draw := fun p => match p with | 14 => some 3 | _ => none, md := fun p => match p with | 27 => .take | 39 => .take | 67 => .take | 94 => .take | _ => .peek, esc := fun _ => false, e := false, pt := [.st, .fl 51], lnd := true, rt := [.bool], hide := false, mo := [], nd := fun _ => none, w := false, x := true, xt := fun p => match p with | 33 => true | 36 => true | 38 => true | 43 => true | 100 => true | _ => false }
noncomputable def sgs : List (Nat × Sig) := [(21, sg21), (6, sg6), (5, sg5), (25, sg25), (9, sg9), (8, sg8), (44, sg44), (23, sg23), (43, sg43), (22, sg22), (24, sg24), (7, sg7), (45, sg45), (26, sg26), (38, sg38), (18, sg18), (47, sg47), (46, sg46), (27, sg27), (10, sg10), (28, sg28), (12, sg12), (11, sg11), (29, sg29), (14, sg14), (13, sg13), (30, sg30), (15, sg15), (3, sg3)]
noncomputable def Y : Sys := ⟨tabOf rows, sgs, []⟩
noncomputable def L.szFile (a : TFile) (left : Int) : Option (Int) := Y.H.A 21 [.st (cells 51 a), .i .i64 left]
noncomputable def L.szFileS (a : List TFile) (left : Int) : Option (Int) := Y.H.A 6 [.fl 51 a, .i .i64 left]
noncomputable def L.szPlace (a : TPlace) (left : Int) : Option (Int) := Y.H.A 5 [.st (cells 24 a), .i .i64 left]
noncomputable def L.toFile (a : TFile) : Option (TFile) := Y.H.A 25 [.st (cells 51 a)]
noncomputable def L.toFileS (a : List TFile) : Option (List TFile) := Y.H.A 9 [.fl 51 a]
noncomputable def L.toPlace (a : TPlace) : Option (TPlace) := Y.H.A 8 [.st (cells 24 a)]
noncomputable def R.l6PrefixOk (s : ByteArray) : Option (Bool) := Y.H.A 44 [.s s]
noncomputable def R.l6PathOk (s : ByteArray) : Option (Bool) := Y.H.A 23 [.s s]
noncomputable def R.l9FilesOk (files : List TFile) (most : Int) : Option (Bool) := Y.H.A 43 [.fl 47 files, .i .i64 most]
noncomputable def R.ValidPlace (p : TPlace) : Option (Bool) := Y.H.A 22 [.st (cells 29 p)]
noncomputable def R.l6Put (files : List TFile) (name : ByteArray) (text : ByteArray) : Option (List TFile) := Y.H.A 24 [.fl 47 files, .s name, .s text]
noncomputable def R.Lay (p : TPlace) (files : List TFile) : Option (TPlace × Int) := Y.H.A 7 [.st (cells 29 p), .fl 47 files]
noncomputable def I.pathText (s : ByteArray) : Option (Bool) := Y.H.A 45 [.s s]
noncomputable def I.fileName (s : ByteArray) : Option (Bool) := Y.H.A 26 [.s s]
noncomputable def I.filesOk (files : List TFile) (most : Int) : Option (Bool) := Y.H.A 38 [.fl 47 files, .i .i64 most]
noncomputable def I.ValidPlace (p : TPlace) : Option (Bool) := Y.H.A 18 [.st (cells 29 p)]
noncomputable def I.setFile_1 (o0 : List TFile) (o1 : ByteArray × ByteArray) (k : Int) : Option (Bool × List TFile × ByteArray × ByteArray) := Y.H.B 47 [.i .i64 k, .ad (.obj 0) 0, .ad (.obj 1) 0] [[.ol 47 (o0)], [.s (o1.1), .s (o1.2)]]
noncomputable def G.sort_Search_c47 (o0 : List TFile) (o1 : ByteArray × ByteArray) (n : Int) : Option (Int × List TFile × ByteArray × ByteArray) := Y.H.B 46 [.i .i64 n, .clo 47 [(0, 0), (1, 0)]] [[.ol 47 (o0)], [.s (o1.1), .s (o1.2)]]
noncomputable def I.setFile (files : List TFile) (f : TFile) : Option (List TFile) := Y.H.A 27 [.ol 47 files, .st (cells 47 f)]
noncomputable def I.Lay (p : TPlace) (files : List TFile) : Option (TPlace × Int) := Y.H.A 10 [.st (cells 29 p), .fl 47 files]
noncomputable def L.eqFile (a : TFile) (b : TFile) : Option (Bool) := Y.H.A 28 [.st (cells 47 a), .st (cells 47 b)]
noncomputable def L.eqFileS (a : List TFile) (b : List TFile) : Option (Bool) := Y.H.A 12 [.fl 47 a, .fl 47 b]
noncomputable def L.eqPlace (a : TPlace) (b : TPlace) : Option (Bool) := Y.H.A 11 [.st (cells 29 a), .st (cells 29 b)]
noncomputable def L.markText (k : Int) : Option (ByteArray) := Y.H.A 29 [.i .i64 k]
noncomputable def L.markFileS (a : List TFile) (k : Int) : Option (Int × List TFile) := Y.H.B 14 [.vo 0, .i .i64 k] [[.ol 47 a]]
noncomputable def L.markPlace (a : List TFile) (k : Int) : Option (Int × List TFile) := Y.H.B 13 [.st [.vo 0], .i .i64 k] [[.ol 47 a]]
noncomputable def L.heldFileS (a : List TFile) (k : Int) : Option (Int) := Y.H.A 30 [.fl 47 a, .i .i64 k]
noncomputable def L.heldPlace (a : TPlace) (k : Int) : Option (Int) := Y.H.A 15 [.st (cells 29 a), .i .i64 k]
noncomputable def L.FnExactLay (aP : TPlace) (aFiles : List TFile) : Option (Bool) := Y.H.A 3 [.st (cells 24 aP), .fl 51 aFiles]
end Go.KM.L1
