/- The tables of the law's functions. Conditions: none. -/
import Derived.Test.YtojkcmefnmcpiaaGreatDoorKmX
import Derived.Test.YtojkcmefnmcpiaaGreatDoorMTy
import Derived.Lib.Fields
import Derived.Lib.Strings
import Derived.KernelRfl
import Derived.Test.YtojkcmefnmcpiaaGreatDoorProg
namespace Go.KM.M1
open Go Go.KM
open Go.KM.Fam (Dn dflt)
open Go.KM.Enc (cells sz mkE glob gany u8)
set_option autoImplicit false
set_option linter.unusedVariables false
set_option maxRecDepth 100000
def fieldsOf (x : ByteArray) : List ByteArray := (Lib.fields x.data.toList).map fun l => ⟨l.toArray⟩
def ascii (x : ByteArray) : Bool := x.data.toList.all fun b => decide (b.toNat < 128)
def bFields (ps : List PV) : Option (Bool × PV) := match ps with
  | [.s x] => some (decide (x.size < 4294967281) && ascii x, .fl 9 (fieldsOf x))
  | _ => none
noncomputable def S0 : Sig := { fn := Go.Proofs.Tryz.f94, pt := [], rt := [], ct := fun _ => false, lv := fun _ => ([], []), draw := fun _ => none, md := fun _ => .peek, esc := fun _ => false, e := false, lnd := true, hide := false, mo := [], nd := fun _ => none, w := false, x := false, xt := fun _ => false, am := fun _ => false, sub := false }
noncomputable def sg94 : Sig := { S0 with fn := Go.Proofs.Tryz.f94, pt := [.fl 3, .any], rt := [.int .i64] }
noncomputable def sg113 : Sig := { S0 with fn := Go.Proofs.Tryz.f113, pt := [.any, .any], rt := [.int .i64] }
noncomputable def sg95 : Sig := { S0 with fn := Go.Proofs.Tryz.f95, lv := fun p => match p with | 122 => ([(0, .no), (1, .no), (5, .no)], []) | _ => ([], []), pt := [.fl 162, .any], rt := [.int .i64] }
noncomputable def sg69 : Sig := { S0 with fn := Go.Proofs.Tryz.f69, pt := [.st, .any], rt := [.int .i64] }
noncomputable def sg53 : Sig := { S0 with fn := Go.Proofs.Tryz.f53, lv := fun p => match p with | 122 => ([(0, .no), (1, .no), (5, .no)], []) | _ => ([], []), pt := [.fl 124, .any], rt := [.int .i64] }
noncomputable def sg34 : Sig := { S0 with fn := Go.Proofs.Tryz.f34, pt := [.st, .any], rt := [.int .i64] }
noncomputable def sg9 : Sig := { S0 with fn := Go.Proofs.Tryz.f9, lv := fun p => match p with | 122 => ([(0, .no), (1, .no), (5, .no)], []) | _ => ([], []), pt := [.fl 66, .any], rt := [.int .i64] }
noncomputable def sg10 : Sig := { S0 with fn := Go.Proofs.Tryz.f10, lv := fun p => match p with | 122 => ([(0, .no), (1, .no), (5, .no)], []) | _ => ([], []), pt := [.fl 9, .any], rt := [.int .i64] }
noncomputable def sg70 : Sig := { S0 with fn := Go.Proofs.Tryz.f70, pt := [.any, .any], rt := [.int .i64] }
noncomputable def sg54 : Sig := { S0 with fn := Go.Proofs.Tryz.f54, lv := fun p => match p with | 122 => ([(0, .no), (1, .no), (5, .no)], []) | _ => ([], []), pt := [.fl 126, .any], rt := [.int .i64] }
noncomputable def sg35 : Sig := { S0 with fn := Go.Proofs.Tryz.f35, pt := [.st, .any], rt := [.int .i64] }
noncomputable def sg11 : Sig := { S0 with fn := Go.Proofs.Tryz.f11, lv := fun p => match p with | 122 => ([(0, .no), (1, .no), (5, .no)], []) | _ => ([], []), pt := [.fl 70, .any], rt := [.int .i64] }
noncomputable def sg36 : Sig := { S0 with fn := Go.Proofs.Tryz.f36, pt := [.any, .any], rt := [.int .i64] }
noncomputable def sg12 : Sig := { S0 with fn := Go.Proofs.Tryz.f12, lv := fun p => match p with | 122 => ([(0, .no), (1, .no), (5, .no)], []) | _ => ([], []), pt := [.fl 72, .any], rt := [.int .i64] }
noncomputable def sg4 : Sig := { S0 with fn := Go.Proofs.Tryz.f4, pt := [.st, .any], rt := [.int .i64] }
noncomputable def sg105 : Sig := { S0 with fn := Go.Proofs.Tryz.f105, lv := fun p => match p with | 58 => ([(0, .no), (3, .no), (4, .no)], []) | _ => ([], []), md := fun p => match p with | 21 => .take | _ => .peek, pt := [.fl 3], lnd := false, rt := [.ol 3] }
noncomputable def sg117 : Sig := { S0 with fn := Go.Proofs.Tryz.f117, pt := [.any], rt := [.st 98] }
noncomputable def sg106 : Sig := { S0 with fn := Go.Proofs.Tryz.f106, lv := fun p => match p with | 58 => ([(0, .no), (3, .no), (4, .no)], []) | _ => ([], []), md := fun p => match p with | 22 => .take | _ => .peek, pt := [.fl 162], lnd := false, rt := [.ol 98] }
noncomputable def sg80 : Sig := { S0 with fn := Go.Proofs.Tryz.f80, md := fun p => match p with | 21 => .frz | _ => .peek, pt := [.st], lnd := false, rt := [.st 89] }
noncomputable def sg60 : Sig := { S0 with fn := Go.Proofs.Tryz.f60, lv := fun p => match p with | 58 => ([(0, .no), (3, .no), (4, .no)], []) | _ => ([], []), md := fun p => match p with | 22 => .take | _ => .peek, pt := [.fl 124], lnd := false, rt := [.ol 89] }
noncomputable def sg42 : Sig := { S0 with fn := Go.Proofs.Tryz.f42, md := fun p => match p with | 8 => .frz | _ => .peek, pt := [.st], lnd := false, rt := [.st 53] }
noncomputable def sg21 : Sig := { S0 with fn := Go.Proofs.Tryz.f21, lv := fun p => match p with | 58 => ([(0, .no), (3, .no), (4, .no)], []) | _ => ([], []), md := fun p => match p with | 22 => .take | _ => .peek, pt := [.fl 66], lnd := false, rt := [.ol 53] }
noncomputable def sg22 : Sig := { S0 with fn := Go.Proofs.Tryz.f22, lv := fun p => match p with | 58 => ([(0, .no), (3, .no), (4, .no)], []) | _ => ([], []), md := fun p => match p with | 21 => .take | _ => .peek, pt := [.fl 9], lnd := false, rt := [.ol 9] }
noncomputable def sg81 : Sig := { S0 with fn := Go.Proofs.Tryz.f81, pt := [.any], rt := [.st 108] }
noncomputable def sg61 : Sig := { S0 with fn := Go.Proofs.Tryz.f61, lv := fun p => match p with | 58 => ([(0, .no), (3, .no), (4, .no)], []) | _ => ([], []), md := fun p => match p with | 22 => .take | _ => .peek, pt := [.fl 126], lnd := false, rt := [.ol 108] }
noncomputable def sg43 : Sig := { S0 with fn := Go.Proofs.Tryz.f43, md := fun p => match p with | 21 => .frz | _ => .peek, pt := [.st], lnd := false, rt := [.st 78] }
noncomputable def sg23 : Sig := { S0 with fn := Go.Proofs.Tryz.f23, lv := fun p => match p with | 58 => ([(0, .no), (3, .no), (4, .no)], []) | _ => ([], []), md := fun p => match p with | 22 => .take | _ => .peek, pt := [.fl 70], lnd := false, rt := [.ol 78] }
noncomputable def sg44 : Sig := { S0 with fn := Go.Proofs.Tryz.f44, pt := [.any], rt := [.st 49] }
noncomputable def sg24 : Sig := { S0 with fn := Go.Proofs.Tryz.f24, lv := fun p => match p with | 58 => ([(0, .no), (3, .no), (4, .no)], []) | _ => ([], []), md := fun p => match p with | 22 => .take | _ => .peek, pt := [.fl 72], lnd := false, rt := [.ol 49] }
noncomputable def sg6 : Sig := { S0 with fn := Go.Proofs.Tryz.f6, md := fun p => match p with | 52 => .frz | _ => .peek, pt := [.st], lnd := false, rt := [.st 34] }
noncomputable def sg38 : Sig := { S0 with fn := Go.Proofs.Tryz.f38, lv := fun p => match p with | 58 => ([(0, .no), (3, .no)], []) | _ => ([], []), pt := [.any], rt := [.bool] }
noncomputable def sg37 : Sig := { S0 with fn := Go.Proofs.Tryz.f37, pt := [.any], rt := [.bool] }
noncomputable def sg13 : Sig := { S0 with fn := Go.Proofs.Tryz.f13, lv := fun p => match p with | 58 => ([(0, .no), (5, .no)], []) | _ => ([], []), draw := fun p => match p with | 6 => some 0 | _ => none, pt := [.fl 49, .any], rt := [.bool] }
noncomputable def sg14 : Sig := { S0 with fn := Go.Proofs.Tryz.f14, lv := fun p => match p with | 58 => ([(0, .no), (5, .no)], []) | _ => ([], []), pt := [.fl 9, .any], rt := [.bool] }
noncomputable def sg15 : Sig := { S0 with fn := Go.Proofs.Tryz.f15, pt := [.any, .any, .any], rt := [.bool] }
noncomputable def sg16 : Sig := { S0 with fn := Go.Proofs.Tryz.f16, pt := [.st], rt := [.bool] }
noncomputable def sg17 : Sig := { S0 with fn := Go.Proofs.Tryz.f17, lv := fun p => match p with | 58 => ([(1, .no), (3, .no)], [(1, [.no, .fl 9])]) | _ => ([], []), draw := fun p => match p with | 6 => some 0 | _ => none, pt := [.st], rt := [.bool] }
noncomputable def sg18 : Sig := { S0 with fn := Go.Proofs.Tryz.f18, pt := [.st], rt := [.bool] }
noncomputable def sg114 : Sig := { S0 with fn := Go.Proofs.Tryz.f114, pt := [.any], rt := [.bool] }
noncomputable def sg128 : Sig := { S0 with fn := Go.Proofs.Tryz.f128, pt := [.any], rt := [.str] }
noncomputable def sg122 : Sig := { S0 with fn := Go.Proofs.Tryz.f122, lv := fun p => match p with | 26 => ([(0, .no), (3, .no)], []) | _ => ([], []), pt := [.any], rt := [.int .i64] }
noncomputable def sg101 : Sig := { S0 with fn := Go.Proofs.Tryz.f101, pt := [.any], rt := [.str, .int .i64] }
noncomputable def sg123 : Sig := { S0 with fn := Go.Proofs.Tryz.f123, pt := [], lnd := false, rt := [.ol 9] }
noncomputable def sg115 : Sig := { S0 with fn := Go.Proofs.Tryz.f115, lv := fun p => match p with | 250 => ([(0, .no), (6, .no), (7, .no)], []) | 58 => ([(0, .no), (3, .no)], []) | _ => ([], []), md := fun p => match p with | 6 => .frz | 15 => .take | _ => .peek, pt := [.any], rt := [.bool] }
noncomputable def sg124 : Sig := { S0 with fn := Go.Proofs.Tryz.f124, pt := [.any], rt := [.bool] }
noncomputable def sg116 : Sig := { S0 with fn := Go.Proofs.Tryz.f116, pt := [.any], rt := [.bool] }
noncomputable def sg96 : Sig := { S0 with fn := Go.Proofs.Tryz.f96, lv := fun p => match p with | 58 => ([(0, .no), (3, .no)], []) | _ => ([], []), pt := [.any], rt := [.bool] }
noncomputable def sg71 : Sig := { S0 with fn := Go.Proofs.Tryz.f71, lv := fun p => match p with | 250 => ([(1, .no), (2, .no), (5, .no), (7, .no)], [(2, [.fl 89]), (5, [.no, .fl 3, .no, .no, .fl 98])]) | 122 => ([(1, .no), (2, .no), (5, .no), (6, .no)], [(2, [.fl 89]), (5, [.no, .fl 3, .no, .no, .fl 98])]) | _ => ([], []), draw := fun p => match p with | 12 => some 0 | _ => none, md := fun p => match p with | 12 => .frz | _ => .peek, pt := [.st, .any], rt := [.bool] }
noncomputable def sg97 : Sig := { S0 with fn := Go.Proofs.Tryz.f97, pt := [.any], rt := [.bool] }
noncomputable def sg76 : Sig := { S0 with fn := Go.Proofs.Tryz.f76, pt := [.any], rt := [.bool] }
noncomputable def sg103 : Sig := { S0 with fn := Go.Proofs.Tryz.f103, ct := fun p => match p with | 105 => true | 429 => true | _ => false, lv := fun p => match p with | 105 => ([(3, .no), (4, .no)], []) | 429 => ([(3, .no), (7, .no)], []) | _ => ([], []), pt := [.any], rt := [.int .i64] }
noncomputable def sg104 : Sig := { S0 with fn := Go.Proofs.Tryz.f104, pt := [.any], rt := [.bool] }
noncomputable def sg77 : Sig := { S0 with fn := Go.Proofs.Tryz.f77, pt := [.any, .any], rt := [.int .i64] }
noncomputable def sg58 : Sig := { S0 with fn := Go.Proofs.Tryz.f58, draw := fun p => match p with | 6 => some 17 | _ => none, pt := [.any], rt := [.bool] }
noncomputable def sg72 : Sig := { S0 with fn := Go.Proofs.Tryz.f72, ct := fun p => match p with | 1001 => true | 4112381 => true | _ => false, lv := fun p => match p with | 1001 => ([(3, .no), (4, .no), (5, .no), (42, .no), (43, .no)], [(3, [.fl 89]), (4, [.no, .fl 3, .no, .no, .fl 98]), (5, [])]) | 4112381 => ([(4, .no), (5, .no), (42, .no), (81, .no)], [(4, [.no, .fl 3, .no, .no, .fl 98]), (5, [])]) | _ => ([], []), pt := [.st, .st, .any], rt := [.bool] }
noncomputable def sg40 : Sig := { S0 with fn := Go.Proofs.Tryz.f40, lv := fun p => match p with | 26 => ([(1, .no), (3, .no)], [(1, [.fl 89])]) | _ => ([], []), pt := [.st], rt := [.int .i64] }
noncomputable def sg55 : Sig := { S0 with fn := Go.Proofs.Tryz.f55, lv := fun p => match p with | 7826 => ([(1, .no), (6, .no), (7, .no)], [(1, [.fl 89])]) | 122 => ([(1, .no), (6, .no)], [(1, [.fl 89])]) | 58 => ([(1, .no), (5, .no)], [(1, [.fl 89])]) | _ => ([], []), draw := fun p => match p with | 14 => some 0 | _ => none, pt := [.st], rt := [.int .i64, .int .i64, .int .i64] }
noncomputable def sg99 : Sig := { S0 with fn := Go.Proofs.Tryz.f99, pt := [.any, .any], rt := [.int .i64] }
noncomputable def sg100 : Sig := { S0 with fn := Go.Proofs.Tryz.f100, ct := fun p => match p with | 233 => true | 941 => true | 3773 => true | _ => false, lv := fun p => match p with | 233 => ([(1, .no), (14, .no), (15, .no)], []) | 941 => ([(1, .no), (14, .no), (21, .no)], []) | 3773 => ([(1, .no), (14, .no), (24, .no)], []) | _ => ([], []), pt := [.any, .any, .any], rt := [.int .i64] }
noncomputable def sg78 : Sig := { S0 with fn := Go.Proofs.Tryz.f78, ct := fun p => match p with | 105 => true | 27645 => true | _ => false, lv := fun p => match p with | 105 => ([(4, .no), (5, .no)], []) | 27645 => ([(4, .no), (18, .no)], []) | _ => ([], []), pt := [.any], lnd := false, rt := [.ol 3, .int .i64] }
noncomputable def sg102 : Sig := { S0 with fn := Go.Proofs.Tryz.f102, lv := fun p => match p with | 122 => ([(1, .no), (5, .no), (6, .no), (7, .no)], []) | _ => ([], []), draw := fun p => match p with | 7 => some 0 | _ => none, md := fun p => match p with | 5 => .frz | 8 => .take | _ => .peek, pt := [.any, .fl 3], rt := [.int .i64] }
noncomputable def sg75 : Sig := { S0 with fn := Go.Proofs.Tryz.f75, ct := fun p => match p with | 125 => true | 253 => true | 65213 => true | 4273995773 => true | _ => false, lv := fun p => match p with | 4273995706 => ([(7, .no), (11, .no), (19, .no), (20, .no), (21, .no)], [(7, [.no, .fl 3, .fl 3]), (19, [.no, .fl 3, .no, .no, .fl 98])]) | 125 => ([(4, .no), (5, .no), (6, .no), (7, .no), (11, .no), (12, .no), (13, .no)], [(4, [.fl 89]), (5, [.no, .fl 3, .no, .no, .fl 98]), (6, []), (7, [.no, .fl 3, .fl 3])]) | 253 => ([(4, .no), (5, .no), (6, .no), (7, .no), (11, .no), (12, .no), (13, .no)], [(4, [.fl 89]), (5, [.no, .fl 3, .no, .no, .fl 98]), (6, []), (7, [.no, .fl 3, .fl 3])]) | 65213 => ([(4, .no), (5, .no), (6, .no), (7, .no), (11, .no), (12, .no), (13, .no), (42, .no), (64, .no)], [(4, [.fl 89]), (5, [.no, .fl 3, .no, .no, .fl 98]), (6, []), (7, [.no, .fl 3, .fl 3])]) | 4273995773 => ([(12, .no), (13, .no), (42, .no), (192, .no)], []) | _ => ([], []), draw := fun p => match p with | 10 => some 0 | 12 => some 16 | 23 => some 6 | 28 => some 0 | 38 => some 0 | 42 => some 0 | 46 => some 18 | _ => none, md := fun p => match p with | 100 => .take | 131 => .frz | _ => .peek, pt := [.st, .st, .any, .st], lnd := false, rt := [.int .i64, .ol 3, .bool] }
noncomputable def sg73 : Sig := { S0 with fn := Go.Proofs.Tryz.f73, ct := fun p => match p with | 105 => true | _ => false, lv := fun p => match p with | 105 => ([(1, .no), (2, .no), (6, .no), (7, .no)], [(2, [])]) | _ => ([], []), pt := [.any, .any], lnd := false, rt := [.ol 3] }
noncomputable def sg57 : Sig := { S0 with fn := Go.Proofs.Tryz.f57, lv := fun p => match p with | 2042 => ([(5, .no), (7, .no), (8, .no), (9, .no), (10, .no), (11, .no), (12, .no), (14, .no), (15, .no)], [(5, [.no, .fl 3, .no, .no, .fl 98]), (7, [.no, .fl 3, .fl 3]), (8, [.no, .fl 3, .fl 3]), (9, []), (10, [.no, .fl 3, .fl 3])]) | _ => ([], []), draw := fun p => match p with | 12 => some 0 | 19 => some 0 | _ => none, md := fun p => match p with | 12 => .frz | 14 => .frz | 26 => .frz | 27 => .take | 45 => .frz | 63 => .frz | 86 => .frz | 103 => .frz | _ => .peek, pt := [.st, .st, .any, .st], lnd := false, rt := [.st 96] }
noncomputable def sg98 : Sig := { S0 with fn := Go.Proofs.Tryz.f98, lv := fun p => match p with | 58 => ([(0, .no), (1, .no), (5, .no)], []) | _ => ([], []), draw := fun p => match p with | 6 => some 0 | _ => none, pt := [.fl 3, .fl 3], rt := [.bool] }
noncomputable def sg74 : Sig := { S0 with fn := Go.Proofs.Tryz.f74, lv := fun p => match p with | 1018 => ([(2, .no), (3, .no), (4, .no), (6, .no), (7, .no), (8, .no)], [(2, [.no, .fl 3, .fl 3]), (3, [.no, .fl 3, .fl 3]), (4, [.no, .fl 3, .fl 3]), (6, [.no, .ol 3, .fl 3])]) | _ => ([], []), md := fun p => match p with | 18 => .frz | 27 => .frz | 36 => .take | 62 => .take | 67 => .frz | _ => .peek, pt := [.st, .st], lnd := false, rt := [.st 96, .bool] }
noncomputable def sg56 : Sig := { S0 with fn := Go.Proofs.Tryz.f56, lv := fun p => match p with | 33369246 => ([(2, .no), (5, .no), (6, .no), (8, .no), (9, .no), (10, .no), (11, .no), (12, .no)], [(2, [.fl 89]), (5, [.no, .fl 3, .no, .no, .fl 98]), (10, [.no, .fl 3, .fl 3])]) | 65174 => ([(2, .no), (5, .no), (6, .no), (8, .no), (9, .no)], [(2, [.fl 89]), (5, [.no, .fl 3, .no, .no, .fl 98])]) | 1018 => ([(2, .no), (5, .no), (6, .no), (8, .no)], [(2, [.fl 89]), (5, [.no, .fl 3, .no, .no, .fl 98])]) | 124 => ([(2, .no), (5, .no), (6, .no), (7, .no)], [(2, [.fl 89]), (5, [.no, .fl 3, .no, .no, .fl 98]), (7, [.no, .fl 3, .fl 3])]) | _ => ([], []), draw := fun p => match p with | 14 => some 1000 | 20 => some 1000 | 21 => some 0 | _ => none, md := fun p => match p with | 11 => .frz | 19 => .frz | 36 => .take | 41 => .frz | 84 => .take | 101 => .frz | 107 => .take | _ => .peek, pt := [.st, .any], lnd := false, rt := [.ol 96] }
noncomputable def sg39 : Sig := { S0 with fn := Go.Proofs.Tryz.f39, lv := fun p => match p with | 15654 => ([(1, .no), (8, .no), (9, .no), (10, .no)], [(1, [.fl 89])]) | 122 => ([(1, .no), (8, .no)], [(1, [.fl 89])]) | _ => ([], []), draw := fun p => match p with | 11 => some 0 | _ => none, md := fun p => match p with | 9 => .frz | 11 => .take | _ => .peek, pt := [.st], rt := [.int .i64, .int .i64, .int .i64] }
noncomputable def sg19 : Sig := { S0 with fn := Go.Proofs.Tryz.f19, md := fun p => match p with | 6 => .take | _ => .peek, pt := [.st], rt := [.bool] }
noncomputable def sg79 : Sig := { S0 with fn := Go.Proofs.Tryz.f79, pt := [.any], rt := [.int .i64] }
noncomputable def sg59 : Sig := { S0 with fn := Go.Proofs.Tryz.f59, draw := fun p => match p with | 4 => some 18 | 7 => some 0 | 10 => some 0 | _ => none, md := fun p => match p with | 9 => .frz | 16 => .frz | 23 => .take | 51 => .frz | _ => .peek, pt := [.st, .any, .any], rt := [.int .i64, .bool] }
noncomputable def sg41 : Sig := { S0 with fn := Go.Proofs.Tryz.f41, ct := fun p => match p with | 4093 => true | _ => false, lv := fun p => match p with | 32762 => ([(5, .no), (10, .no), (13, .no)], [(5, [.no, .no, .no, .fl 108, .fl 108])]) | 2042 => ([(1, .no), (2, .no), (5, .no), (6, .no), (7, .no), (8, .no), (9, .no)], [(2, [.fl 53, .fl 9, .fl 9, .fl 78, .no, .no, .no, .no, .no, .no, .no, .no, .fl 49, .fl 9]), (5, [.no, .no, .no, .fl 108, .fl 108]), (6, [.no, .fl 3, .no, .no, .fl 98]), (8, [.no, .fl 3, .fl 3])]) | 4093 => ([(5, .no), (10, .no)], [(5, [.no, .no, .no, .fl 108, .fl 108])]) | _ => ([], []), draw := fun p => match p with | 2 => some 1000 | 5 => some 0 | 12 => some 32 | 18 => some 14 | 30 => some 0 | _ => none, md := fun p => match p with | 7 => .frz | 10 => .frz | 18 => .frz | 29 => .frz | 59 => .frz | 109 => .take | 134 => .take | 168 => .take | _ => .peek, pt := [.st, .any], rt := [.bool] }
noncomputable def sg20 : Sig := { S0 with fn := Go.Proofs.Tryz.f20, ct := fun p => match p with | 31309 => true | _ => false, lv := fun p => match p with | 250 => ([(1, .no), (3, .no), (7, .no)], [(1, [.fl 53, .fl 9, .fl 9, .fl 78, .no, .no, .no, .no, .no, .no, .no, .no, .fl 49, .fl 9])]) | 122 => ([(1, .no), (3, .no), (4, .no)], [(1, [.fl 53, .fl 9, .fl 9, .fl 78, .no, .no, .no, .no, .no, .no, .no, .no, .fl 49, .fl 9])]) | 31309 => ([(1, .no), (3, .no), (4, .no), (5, .no), (6, .no)], [(1, [.fl 53, .fl 9, .fl 9, .fl 78, .no, .no, .no, .no, .no, .no, .no, .no, .fl 49, .fl 9]), (5, [.no, .no, .no, .fl 108, .fl 108])]) | _ => ([], []), draw := fun p => match p with | 2 => some 0 | 11 => some 0 | 13 => some 14 | _ => none, md := fun p => match p with | 37 => .frz | _ => .peek, pt := [.st], rt := [.bool] }
noncomputable def sg5 : Sig := { S0 with fn := Go.Proofs.Tryz.f5, lv := fun p => match p with | 506 => ([(1, .no), (6, .no)], [(1, [.fl 53, .fl 9, .fl 9, .fl 78, .no, .no, .no, .no, .no, .no, .no, .no, .fl 49, .fl 9])]) | 64074 => ([(1, .no), (3, .no), (4, .no), (5, .no)], [(1, [.fl 53, .fl 9, .fl 9, .fl 78, .no, .no, .no, .no, .no, .no, .no, .no, .fl 49, .fl 9])]) | 250 => ([(1, .no), (3, .no)], [(1, [.fl 53, .fl 9, .fl 9, .fl 78, .no, .no, .no, .no, .no, .no, .no, .no, .fl 49, .fl 9])]) | _ => ([], []), draw := fun p => match p with | 14 => some 0 | _ => none, md := fun p => match p with | 49 => .take | _ => .peek, pt := [.st], rt := [.bool] }
noncomputable def sg49 : Sig := { S0 with fn := Go.Proofs.Tryz.f49, lv := fun p => match p with | 58 => ([(0, .no), (3, .no)], []) | _ => ([], []), pt := [.any], rt := [.bool] }
noncomputable def sg45 : Sig := { S0 with fn := Go.Proofs.Tryz.f45, pt := [.any], rt := [.bool] }
noncomputable def sg25 : Sig := { S0 with fn := Go.Proofs.Tryz.f25, lv := fun p => match p with | 58 => ([(0, .no), (11, .no), (12, .no), (13, .no)], []) | _ => ([], []), draw := fun p => match p with | 6 => some 0 | _ => none, pt := [.fl 49, .any], rt := [.bool] }
noncomputable def sg26 : Sig := { S0 with fn := Go.Proofs.Tryz.f26, lv := fun p => match p with | 58 => ([(1, .no), (16, .no), (17, .no), (18, .no)], [(1, [.no, .fl 9])]) | _ => ([], []), pt := [.st], rt := [.bool] }
noncomputable def sg118 : Sig := { S0 with fn := Go.Proofs.Tryz.f118, pt := [.any], rt := [.bool] }
noncomputable def sg126 : Sig := { S0 with fn := Go.Proofs.Tryz.f126, lv := fun p => match p with | 26 => ([(0, .no), (5, .no), (6, .no), (7, .no)], []) | _ => ([], []), pt := [.any], rt := [.int .i64] }
noncomputable def sg119 : Sig := { S0 with fn := Go.Proofs.Tryz.f119, lv := fun p => match p with | 26 => ([(0, .no), (5, .no), (6, .no), (7, .no)], []) | _ => ([], []), pt := [.any], rt := [.bool] }
noncomputable def sg127 : Sig := { S0 with fn := Go.Proofs.Tryz.f127, pt := [.any], rt := [.bool] }
noncomputable def sg120 : Sig := { S0 with fn := Go.Proofs.Tryz.f120, pt := [.any], rt := [.bool] }
noncomputable def sg107 : Sig := { S0 with fn := Go.Proofs.Tryz.f107, lv := fun p => match p with | 58 => ([(0, .no), (3, .no)], []) | _ => ([], []), pt := [.any], rt := [.bool] }
noncomputable def sg82 : Sig := { S0 with fn := Go.Proofs.Tryz.f82, lv := fun p => match p with | 58 => ([(1, .no), (26, .no), (27, .no), (28, .no)], [(1, [.no, .fl 3, .no, .no, .fl 98])]) | _ => ([], []), pt := [.st], rt := [.bool] }
noncomputable def sg88 : Sig := { S0 with fn := Go.Proofs.Tryz.f88, pt := [.any], rt := [.bool] }
noncomputable def sg109 : Sig := { S0 with fn := Go.Proofs.Tryz.f109, ct := fun p => match p with | 105 => true | 429 => true | _ => false, lv := fun p => match p with | 105 => ([(3, .no), (4, .no)], []) | 429 => ([(3, .no), (7, .no)], []) | _ => ([], []), pt := [.any], rt := [.int .u64] }
noncomputable def sg110 : Sig := { S0 with fn := Go.Proofs.Tryz.f110, pt := [.any], rt := [.bool] }
noncomputable def sg91 : Sig := { S0 with fn := Go.Proofs.Tryz.f91, pt := [.any, .any], rt := [.int .i64] }
noncomputable def sg66 : Sig := { S0 with fn := Go.Proofs.Tryz.f66, draw := fun p => match p with | 6 => some 12 | _ => none, pt := [.any], rt := [.bool] }
noncomputable def sg108 : Sig := { S0 with fn := Go.Proofs.Tryz.f108, e := true, pt := [.any, .any], lnd := false, rt := [.bool], mo := [[.int .i64, .int .i64, .int .i64, .str]] }
noncomputable def sg83 : Sig := { S0 with fn := Go.Proofs.Tryz.f83, ct := fun p => match p with | 1001 => true | 4112381 => true | _ => false, lv := fun p => match p with | 1001 => ([(3, .no), (4, .no), (5, .no), (7, .no), (29, .no), (30, .no)], [(3, [.fl 89]), (4, [.no, .fl 3, .no, .no, .fl 98]), (5, [])]) | 4112381 => ([(4, .no), (5, .no), (7, .no), (29, .no), (62, .no)], [(4, [.no, .fl 3, .no, .no, .fl 98]), (5, [])]) | _ => ([], []), esc := fun p => match p with | 5 => true | _ => false, e := true, pt := [.st, .st, .any], rt := [.bool], hide := true }
noncomputable def sg62 : Sig := { S0 with fn := Go.Proofs.Tryz.f62, lv := fun p => match p with | 506 => ([(73, .no), (74, .no), (75, .no)], []) | 64102 => ([(1, .no), (8, .no), (9, .no), (48, .no), (49, .no), (50, .no), (56, .no), (57, .no), (58, .no)], [(1, [.fl 89]), (9, [.no, .fl 3, .no, .no, .fl 98])]) | 250 => ([(1, .no), (48, .no), (49, .no), (50, .no)], [(1, [.fl 89])]) | 122 => ([(1, .no), (5, .no), (26, .no), (27, .no), (28, .no)], [(1, [.fl 89])]) | _ => ([], []), md := fun p => match p with | 32 => .frz | 54 => .frz | 78 => .frz | _ => .peek, pt := [.st], rt := [.int .i64, .int .i64, .int .i64] }
noncomputable def sg64 : Sig := { S0 with fn := Go.Proofs.Tryz.f64, ct := fun p => match p with | 105 => true | _ => false, lv := fun p => match p with | 105 => ([(1, .no), (2, .no), (6, .no), (7, .no)], [(2, [])]) | _ => ([], []), pt := [.any, .any], lnd := false, rt := [.ol 3] }
noncomputable def sg84 : Sig := { S0 with fn := Go.Proofs.Tryz.f84, md := fun p => match p with | 21 => .take | _ => .peek, e := true, pt := [.any], lnd := false, rt := [.fo 3], mo := [[.fl 3], [.clo 84 [(0, 0)]]] }
noncomputable def sg85 : Sig := { S0 with fn := Go.Proofs.Tryz.f85, lv := fun p => match p with | 122 => ([(0, .no), (4, .no), (18, .no), (19, .no)], []) | _ => ([], []), draw := fun p => match p with | 7 => some 0 | _ => none, md := fun p => match p with | 4 => .frz | _ => .peek, e := true, pt := [.fl 3], lnd := false, rt := [.bool], mo := [[.fl 3], [.clo 84 [(0, 0)]]], am := fun p => match p with | 11 => true | _ => false }
noncomputable def sg86 : Sig := { S0 with fn := Go.Proofs.Tryz.f86, pt := [.any, .any], rt := [.int .i64] }
noncomputable def sg87 : Sig := { S0 with fn := Go.Proofs.Tryz.f87, pt := [.any, .any, .any], rt := [.int .i64] }
noncomputable def sg89 : Sig := { S0 with fn := Go.Proofs.Tryz.f89, lv := fun p => match p with | 250 => ([(0, .no), (5, .no), (35, .no), (36, .no), (37, .no)], []) | _ => ([], []), md := fun p => match p with | 5 => .frz | 29 => .take | _ => .peek, pt := [.any, .fl 3], rt := [.int .i64] }
noncomputable def sg63 : Sig := { S0 with fn := Go.Proofs.Tryz.f63, ct := fun p => match p with | 4085 => true | 34275852285 => true | _ => false, lv := fun p => match p with | 58 => ([(4, .no), (5, .no), (7, .no), (8, .no), (10, .no), (32, .no), (33, .no), (34, .no)], [(4, [.fl 89]), (5, [.no, .fl 3, .no, .no, .fl 98]), (7, [.no, .fl 3, .fl 3]), (8, [.no, .fl 3, .fl 3]), (10, [])]) | 4085 => ([(7, .no), (8, .no), (13, .no), (16, .no)], [(7, [.no, .fl 3, .fl 3]), (8, [.no, .fl 3, .fl 3]), (13, [.ol 3])]) | 34275852285 => ([(7, .no), (8, .no), (13, .no), (15, .no), (16, .no), (50, .no), (207, .no)], [(7, [.no, .fl 3, .fl 3]), (8, [.no, .fl 3, .fl 3]), (13, [.ol 3])]) | _ => ([], []), draw := fun p => match p with | 24 => some 0 | 31 => some 0 | 38 => some 0 | _ => none, md := fun p => match p with | 17 => .frz | 19 => .frz | 20 => .frz | 21 => .frz | 23 => .frz | 46 => .take | 83 => .frz | 84 => .frz | 177 => .frz | 234 => .take | 235 => .frz | _ => .peek, esc := fun p => match p with | 13 => true | 14 => true | _ => false, e := true, pt := [.st, .st, .any, .st], lnd := false, rt := [.st 96, .bool], hide := true }
noncomputable def sg90 : Sig := { S0 with fn := Go.Proofs.Tryz.f90, lv := fun p => match p with | 58 => ([(0, .no), (1, .no), (12, .no), (13, .no)], []) | _ => ([], []), draw := fun p => match p with | 6 => some 0 | _ => none, pt := [.fl 3, .fl 3], rt := [.bool] }
noncomputable def sg65 : Sig := { S0 with fn := Go.Proofs.Tryz.f65, lv := fun p => match p with | 506 => ([(2, .no), (3, .no), (4, .no), (6, .ol 3), (7, .no), (47, .no), (48, .no)], [(2, [.no, .fl 3, .fl 3]), (3, [.no, .fl 3, .fl 3]), (4, [.no, .fl 3, .fl 3])]) | _ => ([], []), draw := fun p => match p with | 14 => some 0 | _ => none, md := fun p => match p with | 18 => .frz | 23 => .frz | 42 => .frz | 72 => .frz | 74 => .take | _ => .peek, pt := [.st, .st], lnd := false, rt := [.st 96, .bool] }
noncomputable def sg47 : Sig := { S0 with fn := Go.Proofs.Tryz.f47, lv := fun p => match p with | 16378 => ([(2, .no), (6, .no), (7, .no), (19, .no), (131, .no), (132, .no), (133, .no)], [(2, [.fl 89]), (6, [.no, .fl 3, .no, .no, .fl 98])]) | 2093438 => ([(2, .no), (6, .no), (7, .no), (9, .ol 3), (10, .no), (12, .no), (93, .no), (94, .no), (95, .no)], [(2, [.fl 89]), (6, [.no, .fl 3, .no, .no, .fl 98]), (12, [.no, .fl 3, .fl 3])]) | 2044 => ([(2, .no), (6, .no), (7, .no), (9, .ol 3), (10, .no)], [(2, [.fl 89]), (6, [.no, .fl 3, .no, .no, .fl 98])]) | _ => ([], []), draw := fun p => match p with | 14 => some 1000 | 21 => some 1000 | _ => none, md := fun p => match p with | 28 => .frz | 43 => .frz | 63 => .take | 74 => .take | 86 => .frz | 104 => .take | 116 => .frz | 126 => .take | 131 => .frz | 137 => .frz | 145 => .take | 157 => .take | _ => .peek, pt := [.st, .any], lnd := false, rt := [.fo 96, .int .i64] }
noncomputable def sg46 : Sig := { S0 with fn := Go.Proofs.Tryz.f46, lv := fun p => match p with | 58 => ([(1, .no), (24, .no), (25, .no)], [(1, [.fl 89])]) | _ => ([], []), md := fun p => match p with | 9 => .frz | 11 => .take | 28 => .take | _ => .peek, pt := [.st], rt := [.int .i64, .int .i64, .int .i64] }
noncomputable def sg27 : Sig := { S0 with fn := Go.Proofs.Tryz.f27, md := fun p => match p with | 6 => .take | _ => .peek, pt := [.st], rt := [.bool] }
noncomputable def sg48 : Sig := { S0 with fn := Go.Proofs.Tryz.f48, lv := fun p => match p with | 122 => ([(6, .no), (71, .no), (72, .no), (73, .no)], [(6, [.no, .fl 3, .fl 3])]) | 58 => ([(4, .no), (6, .no), (36, .no), (37, .no), (38, .no)], [(4, [.no, .no, .no, .fl 108, .fl 108]), (6, [.no, .fl 3, .fl 3])]) | _ => ([], []), draw := fun p => match p with | 6 => some 23 | 12 => some 0 | _ => none, pt := [.st, .st, .st, .any], rt := [.bool] }
noncomputable def sg28 : Sig := { S0 with fn := Go.Proofs.Tryz.f28, ct := fun p => match p with | 128205 => true | 16410621 => true | 65642493 => true | _ => false, lv := fun p => match p with | 250 => ([(0, .no), (3, .no), (4, .no), (46, .no), (47, .no), (48, .no)], []) | 128205 => ([(0, .no), (3, .no), (4, .no), (5, .no), (6, .no), (7, .no), (46, .no), (47, .no), (48, .no)], [(6, [.no, .no, .no, .fl 108, .fl 108])]) | 16410621 => ([(0, .no), (3, .no), (4, .no), (5, .no), (6, .no), (8, .no), (9, .no), (10, .no), (46, .no), (47, .no), (48, .no)], [(6, [.no, .no, .no, .fl 108, .fl 108]), (8, [.fl 89]), (9, [.no, .fl 3, .no, .no, .fl 98])]) | 65642493 => ([(0, .no), (3, .no), (4, .no), (6, .no), (9, .no), (10, .no), (11, .no), (46, .no), (47, .no), (48, .no)], [(6, [.no, .no, .no, .fl 108, .fl 108]), (9, [.no, .fl 3, .no, .no, .fl 98])]) | _ => ([], []), draw := fun p => match p with | 2 => some 0 | 11 => some 0 | 13 => some 1000 | 29 => some 0 | 30 => some 0 | 37 => some 0 | 39 => some 0 | _ => none, md := fun p => match p with | 10 => .frz | 52 => .frz | 97 => .frz | 131 => .frz | 152 => .take | _ => .peek, e := true, pt := [.any], lnd := false, rt := [.bool], mo := [[.fl 53, .fl 9, .fl 9, .fl 78, .int .i64, .int .i64, .int .i64, .str, .str, .bool, .int .i64, .str, .fl 49, .fl 9]] }
noncomputable def sg29 : Sig := { S0 with fn := Go.Proofs.Tryz.f29, ct := fun p => match p with | 429 => true | _ => false, lv := fun p => match p with | 429 => ([(0, .no), (6, .no), (21, .no)], []) | _ => ([], []), e := true, pt := [.any], lnd := false, rt := [.bool], mo := [[.fl 53, .fl 9, .fl 9, .fl 78, .int .i64, .int .i64, .int .i64, .str, .str, .bool, .int .i64, .str, .fl 49, .fl 9]] }
noncomputable def sg7 : Sig := { S0 with fn := Go.Proofs.Tryz.f7, lv := fun p => match p with | 4090 => ([(1, .no), (199, .no), (200, .no), (201, .no)], [(1, [.fl 53, .fl 9, .fl 9, .fl 78, .no, .no, .no, .no, .no, .no, .no, .no, .fl 49, .fl 9])]) | 2091418 => ([(1, .no), (10, .no), (11, .no), (174, .no), (175, .no), (176, .no), (181, .no), (182, .no), (183, .no)], [(1, [.fl 53, .fl 9, .fl 9, .fl 78, .no, .no, .no, .no, .no, .no, .no, .no, .fl 49, .fl 9]), (10, [])]) | 2042 => ([(1, .no), (174, .no), (175, .no), (176, .no)], [(1, [.fl 53, .fl 9, .fl 9, .fl 78, .no, .no, .no, .no, .no, .no, .no, .no, .fl 49, .fl 9])]) | 1018 => ([(1, .no), (163, .no), (164, .no), (165, .no)], [(1, [.fl 53, .fl 9, .fl 9, .fl 78, .no, .no, .no, .no, .no, .no, .no, .no, .fl 49, .fl 9])]) | 58 => ([(1, .no), (37, .no), (38, .no), (39, .no)], [(1, [.fl 53, .fl 9, .fl 9, .fl 78, .no, .no, .no, .no, .no, .no, .no, .no, .fl 49, .fl 9])]) | _ => ([], []), md := fun p => match p with | 157 => .take | 204 => .frz | _ => .peek, esc := fun p => match p with | 1 => true | _ => false, e := true, pt := [.st], rt := [.bool], hide := true }
noncomputable def sg111 : Sig := { S0 with fn := Go.Proofs.Tryz.f111, lv := fun p => match p with | 58 => ([(0, .no), (1, .no), (5, .no)], []) | _ => ([], []), draw := fun p => match p with | 6 => some 0 | _ => none, pt := [.fl 3, .fl 3], rt := [.bool] }
noncomputable def sg121 : Sig := { S0 with fn := Go.Proofs.Tryz.f121, pt := [.any, .any], rt := [.bool] }
noncomputable def sg112 : Sig := { S0 with fn := Go.Proofs.Tryz.f112, lv := fun p => match p with | 58 => ([(0, .no), (1, .no), (5, .no)], []) | _ => ([], []), draw := fun p => match p with | 6 => some 0 | _ => none, pt := [.fl 98, .fl 98], rt := [.bool] }
noncomputable def sg92 : Sig := { S0 with fn := Go.Proofs.Tryz.f92, pt := [.st, .st], rt := [.bool] }
noncomputable def sg67 : Sig := { S0 with fn := Go.Proofs.Tryz.f67, lv := fun p => match p with | 58 => ([(0, .no), (1, .no), (5, .no)], []) | _ => ([], []), draw := fun p => match p with | 6 => some 0 | _ => none, pt := [.fl 89, .fl 89], rt := [.bool] }
noncomputable def sg50 : Sig := { S0 with fn := Go.Proofs.Tryz.f50, pt := [.st, .st], rt := [.bool] }
noncomputable def sg30 : Sig := { S0 with fn := Go.Proofs.Tryz.f30, lv := fun p => match p with | 58 => ([(0, .no), (1, .no), (5, .no)], []) | _ => ([], []), draw := fun p => match p with | 6 => some 0 | _ => none, pt := [.fl 53, .fl 53], rt := [.bool] }
noncomputable def sg31 : Sig := { S0 with fn := Go.Proofs.Tryz.f31, lv := fun p => match p with | 58 => ([(0, .no), (1, .no), (5, .no)], []) | _ => ([], []), draw := fun p => match p with | 6 => some 0 | _ => none, pt := [.fl 9, .fl 9], rt := [.bool] }
noncomputable def sg93 : Sig := { S0 with fn := Go.Proofs.Tryz.f93, pt := [.any, .any], rt := [.bool] }
noncomputable def sg68 : Sig := { S0 with fn := Go.Proofs.Tryz.f68, lv := fun p => match p with | 58 => ([(0, .no), (1, .no), (5, .no)], []) | _ => ([], []), draw := fun p => match p with | 6 => some 0 | _ => none, pt := [.fl 108, .fl 108], rt := [.bool] }
noncomputable def sg51 : Sig := { S0 with fn := Go.Proofs.Tryz.f51, pt := [.st, .st], rt := [.bool] }
noncomputable def sg32 : Sig := { S0 with fn := Go.Proofs.Tryz.f32, lv := fun p => match p with | 58 => ([(0, .no), (1, .no), (5, .no)], []) | _ => ([], []), draw := fun p => match p with | 6 => some 0 | _ => none, pt := [.fl 78, .fl 78], rt := [.bool] }
noncomputable def sg52 : Sig := { S0 with fn := Go.Proofs.Tryz.f52, pt := [.any, .any], rt := [.bool] }
noncomputable def sg33 : Sig := { S0 with fn := Go.Proofs.Tryz.f33, lv := fun p => match p with | 58 => ([(0, .no), (1, .no), (5, .no)], []) | _ => ([], []), draw := fun p => match p with | 6 => some 0 | _ => none, pt := [.fl 49, .fl 49], rt := [.bool] }
noncomputable def sg8 : Sig := { S0 with fn := Go.Proofs.Tryz.f8, pt := [.st, .st], rt := [.bool] }
noncomputable def sg3 : Sig := { S0 with fn := Go.Proofs.Tryz.f3, draw := fun p => match p with | 10 => some 3 | _ => none, pt := [.st], rt := [.bool] }
noncomputable def sgs : List (Nat × Sig) := [(94, sg94), (113, sg113), (95, sg95), (69, sg69), (53, sg53), (34, sg34), (9, sg9), (10, sg10), (70, sg70), (54, sg54), (35, sg35), (11, sg11), (36, sg36), (12, sg12), (4, sg4), (105, sg105), (117, sg117), (106, sg106), (80, sg80), (60, sg60), (42, sg42), (21, sg21), (22, sg22), (81, sg81), (61, sg61), (43, sg43), (23, sg23), (44, sg44), (24, sg24), (6, sg6), (38, sg38), (37, sg37), (13, sg13), (14, sg14), (15, sg15), (16, sg16), (17, sg17), (18, sg18), (114, sg114), (128, sg128), (122, sg122), (101, sg101), (123, sg123), (115, sg115), (124, sg124), (116, sg116), (96, sg96), (71, sg71), (97, sg97), (76, sg76), (103, sg103), (104, sg104), (77, sg77), (58, sg58), (72, sg72), (40, sg40), (55, sg55), (99, sg99), (100, sg100), (78, sg78), (102, sg102), (75, sg75), (73, sg73), (57, sg57), (98, sg98), (74, sg74), (56, sg56), (39, sg39), (19, sg19), (79, sg79), (59, sg59), (41, sg41), (20, sg20), (5, sg5), (49, sg49), (45, sg45), (25, sg25), (26, sg26), (118, sg118), (126, sg126), (119, sg119), (127, sg127), (120, sg120), (107, sg107), (82, sg82), (88, sg88), (109, sg109), (110, sg110), (91, sg91), (66, sg66), (108, sg108), (83, sg83), (62, sg62), (64, sg64), (84, sg84), (85, sg85), (86, sg86), (87, sg87), (89, sg89), (63, sg63), (90, sg90), (65, sg65), (47, sg47), (46, sg46), (27, sg27), (48, sg48), (28, sg28), (29, sg29), (7, sg7), (111, sg111), (121, sg121), (112, sg112), (92, sg92), (67, sg67), (50, sg50), (30, sg30), (31, sg31), (93, sg93), (68, sg68), (51, sg51), (32, sg32), (52, sg52), (33, sg33), (8, sg8), (3, sg3)]
noncomputable def Y : Sys := ⟨tabOf rows, sgs, [(125, bFields)], []⟩
noncomputable def L.szIntS (a : List Int) (left : Int) : Option (Int) := Y.H.A 94 [.fl 3 a, .i .i64 left]
noncomputable def L.szIns (a : TIns) (left : Int) : Option (Int) := Y.H.A 113 [.st (cells 162 a), .i .i64 left]
noncomputable def L.szInsS (a : List TIns) (left : Int) : Option (Int) := Y.H.A 95 [.fl 162 a, .i .i64 left]
noncomputable def L.szFn (a : TFn) (left : Int) : Option (Int) := Y.H.A 69 [.st (cells 124 a), .i .i64 left]
noncomputable def L.szFnS (a : List TFn) (left : Int) : Option (Int) := Y.H.A 53 [.fl 124 a, .i .i64 left]
noncomputable def L.szCode (a : TCode) (left : Int) : Option (Int) := Y.H.A 34 [.st (cells 66 a), .i .i64 left]
noncomputable def L.szCodeS (a : List TCode) (left : Int) : Option (Int) := Y.H.A 9 [.fl 66 a, .i .i64 left]
noncomputable def L.szStringS (a : List ByteArray) (left : Int) : Option (Int) := Y.H.A 10 [.fl 9 a, .i .i64 left]
noncomputable def L.szValue (a : TValue) (left : Int) : Option (Int) := Y.H.A 70 [.st (cells 126 a), .i .i64 left]
noncomputable def L.szValueS (a : List TValue) (left : Int) : Option (Int) := Y.H.A 54 [.fl 126 a, .i .i64 left]
noncomputable def L.szFrame (a : TFrame) (left : Int) : Option (Int) := Y.H.A 35 [.st (cells 70 a), .i .i64 left]
noncomputable def L.szFrameS (a : List TFrame) (left : Int) : Option (Int) := Y.H.A 11 [.fl 70 a, .i .i64 left]
noncomputable def L.szFile (a : TFile) (left : Int) : Option (Int) := Y.H.A 36 [.st (cells 72 a), .i .i64 left]
noncomputable def L.szFileS (a : List TFile) (left : Int) : Option (Int) := Y.H.A 12 [.fl 72 a, .i .i64 left]
noncomputable def L.szMachine (a : TMachine) (left : Int) : Option (Int) := Y.H.A 4 [.st (cells 27 a), .i .i64 left]
noncomputable def L.toIntS (a : List Int) : Option (List Int) := Y.H.A 105 [.fl 3 a]
noncomputable def L.toIns (a : TIns) : Option (TIns) := Y.H.A 117 [.st (cells 162 a)]
noncomputable def L.toInsS (a : List TIns) : Option (List TIns) := Y.H.A 106 [.fl 162 a]
noncomputable def L.toFn (a : TFn) : Option (TFn) := Y.H.A 80 [.st (cells 124 a)]
noncomputable def L.toFnS (a : List TFn) : Option (List TFn) := Y.H.A 60 [.fl 124 a]
noncomputable def L.toCode (a : TCode) : Option (TCode) := Y.H.A 42 [.st (cells 66 a)]
noncomputable def L.toCodeS (a : List TCode) : Option (List TCode) := Y.H.A 21 [.fl 66 a]
noncomputable def L.toStringS (a : List ByteArray) : Option (List ByteArray) := Y.H.A 22 [.fl 9 a]
noncomputable def L.toValue (a : TValue) : Option (TValue) := Y.H.A 81 [.st (cells 126 a)]
noncomputable def L.toValueS (a : List TValue) : Option (List TValue) := Y.H.A 61 [.fl 126 a]
noncomputable def L.toFrame (a : TFrame) : Option (TFrame) := Y.H.A 43 [.st (cells 70 a)]
noncomputable def L.toFrameS (a : List TFrame) : Option (List TFrame) := Y.H.A 23 [.fl 70 a]
noncomputable def L.toFile (a : TFile) : Option (TFile) := Y.H.A 44 [.st (cells 72 a)]
noncomputable def L.toFileS (a : List TFile) : Option (List TFile) := Y.H.A 24 [.fl 72 a]
noncomputable def L.toMachine (a : TMachine) : Option (TMachine) := Y.H.A 6 [.st (cells 27 a)]
noncomputable def R.l6PrefixOk (s : ByteArray) : Option (Bool) := Y.H.A 38 [.s s]
noncomputable def R.l6PathOk (s : ByteArray) : Option (Bool) := Y.H.A 37 [.s s]
noncomputable def R.l9FilesOk (files : List TFile) (most : Int) : Option (Bool) := Y.H.A 13 [.fl 49 files, .i .i64 most]
noncomputable def R.l9TextsOk (list : List ByteArray) (most : Int) : Option (Bool) := Y.H.A 14 [.fl 9 list, .i .i64 most]
noncomputable def R.l7In (n : Int) (low : Int) (high : Int) : Option (Bool) := Y.H.A 15 [.i .i64 n, .i .i64 low, .i .i64 high]
noncomputable def R.l9OverOk (m : TMachine) : Option (Bool) := Y.H.A 16 [.st (cells 34 m)]
noncomputable def R.ValidJob (j : TJob) : Option (Bool) := Y.H.A 17 [.st (cells 47 j)]
noncomputable def R.l9WaitOk (m : TMachine) : Option (Bool) := Y.H.A 18 [.st (cells 34 m)]
noncomputable def R.l1Letter (b : Int) : Option (Bool) := Y.H.A 114 [.i .u8 b]
noncomputable def R.l1TypeWord (t : Int) : Option (ByteArray) := Y.H.A 128 [.i .i64 t]
noncomputable def R.l1Type (w : ByteArray) : Option (Int) := Y.H.A 122 [.s w]
noncomputable def R.l1BuiltWord (op : Int) : Option (ByteArray × Int) := Y.H.A 101 [.i .i64 op]
noncomputable def R.l1Plain  : Option (List ByteArray) := Y.H.A 123 []
noncomputable def R.l1Taken (w : ByteArray) : Option (Bool) := Y.H.A 115 [.s w]
noncomputable def R.l1Digit (b : Int) : Option (Bool) := Y.H.A 124 [.i .u8 b]
noncomputable def R.l1Tail (b : Int) : Option (Bool) := Y.H.A 116 [.i .u8 b]
noncomputable def R.l1NameOk (s : ByteArray) : Option (Bool) := Y.H.A 96 [.s s]
noncomputable def R.l7FnOk (c : TCode) (k : Int) : Option (Bool) := Y.H.A 71 [.st (cells 53 c), .i .i64 k]
noncomputable def R.l7HasA (op : Int) : Option (Bool) := Y.H.A 97 [.i .i64 op]
noncomputable def R.l1Integer (t : Int) : Option (Bool) := Y.H.A 76 [.i .i64 t]
noncomputable def R.l1Bits (t : Int) : Option (Int) := Y.H.A 103 [.i .i64 t]
noncomputable def R.l1Signed (t : Int) : Option (Bool) := Y.H.A 104 [.i .i64 t]
noncomputable def R.l4Into (t : Int) (bits : Int) : Option (Int) := Y.H.A 77 [.i .i64 t, .i .u64 bits]
noncomputable def R.ValidValue (v : TValue) : Option (Bool) := Y.H.A 58 [.st (cells 108 v)]
noncomputable def R.l7InsOk (c : TCode) (f : TFn) (i : TIns) : Option (Bool) := Y.H.A 72 [.st (cells 53 c), .st (cells 89 f), .st (cells 98 i)]
noncomputable def R.l7Main (c : TCode) : Option (Int) := Y.H.A 40 [.st (cells 53 c)]
noncomputable def R.l7Plain (c : TCode) : Option (Int × Int × Int) := Y.H.A 55 [.st (cells 53 c)]
noncomputable def R.l3Un (op : Int) (a : Int) : Option (Int) := Y.H.A 99 [.i .i64 op, .i .i64 a]
noncomputable def R.l3Bin (op : Int) (a : Int) (b : Int) : Option (Int) := Y.H.A 100 [.i .i64 op, .i .i64 a, .i .i64 b]
noncomputable def R.l3Wants (op : Int) : Option (List Int × Int) := Y.H.A 78 [.i .i64 op]
noncomputable def R.l3Built (op : Int) (have_ : List Int) : Option (Int) := Y.H.A 102 [.i .i64 op, .fl 3 have_]
noncomputable def R.l7Gives (c : TCode) (f : TFn) (i : TIns) (s : TShape) : Option (Int × List Int × Bool) := Y.H.A 75 [.st (cells 53 c), .st (cells 89 f), .st (cells 98 i), .st (cells 96 s)]
noncomputable def R.l7Goes (i : TIns) (at_0 : Int) : Option (List Int) := Y.H.A 73 [.st (cells 98 i), .i .i64 at_0]
noncomputable def R.l7Behind (c : TCode) (f : TFn) (at_0 : Int) (s : TShape) : Option (TShape) := Y.H.A 57 [.st (cells 53 c), .st (cells 89 f), .i .i64 at_0, .st (cells 96 s)]
noncomputable def R.l7SameInts (a : List Int) (b : List Int) : Option (Bool) := Y.H.A 98 [.fl 3 a, .fl 3 b]
noncomputable def R.l7Join (a : TShape) (b : TShape) : Option (TShape × Bool) := Y.H.A 74 [.st (cells 96 a), .st (cells 96 b)]
noncomputable def R.l7Shapes (c : TCode) (fn : Int) : Option (List TShape) := Y.H.A 56 [.st (cells 53 c), .i .i64 fn]
noncomputable def R.CheckCode (c : TCode) : Option (Int × Int × Int) := Y.H.A 39 [.st (cells 53 c)]
noncomputable def R.l7Ok (c : TCode) : Option (Bool) := Y.H.A 19 [.st (cells 53 c)]
noncomputable def R.l9Kind (op : Int) : Option (Int) := Y.H.A 79 [.i .i64 op]
noncomputable def R.l9Wants (m : TMachine) (k : Int) (i : TIns) : Option (Int × Bool) := Y.H.A 59 [.st (cells 34 m), .i .i64 k, .st (cells 98 i)]
noncomputable def R.l9FrameOk (m : TMachine) (k : Int) : Option (Bool) := Y.H.A 41 [.st (cells 34 m), .i .i64 k]
noncomputable def R.l9FramesOk (m : TMachine) : Option (Bool) := Y.H.A 20 [.st (cells 34 m)]
noncomputable def R.ValidMachine (m : TMachine) : Option (Bool) := Y.H.A 5 [.st (cells 34 m)]
noncomputable def I.pathText (s : ByteArray) : Option (Bool) := Y.H.A 49 [.s s]
noncomputable def I.fileName (s : ByteArray) : Option (Bool) := Y.H.A 45 [.s s]
noncomputable def I.filesOk (files : List TFile) (most : Int) : Option (Bool) := Y.H.A 25 [.fl 49 files, .i .i64 most]
noncomputable def I.ValidJob (j : TJob) : Option (Bool) := Y.H.A 26 [.st (cells 47 j)]
noncomputable def I.lower (b : Int) : Option (Bool) := Y.H.A 118 [.i .u8 b]
noncomputable def I.typeOfWord (s : ByteArray) : Option (Int) := Y.H.A 126 [.s s]
noncomputable def I.isTaken (s : ByteArray) : Option (Bool) := Y.H.A 119 [.s s]
noncomputable def I.digit (b : Int) : Option (Bool) := Y.H.A 127 [.i .u8 b]
noncomputable def I.wordy (b : Int) : Option (Bool) := Y.H.A 120 [.i .u8 b]
noncomputable def I.nameOk (s : ByteArray) : Option (Bool) := Y.H.A 107 [.s s]
noncomputable def I.headOk (f : TFn) : Option (Bool) := Y.H.A 82 [.st (cells 89 f)]
noncomputable def I.integer (t : Int) : Option (Bool) := Y.H.A 88 [.i .i64 t]
noncomputable def I.bits (t : Int) : Option (Int) := Y.H.A 109 [.i .i64 t]
noncomputable def I.signed (t : Int) : Option (Bool) := Y.H.A 110 [.i .i64 t]
noncomputable def I.into (x : Int) (t : Int) : Option (Int) := Y.H.A 91 [.i .u64 x, .i .i64 t]
noncomputable def I.ValidValue (v : TValue) : Option (Bool) := Y.H.A 66 [.st (cells 108 v)]
noncomputable def I.insOk_1 (o0 : Int × Int × Int × ByteArray) (lo : Int) (hi : Int) : Option (Bool × Int × Int × Int × ByteArray) := Y.H.B 108 [.i .i64 lo, .i .i64 hi, .ad (.obj 0) 0] [[.i .i64 (o0.1), .i .i64 (o0.2.1), .i .i64 (o0.2.2.1), .s (o0.2.2.2)]]
noncomputable def I.insOk (c : TCode) (f : TFn) (x : TIns) : Option (Bool) := Y.H.A 83 [.st (cells 53 c), .st (cells 89 f), .st (cells 98 x)]
noncomputable def I.checkParts (c : TCode) : Option (Int × Int × Int) := Y.H.A 62 [.st (cells 53 c)]
noncomputable def I.next (x : TIns) (at_0 : Int) : Option (List Int) := Y.H.A 64 [.st (cells 98 x), .i .i64 at_0]
noncomputable def I.effect_1 (o0 : List Int) (o1 : Unit) (n : Int) : Option (Option (List Int) × List Int × Unit) := Y.H.B 84 [.i .i64 n, .ad (.obj 0) 0] [[.fl 3 (o0)], [.clo 84 [(0, 0)]]]
noncomputable def I.effect_2 (o0 : List Int) (o1 : Unit) (want : List Int) : Option (Bool × List Int × Unit) := Y.H.B 85 [.fl 3 want, .ad (.obj 1) 0] [[.fl 3 (o0)], [.clo 84 [(0, 0)]]]
noncomputable def I.unType (op : Int) (a : Int) : Option (Int) := Y.H.A 86 [.i .i64 op, .i .i64 a]
noncomputable def I.binType (op : Int) (a : Int) (b : Int) : Option (Int) := Y.H.A 87 [.i .i64 op, .i .i64 a, .i .i64 b]
noncomputable def I.builtType (op : Int) (kids : List Int) : Option (Int) := Y.H.A 89 [.i .i64 op, .fl 3 kids]
noncomputable def I.effect (c : TCode) (f : TFn) (at_0 : Int) (s : TShape) : Option (TShape × Bool) := Y.H.A 63 [.st (cells 53 c), .st (cells 89 f), .i .i64 at_0, .st (cells 96 s)]
noncomputable def I.sameInts (a : List Int) (b : List Int) : Option (Bool) := Y.H.A 90 [.fl 3 a, .fl 3 b]
noncomputable def I.join (a : TShape) (b : TShape) : Option (TShape × Bool) := Y.H.A 65 [.st (cells 96 a), .st (cells 96 b)]
noncomputable def I.shapes (c : TCode) (fn : Int) : Option (Option (List TShape) × Int) := Y.H.A 47 [.st (cells 53 c), .i .i64 fn]
noncomputable def I.CheckCode (c : TCode) : Option (Int × Int × Int) := Y.H.A 46 [.st (cells 53 c)]
noncomputable def I.validCode (c : TCode) : Option (Bool) := Y.H.A 27 [.st (cells 53 c)]
noncomputable def I.frameFits (f : TFrame) (g : TFn) (s : TShape) (lacks : Int) : Option (Bool) := Y.H.A 48 [.st (cells 78 f), .st (cells 89 g), .st (cells 96 s), .i .i64 lacks]
noncomputable def I.Machine_framesOk (m : List TCode × List ByteArray × List ByteArray × List TFrame × Int × Int × Int × ByteArray × ByteArray × Bool × Int × ByteArray × List TFile × List ByteArray)  : Option (Bool × List TCode × List ByteArray × List ByteArray × List TFrame × Int × Int × Int × ByteArray × ByteArray × Bool × Int × ByteArray × List TFile × List ByteArray) := Y.H.B 28 [.ad (.obj 0) 0] [[.fl 53 (m.1), .fl 9 (m.2.1), .fl 9 (m.2.2.1), .fl 78 (m.2.2.2.1), .i .i64 (m.2.2.2.2.1), .i .i64 (m.2.2.2.2.2.1), .i .i64 (m.2.2.2.2.2.2.1), .s (m.2.2.2.2.2.2.2.1), .s (m.2.2.2.2.2.2.2.2.1), .b (m.2.2.2.2.2.2.2.2.2.1), .i .i64 (m.2.2.2.2.2.2.2.2.2.2.1), .s (m.2.2.2.2.2.2.2.2.2.2.2.1), .fl 49 (m.2.2.2.2.2.2.2.2.2.2.2.2.1), .fl 9 (m.2.2.2.2.2.2.2.2.2.2.2.2.2)]]
noncomputable def I.Machine_waitOk (m : List TCode × List ByteArray × List ByteArray × List TFrame × Int × Int × Int × ByteArray × ByteArray × Bool × Int × ByteArray × List TFile × List ByteArray)  : Option (Bool × List TCode × List ByteArray × List ByteArray × List TFrame × Int × Int × Int × ByteArray × ByteArray × Bool × Int × ByteArray × List TFile × List ByteArray) := Y.H.B 29 [.ad (.obj 0) 0] [[.fl 53 (m.1), .fl 9 (m.2.1), .fl 9 (m.2.2.1), .fl 78 (m.2.2.2.1), .i .i64 (m.2.2.2.2.1), .i .i64 (m.2.2.2.2.2.1), .i .i64 (m.2.2.2.2.2.2.1), .s (m.2.2.2.2.2.2.2.1), .s (m.2.2.2.2.2.2.2.2.1), .b (m.2.2.2.2.2.2.2.2.2.1), .i .i64 (m.2.2.2.2.2.2.2.2.2.2.1), .s (m.2.2.2.2.2.2.2.2.2.2.2.1), .fl 49 (m.2.2.2.2.2.2.2.2.2.2.2.2.1), .fl 9 (m.2.2.2.2.2.2.2.2.2.2.2.2.2)]]
noncomputable def I.ValidMachine (m : TMachine) : Option (Bool) := Y.H.A 7 [.st (cells 34 m)]
noncomputable def L.eqIntS (a : List Int) (b : List Int) : Option (Bool) := Y.H.A 111 [.fl 3 a, .fl 3 b]
noncomputable def L.eqIns (a : TIns) (b : TIns) : Option (Bool) := Y.H.A 121 [.st (cells 98 a), .st (cells 98 b)]
noncomputable def L.eqInsS (a : List TIns) (b : List TIns) : Option (Bool) := Y.H.A 112 [.fl 98 a, .fl 98 b]
noncomputable def L.eqFn (a : TFn) (b : TFn) : Option (Bool) := Y.H.A 92 [.st (cells 89 a), .st (cells 89 b)]
noncomputable def L.eqFnS (a : List TFn) (b : List TFn) : Option (Bool) := Y.H.A 67 [.fl 89 a, .fl 89 b]
noncomputable def L.eqCode (a : TCode) (b : TCode) : Option (Bool) := Y.H.A 50 [.st (cells 53 a), .st (cells 53 b)]
noncomputable def L.eqCodeS (a : List TCode) (b : List TCode) : Option (Bool) := Y.H.A 30 [.fl 53 a, .fl 53 b]
noncomputable def L.eqStringS (a : List ByteArray) (b : List ByteArray) : Option (Bool) := Y.H.A 31 [.fl 9 a, .fl 9 b]
noncomputable def L.eqValue (a : TValue) (b : TValue) : Option (Bool) := Y.H.A 93 [.st (cells 108 a), .st (cells 108 b)]
noncomputable def L.eqValueS (a : List TValue) (b : List TValue) : Option (Bool) := Y.H.A 68 [.fl 108 a, .fl 108 b]
noncomputable def L.eqFrame (a : TFrame) (b : TFrame) : Option (Bool) := Y.H.A 51 [.st (cells 78 a), .st (cells 78 b)]
noncomputable def L.eqFrameS (a : List TFrame) (b : List TFrame) : Option (Bool) := Y.H.A 32 [.fl 78 a, .fl 78 b]
noncomputable def L.eqFile (a : TFile) (b : TFile) : Option (Bool) := Y.H.A 52 [.st (cells 49 a), .st (cells 49 b)]
noncomputable def L.eqFileS (a : List TFile) (b : List TFile) : Option (Bool) := Y.H.A 33 [.fl 49 a, .fl 49 b]
noncomputable def L.eqMachine (a : TMachine) (b : TMachine) : Option (Bool) := Y.H.A 8 [.st (cells 34 a), .st (cells 34 b)]
noncomputable def L.FnExactValidMachine (aM : TMachine) : Option (Bool) := Y.H.A 3 [.st (cells 27 aM)]
end Go.KM.M1
