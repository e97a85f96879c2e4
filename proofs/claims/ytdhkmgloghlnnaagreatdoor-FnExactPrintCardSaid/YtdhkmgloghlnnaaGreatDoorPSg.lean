/- The tables of the law's functions. Conditions: none. -/
import Derived.Test.YtdhkmgloghlnnaaGreatDoorKmX
import Derived.Test.YtdhkmgloghlnnaaGreatDoorPTy
import Derived.Lib.Fields
import Derived.Lib.Strings
import Derived.Lib.ItoaNum
import Derived.KernelRfl
import Derived.Test.YtdhkmgloghlnnaaGreatDoorProg
namespace Go.KM.P1
open Go Go.KM
open Go.KM.Fam (Dn dflt)
open Go.KM.Enc (cells sz mkE glob gany u8)
set_option autoImplicit false
set_option linter.unusedVariables false
set_option maxRecDepth 100000
def fieldsOf (x : ByteArray) : List ByteArray := (Lib.fields x.data.toList).map fun l => ⟨l.toArray⟩
def ascii (x : ByteArray) : Bool := x.data.toList.all fun b => decide (b.toNat < 128)
def bFields (ps : List PV) : Option (Bool × PV) := match ps with
  | [.s x] => some (decide (x.size < 4294967281) && ascii x, .fl 9 (fieldsOf x))
  | _ => none
def bFormatUint (ps : List PV) : Option (Bool × PV) := match ps with
  | [.i .u64 n, .i .i64 b] => some (decide (0 ≤ n) && decide (n < 18446744073709551616) && b == 10, .s ⟨(Lib.decDigits n.toNat).toArray⟩)
  | _ => none
def joinB : List ByteArray → ByteArray → ByteArray
  | [], _ => ⟨#[]⟩
  | [x], _ => x
  | x :: y :: r, s => x ++ s ++ joinB (y :: r) s
def bJoin (ps : List PV) : Option (Bool × PV) := match ps with
  | [.ol 9 xs, .s x] => some (decide (List.length xs ≤ 140737488355328) && decide ((joinB xs x).size ≤ 140737488355328), .s (joinB xs x))
  | _ => none
def bCopyCheck (ps : List PV) (M : List (List PV)) : Option (Bool × PV × List (List PV)) := match ps with
  | [.ad (.obj i) 0] => match M[i]? with
    | some [.slf T j b, c] => bif Nat.beq T 49 && Nat.beq j i then some (true, .tup [], M.set i [.slf T j true, c]) else none
    | _ => none
  | _ => none
def bString (ps : List PV) (M : List (List PV)) : Option (Bool × PV × List (List PV)) := match ps with
  | [.ad (.obj i) 0] => match M[i]? with
    | some [p, .ol T xs] => match u8 T with
      | some f => bif Nat.beq T 5 then some (true, .s (strOfBytes (xs.map f)), M.set i [p, .gone]) else none
      | none => none
    | _ => none
  | _ => none
noncomputable def S0 : Sig := { fn := Go.Proofs.Tryz.f21, pt := [], rt := [], ct := fun _ => false, lv := fun _ => ([], []), draw := fun _ => none, md := fun _ => .peek, esc := fun _ => false, e := false, lnd := true, hide := false, mo := [], nd := fun _ => none, w := false, x := false, xt := fun _ => false, am := fun _ => false, sub := false }
noncomputable def sg21 : Sig := { S0 with fn := Go.Proofs.Tryz.f21, pt := [.any, .any], rt := [.int .i64] }
noncomputable def sg9 : Sig := { S0 with fn := Go.Proofs.Tryz.f9, lv := fun p => match p with | 122 => ([(0, .no), (1, .no), (5, .no)], []) | _ => ([], []), pt := [.fl 66, .any], rt := [.int .i64] }
noncomputable def sg4 : Sig := { S0 with fn := Go.Proofs.Tryz.f4, pt := [.st, .any], rt := [.int .i64] }
noncomputable def sg26 : Sig := { S0 with fn := Go.Proofs.Tryz.f26, pt := [.any], rt := [.st 51] }
noncomputable def sg13 : Sig := { S0 with fn := Go.Proofs.Tryz.f13, lv := fun p => match p with | 58 => ([(0, .no), (3, .no), (4, .no)], []) | _ => ([], []), md := fun p => match p with | 22 => .take | _ => .peek, pt := [.fl 66], lnd := false, rt := [.ol 51] }
noncomputable def sg6 : Sig := { S0 with fn := Go.Proofs.Tryz.f6, md := fun p => match p with | 8 => .frz | _ => .peek, pt := [.st], lnd := false, rt := [.st 29] }
noncomputable def sg11 : Sig := { S0 with fn := Go.Proofs.Tryz.f11, lv := fun p => match p with | 506 => ([(1, .no), (4, .no), (5, .ol 42), (6, .ol 3), (7, .no)], [(1, [.fl 51])]) | _ => ([], []), md := fun p => match p with | 41 => .take | 57 => .take | 61 => .take | _ => .peek, pt := [.st], lnd := false, rt := [.ol 42, .bool] }
noncomputable def sg35 : Sig := { S0 with fn := Go.Proofs.Tryz.f35, ct := fun p => match p with | 429 => true | 6909 => true | _ => false, lv := fun p => match p with | 429 => ([(6, .no), (9, .no)], []) | 6909 => ([(6, .no), (17, .no)], []) | _ => ([], []), pt := [.any], rt := [.bool, .bool, .bool, .bool] }
noncomputable def sg36 : Sig := { S0 with fn := Go.Proofs.Tryz.f36, pt := [.any], rt := [.bool] }
noncomputable def sg53 : Sig := { S0 with fn := Go.Proofs.Tryz.f53, pt := [.any], rt := [.bool] }
noncomputable def sg24 : Sig := { S0 with fn := Go.Proofs.Tryz.f24, pt := [.any], rt := [.str] }
noncomputable def sg71 : Sig := { S0 with fn := Go.Proofs.Tryz.f71, lv := fun p => match p with | 26 => ([(0, .no), (3, .no)], []) | _ => ([], []), pt := [.any], rt := [.int .i64] }
noncomputable def sg42 : Sig := { S0 with fn := Go.Proofs.Tryz.f42, pt := [.any], rt := [.str, .int .i64] }
noncomputable def sg72 : Sig := { S0 with fn := Go.Proofs.Tryz.f72, pt := [], lnd := false, rt := [.ol 9] }
noncomputable def sg54 : Sig := { S0 with fn := Go.Proofs.Tryz.f54, lv := fun p => match p with | 250 => ([(0, .no), (6, .no), (7, .no)], []) | 58 => ([(0, .no), (3, .no)], []) | _ => ([], []), md := fun p => match p with | 6 => .frz | 15 => .take | _ => .peek, pt := [.any], rt := [.bool] }
noncomputable def sg73 : Sig := { S0 with fn := Go.Proofs.Tryz.f73, pt := [.any], rt := [.bool] }
noncomputable def sg55 : Sig := { S0 with fn := Go.Proofs.Tryz.f55, pt := [.any], rt := [.bool] }
noncomputable def sg37 : Sig := { S0 with fn := Go.Proofs.Tryz.f37, lv := fun p => match p with | 58 => ([(0, .no), (3, .no)], []) | _ => ([], []), pt := [.any], rt := [.bool] }
noncomputable def sg38 : Sig := { S0 with fn := Go.Proofs.Tryz.f38, pt := [.any], rt := [.bool] }
noncomputable def sg56 : Sig := { S0 with fn := Go.Proofs.Tryz.f56, ct := fun p => match p with | 105 => true | 429 => true | _ => false, lv := fun p => match p with | 105 => ([(3, .no), (4, .no)], []) | 429 => ([(3, .no), (7, .no)], []) | _ => ([], []), pt := [.any], rt := [.int .i64] }
noncomputable def sg57 : Sig := { S0 with fn := Go.Proofs.Tryz.f57, pt := [.any], rt := [.bool] }
noncomputable def sg39 : Sig := { S0 with fn := Go.Proofs.Tryz.f39, lv := fun p => match p with | 250 => ([(3, .no), (4, .no), (5, .no)], []) | _ => ([], []), pt := [.any], rt := [.int .u64] }
noncomputable def sg22 : Sig := { S0 with fn := Go.Proofs.Tryz.f22, draw := fun p => match p with | 8 => some 10 | _ => none, md := fun p => match p with | 7 => .take | _ => .peek, pt := [.any], rt := [.bool] }
noncomputable def sg40 : Sig := { S0 with fn := Go.Proofs.Tryz.f40, pt := [.any], rt := [.bool] }
noncomputable def sg41 : Sig := { S0 with fn := Go.Proofs.Tryz.f41, lv := fun p => match p with | 26 => ([(0, .no), (3, .no)], []) | _ => ([], []), pt := [.fl 3], rt := [.bool] }
noncomputable def sg43 : Sig := { S0 with fn := Go.Proofs.Tryz.f43, pt := [.any], rt := [.bool] }
noncomputable def sg23 : Sig := { S0 with fn := Go.Proofs.Tryz.f23, ct := fun p => match p with | 233 => true | 941 => true | 3773 => true | _ => false, lv := fun p => match p with | 494927858 => ([(1, .no), (5, .no), (8, .no)], []) | 1979711474 => ([(1, .no), (5, .no), (9, .no)], []) | 7918845938 => ([(1, .no), (5, .no), (10, .no)], []) | 233 => ([(1, .no), (2, .no), (5, .no), (14, .no), (15, .no)], [(2, [])]) | 941 => ([(1, .no), (2, .no), (5, .no), (14, .no), (25, .no)], [(2, [])]) | 3773 => ([(1, .no), (2, .no), (5, .no), (14, .no), (40, .no)], [(2, [])]) | _ => ([], []), md := fun p => match p with | 59 => .take | _ => .peek, pt := [.any, .fl 3], rt := [.bool] }
noncomputable def sg10 : Sig := { S0 with fn := Go.Proofs.Tryz.f10, lv := fun p => match p with | 128154 => ([(1, .no), (3, .no), (5, .ol 3), (6, .no), (7, .ol 3), (8, .no), (9, .no)], [(1, [.fl 51])]) | 250 => ([(1, .no), (3, .no), (5, .ol 3), (6, .no)], [(1, [.fl 51])]) | _ => ([], []), draw := fun p => match p with | 13 => some 0 | _ => none, md := fun p => match p with | 3 => .frz | 10 => .take | 34 => .take | 73 => .take | _ => .peek, pt := [.st], rt := [.bool] }
noncomputable def sg74 : Sig := { S0 with fn := Go.Proofs.Tryz.f74, draw := fun p => match p with | 3 => some 9 | _ => none, pt := [.any], rt := [.str] }
noncomputable def sg87 : Sig := { S0 with fn := Go.Proofs.Tryz.f87, pt := [.any], rt := [.bool] }
noncomputable def sg75 : Sig := { S0 with fn := Go.Proofs.Tryz.f75, lv := fun p => match p with | 122 => ([(0, .no), (3, .ol 5), (4, .no), (5, .no)], []) | _ => ([], []), draw := fun p => match p with | 8 => some 14 | _ => none, md := fun p => match p with | 17 => .take | 23 => .take | 38 => .take | _ => .peek, pt := [.any], rt := [.str] }
noncomputable def sg76 : Sig := { S0 with fn := Go.Proofs.Tryz.f76, pt := [.any], rt := [.str] }
noncomputable def sg77 : Sig := { S0 with fn := Go.Proofs.Tryz.f77, e := true, pt := [.any, .any], lnd := false, rt := [.str], mo := [[.fl 51, .fl 42]] }
noncomputable def sg78 : Sig := { S0 with fn := Go.Proofs.Tryz.f78, pt := [.any], rt := [.str, .int .i64] }
noncomputable def sg59 : Sig := { S0 with fn := Go.Proofs.Tryz.f59, lv := fun p => match p with | 58 => ([(0, .no), (1, .no), (5, .ol 5), (6, .no)], []) | _ => ([], []), md := fun p => match p with | 16 => .take | 18 => .take | _ => .peek, e := true, pt := [.any, .fl 3], lnd := false, rt := [.str], mo := [[.fl 51, .fl 42]] }
noncomputable def sg58 : Sig := { S0 with fn := Go.Proofs.Tryz.f58, draw := fun p => match p with | 7 => some 6 | 17 => some 7 | 20 => some 14 | 22 => some 6 | _ => none, md := fun p => match p with | 6 => .frz | 25 => .take | 72 => .take | 105 => .take | _ => .peek, e := true, pt := [.any, .any], lnd := false, rt := [.str], mo := [[.fl 51, .fl 42]] }
noncomputable def sg44 : Sig := { S0 with fn := Go.Proofs.Tryz.f44, draw := fun p => match p with | 5 => some 9 | 7 => some 8 | 9 => some 16 | 12 => some 0 | 16 => some 16 | _ => none, md := fun p => match p with | 8 => .frz | 24 => .take | _ => .peek, e := true, pt := [.any, .any, .any], lnd := false, rt := [.str], mo := [[.fl 51, .fl 42]] }
noncomputable def sg25 : Sig := { S0 with fn := Go.Proofs.Tryz.f25, lv := fun p => match p with | 122 => ([(0, .no), (2, .no), (7, .ol 5), (8, .no), (9, .no)], []) | _ => ([], []), md := fun p => match p with | 8 => .frz | 17 => .take | 24 => .take | 27 => .take | _ => .peek, e := true, pt := [.any, .any, .any], lnd := false, rt := [.str], mo := [[.fl 51, .fl 42]] }
noncomputable def sg12 : Sig := { S0 with fn := Go.Proofs.Tryz.f12, ct := fun p => match p with | 32401 => true | _ => false, lv := fun p => match p with | 506 => ([(0, .no), (5, .no), (6, .no), (7, .no), (8, .no), (9, .no)], [(5, [])]) | 32401 => ([(0, .no), (5, .no), (6, .no), (7, .no), (8, .no), (9, .no)], [(5, [])]) | _ => ([], []), draw := fun p => match p with | 10 => some 28 | _ => none, md := fun p => match p with | 6 => .frz | 24 => .take | _ => .peek, e := true, pt := [.any, .any], lnd := false, rt := [.str], mo := [[.fl 51, .fl 42]] }
noncomputable def sg5 : Sig := { S0 with fn := Go.Proofs.Tryz.f5, lv := fun p => match p with | 1018 => ([(5, .no), (6, .ol 5), (7, .no), (8, .no)], []) | _ => ([], []), md := fun p => match p with | 3 => .frz | 7 => .peek | 12 => .take | 17 => .frz | 27 => .peek | 34 => .take | _ => .peek, esc := fun p => match p with | 20 => true | _ => false, e := true, pt := [.st], rt := [.str], hide := true }
noncomputable def sg27 : Sig := { S0 with fn := Go.Proofs.Tryz.f27, lv := fun p => match p with | 122 => ([(3, .ol 45), (18, .no), (19, .no), (20, .no)], []) | _ => ([], []), draw := fun p => match p with | 10 => some 0 | _ => none, md := fun p => match p with | 43 => .take | 60 => .take | _ => .peek, pt := [.st], lnd := false, rt := [.fp 54], nd := fun p => match p with | 38 => some 54 | _ => none }
noncomputable def sg60 : Sig := { S0 with fn := Go.Proofs.Tryz.f60, lv := fun p => match p with | 26 => ([(2, .no), (14, .no), (15, .no), (16, .no)], []) | _ => ([], []), pt := [.fp 54, .any, .any], rt := [.bool] }
noncomputable def sg61 : Sig := { S0 with fn := Go.Proofs.Tryz.f61, pt := [.any], rt := [.bool] }
noncomputable def sg62 : Sig := { S0 with fn := Go.Proofs.Tryz.f62, pt := [.any], rt := [.bool] }
noncomputable def sg63 : Sig := { S0 with fn := Go.Proofs.Tryz.f63, pt := [.any], rt := [.bool] }
noncomputable def sg64 : Sig := { S0 with fn := Go.Proofs.Tryz.f64, pt := [.any], rt := [.bool] }
noncomputable def sg45 : Sig := { S0 with fn := Go.Proofs.Tryz.f45, ct := fun p => match p with | 233 => true | 941 => true | 3773 => true | _ => false, lv := fun p => match p with | 3959422954 => ([(253, .no), (254, .no), (255, .no)], []) | 233 => ([(0, .no), (3, .no), (15, .no), (16, .no)], []) | 941 => ([(0, .no), (3, .no), (15, .no), (26, .no)], []) | 3773 => ([(0, .no), (3, .no), (15, .no), (39, .no)], []) | _ => ([], []), pt := [.fp 54], rt := [.bool] }
noncomputable def sg65 : Sig := { S0 with fn := Go.Proofs.Tryz.f65, pt := [.any], rt := [.bool] }
noncomputable def sg88 : Sig := { S0 with fn := Go.Proofs.Tryz.f88, ct := fun p => match p with | 105 => true | 429 => true | _ => false, lv := fun p => match p with | 105 => ([(3, .no), (4, .no)], []) | 429 => ([(3, .no), (7, .no)], []) | _ => ([], []), pt := [.any], rt := [.int .u64] }
noncomputable def sg89 : Sig := { S0 with fn := Go.Proofs.Tryz.f89, pt := [.any], rt := [.bool] }
noncomputable def sg79 : Sig := { S0 with fn := Go.Proofs.Tryz.f79, pt := [.any, .any], rt := [.int .i64] }
noncomputable def sg66 : Sig := { S0 with fn := Go.Proofs.Tryz.f66, draw := fun p => match p with | 6 => some 12 | _ => none, pt := [.any], rt := [.bool] }
noncomputable def sg80 : Sig := { S0 with fn := Go.Proofs.Tryz.f80, pt := [.any], rt := [.bool] }
noncomputable def sg91 : Sig := { S0 with fn := Go.Proofs.Tryz.f91, lv := fun p => match p with | 26 => ([(0, .no), (5, .no), (6, .no), (7, .no)], []) | _ => ([], []), pt := [.any], rt := [.int .i64] }
noncomputable def sg81 : Sig := { S0 with fn := Go.Proofs.Tryz.f81, lv := fun p => match p with | 26 => ([(0, .no), (5, .no), (6, .no), (7, .no)], []) | _ => ([], []), pt := [.any], rt := [.bool] }
noncomputable def sg92 : Sig := { S0 with fn := Go.Proofs.Tryz.f92, pt := [.any], rt := [.bool] }
noncomputable def sg82 : Sig := { S0 with fn := Go.Proofs.Tryz.f82, pt := [.any], rt := [.bool] }
noncomputable def sg67 : Sig := { S0 with fn := Go.Proofs.Tryz.f67, lv := fun p => match p with | 58 => ([(0, .no), (3, .no)], []) | _ => ([], []), pt := [.any], rt := [.bool] }
noncomputable def sg46 : Sig := { S0 with fn := Go.Proofs.Tryz.f46, ct := fun p => match p with | 15101 => true | _ => false, lv := fun p => match p with | 15101 => ([(0, .no), (3, .no), (4, .no), (5, .no), (6, .no), (35, .no), (123, .no)], []) | _ => ([], []), draw := fun p => match p with | 1 => some 0 | 4 => some 0 | _ => none, pt := [.fp 54], rt := [.bool] }
noncomputable def sg28 : Sig := { S0 with fn := Go.Proofs.Tryz.f28, lv := fun p => match p with | 58 => ([(1, .no), (22, .no), (23, .no), (24, .no)], []) | _ => ([], []), pt := [.fp 54, .any], rt := [.bool] }
noncomputable def sg14 : Sig := { S0 with fn := Go.Proofs.Tryz.f14, pt := [.st], lnd := false, rt := [.fp 54] }
noncomputable def sg15 : Sig := { S0 with fn := Go.Proofs.Tryz.f15, md := fun p => match p with | 12 => .take | _ => .peek, e := true, pt := [.any, .any], lnd := false, rt := [.int .i64, .err], mo := [[.slf 49 0, .ol 5]], sub := true }
noncomputable def sg31 : Sig := { S0 with fn := Go.Proofs.Tryz.f31, e := true, pt := [.any], lnd := false, rt := [], mo := [[.slf 49 0, .ol 5], [.str], [.obj 0]] }
noncomputable def sg32 : Sig := { S0 with fn := Go.Proofs.Tryz.f32, lv := fun p => match p with | 6 => ([(1, .no), (2, .no), (9, .no), (10, .no), (11, .no)], []) | _ => ([], []), e := true, pt := [.fp 54], lnd := false, rt := [], mo := [[.slf 49 0, .ol 5], [.str], [.obj 0]] }
noncomputable def sg49 : Sig := { S0 with fn := Go.Proofs.Tryz.f49, pt := [.fp 54], rt := [.str] }
noncomputable def sg50 : Sig := { S0 with fn := Go.Proofs.Tryz.f50, lv := fun p => match p with | 58 => ([(2, .ol 9), (8, .no), (9, .no), (10, .no)], []) | _ => ([], []), md := fun p => match p with | 14 => .take | 20 => .take | _ => .peek, e := true, pt := [], lnd := false, rt := [.str], mo := [[.fp 54]] }
noncomputable def sg70 : Sig := { S0 with fn := Go.Proofs.Tryz.f70, md := fun p => match p with | 11 => .take | _ => .peek, e := true, pt := [.any, .any], lnd := false, rt := [.err], mo := [[.slf 49 0, .ol 5]], sub := true }
noncomputable def sg52 : Sig := { S0 with fn := Go.Proofs.Tryz.f52, lv := fun p => match p with | 122 => ([(0, .no), (3, .no), (4, .no)], [(3, [.no, .fl 5])]) | _ => ([], []), esc := fun p => match p with | 3 => true | _ => false, e := true, pt := [.any], rt := [.str], hide := true }
noncomputable def sg33 : Sig := { S0 with fn := Go.Proofs.Tryz.f33, draw := fun p => match p with | 7 => some 0 | 18 => some 16 | 20 => some 27 | 22 => some 7 | 24 => some 10 | 25 => some 10 | _ => none, md := fun p => match p with | 63 => .frz | _ => .peek, esc := fun p => match p with | 1 => true | _ => false, e := true, pt := [.fp 54], rt := [.str], hide := true }
noncomputable def sg17 : Sig := { S0 with fn := Go.Proofs.Tryz.f17, lv := fun p => match p with | 32244 => ([(0, .no), (6, .no), (7, .no)], []) | _ => ([], []), draw := fun p => match p with | 5 => some 17 | 7 => some 16 | 34 => some 19 | _ => none, esc := fun p => match p with | 4 => true | 5 => true | _ => false, e := true, pt := [.fp 54, .any, .any], lnd := false, rt := [], mo := [[.slf 49 0, .ol 5]], sub := true }
noncomputable def sg18 : Sig := { S0 with fn := Go.Proofs.Tryz.f18, e := true, pt := [.any], lnd := false, rt := [.int .i64], mo := [[.slf 49 0, .ol 5]], sub := true }
noncomputable def sg7 : Sig := { S0 with fn := Go.Proofs.Tryz.f7, ct := fun p => match p with | 1025661 => true | _ => false, lv := fun p => match p with | 8205306 => ([(4, .no), (20, .no), (21, .no), (22, .no), (100, .no), (101, .no), (102, .no)], [(4, [.no, .fl 5])]) | 512826 => ([(4, .no), (6, .no), (7, .ol 9), (8, .no), (20, .no), (21, .no), (22, .no), (37, .no), (38, .no), (39, .no)], [(4, [.no, .fl 5])]) | 250 => ([(4, .no), (20, .no), (21, .no), (22, .no)], [(4, [.no, .fl 5])]) | 1025661 => ([(4, .no), (6, .no), (8, .no), (20, .no), (21, .no), (22, .no)], [(4, [.no, .fl 5])]) | _ => ([], []), draw := fun p => match p with | 13 => some 0 | 15 => some 9 | 17 => some 0 | _ => none, md := fun p => match p with | 43 => .take | 69 => .take | _ => .peek, esc := fun p => match p with | 4 => true | _ => false, e := true, pt := [.st], rt := [.str], hide := true }
noncomputable def sg34 : Sig := { S0 with fn := Go.Proofs.Tryz.f34, pt := [.any, .any], rt := [.bool] }
noncomputable def sg20 : Sig := { S0 with fn := Go.Proofs.Tryz.f20, lv := fun p => match p with | 58 => ([(0, .no), (1, .no), (5, .no)], []) | _ => ([], []), draw := fun p => match p with | 6 => some 0 | _ => none, pt := [.fl 51, .fl 51], rt := [.bool] }
noncomputable def sg8 : Sig := { S0 with fn := Go.Proofs.Tryz.f8, pt := [.st, .st], rt := [.bool] }
noncomputable def sg3 : Sig := { S0 with fn := Go.Proofs.Tryz.f3, draw := fun p => match p with | 10 => some 3 | _ => none, pt := [.st], rt := [.bool] }
noncomputable def sgs : List (Nat × Sig) := [(21, sg21), (9, sg9), (4, sg4), (26, sg26), (13, sg13), (6, sg6), (11, sg11), (35, sg35), (36, sg36), (53, sg53), (24, sg24), (71, sg71), (42, sg42), (72, sg72), (54, sg54), (73, sg73), (55, sg55), (37, sg37), (38, sg38), (56, sg56), (57, sg57), (39, sg39), (22, sg22), (40, sg40), (41, sg41), (43, sg43), (23, sg23), (10, sg10), (74, sg74), (87, sg87), (75, sg75), (76, sg76), (77, sg77), (78, sg78), (59, sg59), (58, sg58), (44, sg44), (25, sg25), (12, sg12), (5, sg5), (27, sg27), (60, sg60), (61, sg61), (62, sg62), (63, sg63), (64, sg64), (45, sg45), (65, sg65), (88, sg88), (89, sg89), (79, sg79), (66, sg66), (80, sg80), (91, sg91), (81, sg81), (92, sg92), (82, sg82), (67, sg67), (46, sg46), (28, sg28), (14, sg14), (15, sg15), (31, sg31), (32, sg32), (49, sg49), (50, sg50), (70, sg70), (52, sg52), (33, sg33), (17, sg17), (18, sg18), (7, sg7), (34, sg34), (20, sg20), (8, sg8), (3, sg3)]
noncomputable def Y : Sys := ⟨tabOf rows, sgs, [(90, bFields), (16, bJoin), (51, bFormatUint)], [(29, bCopyCheck), (19, bString)]⟩
noncomputable def L.szNode (a : TNode) (left : Int) : Option (Int) := Y.H.A 21 [.st (cells 66 a), .i .i64 left]
noncomputable def L.szNodeS (a : List TNode) (left : Int) : Option (Int) := Y.H.A 9 [.fl 66 a, .i .i64 left]
noncomputable def L.szTree (a : TTree) (left : Int) : Option (Int) := Y.H.A 4 [.st (cells 24 a), .i .i64 left]
noncomputable def L.toNode (a : TNode) : Option (TNode) := Y.H.A 26 [.st (cells 66 a)]
noncomputable def L.toNodeS (a : List TNode) : Option (List TNode) := Y.H.A 13 [.fl 66 a]
noncomputable def L.toTree (a : TTree) : Option (TTree) := Y.H.A 6 [.st (cells 24 a)]
noncomputable def R.l2Kids (t : TTree) : Option (List (List Int) × Bool) := Y.H.A 11 [.st (cells 29 t)]
noncomputable def R.l2Uses (kind : Int) : Option (Bool × Bool × Bool × Bool) := Y.H.A 35 [.i .i64 kind]
noncomputable def R.l2Named (kind : Int) : Option (Bool) := Y.H.A 36 [.i .i64 kind]
noncomputable def R.l1Letter (b : Int) : Option (Bool) := Y.H.A 53 [.i .u8 b]
noncomputable def R.l1TypeWord (t : Int) : Option (ByteArray) := Y.H.A 24 [.i .i64 t]
noncomputable def R.l1Type (w : ByteArray) : Option (Int) := Y.H.A 71 [.s w]
noncomputable def R.l1BuiltWord (op : Int) : Option (ByteArray × Int) := Y.H.A 42 [.i .i64 op]
noncomputable def R.l1Plain  : Option (List ByteArray) := Y.H.A 72 []
noncomputable def R.l1Taken (w : ByteArray) : Option (Bool) := Y.H.A 54 [.s w]
noncomputable def R.l1Digit (b : Int) : Option (Bool) := Y.H.A 73 [.i .u8 b]
noncomputable def R.l1Tail (b : Int) : Option (Bool) := Y.H.A 55 [.i .u8 b]
noncomputable def R.l1NameOk (s : ByteArray) : Option (Bool) := Y.H.A 37 [.s s]
noncomputable def R.l1Integer (t : Int) : Option (Bool) := Y.H.A 38 [.i .i64 t]
noncomputable def R.l1Bits (t : Int) : Option (Int) := Y.H.A 56 [.i .i64 t]
noncomputable def R.l1Signed (t : Int) : Option (Bool) := Y.H.A 57 [.i .i64 t]
noncomputable def R.l1Max (t : Int) : Option (Int) := Y.H.A 39 [.i .i64 t]
noncomputable def R.l2Fields (n : TNode) : Option (Bool) := Y.H.A 22 [.st (cells 51 n)]
noncomputable def R.l2E (kind : Int) : Option (Bool) := Y.H.A 40 [.i .i64 kind]
noncomputable def R.l2AllE (kinds : List Int) : Option (Bool) := Y.H.A 41 [.fl 3 kinds]
noncomputable def R.l2S (kind : Int) : Option (Bool) := Y.H.A 43 [.i .i64 kind]
noncomputable def R.l2Fits (n : TNode) (kinds : List Int) : Option (Bool) := Y.H.A 23 [.st (cells 51 n), .fl 3 kinds]
noncomputable def R.ValidTree (t : TTree) : Option (Bool) := Y.H.A 10 [.st (cells 29 t)]
noncomputable def R.l1Decimal (n : Int) : Option (ByteArray) := Y.H.A 74 [.i .u64 n]
noncomputable def R.l1Bare (b : Int) : Option (Bool) := Y.H.A 87 [.i .u8 b]
noncomputable def R.l1Quote (s : ByteArray) : Option (ByteArray) := Y.H.A 75 [.s s]
noncomputable def R.l2UnMark (op : Int) : Option (ByteArray) := Y.H.A 76 [.i .i64 op]
noncomputable def R.l2Pen_held (p : List TNode × List (List Int)) (k : Int) : Option (ByteArray × List TNode × List (List Int)) := Y.H.B 77 [.ad (.obj 0) 0, .i .i64 k] [[.fl 51 (p.1), .fl 42 (p.2)]]
noncomputable def R.l2Mark (op : Int) : Option (ByteArray × Int) := Y.H.A 78 [.i .i64 op]
noncomputable def R.l2Pen_list (p : List TNode × List (List Int)) (ks : List Int) : Option (ByteArray × List TNode × List (List Int)) := Y.H.B 59 [.ad (.obj 0) 0, .fl 3 ks] [[.fl 51 (p.1), .fl 42 (p.2)]]
noncomputable def R.l2Pen_expr (p : List TNode × List (List Int)) (k : Int) : Option (ByteArray × List TNode × List (List Int)) := Y.H.B 58 [.ad (.obj 0) 0, .i .i64 k] [[.fl 51 (p.1), .fl 42 (p.2)]]
noncomputable def R.l2Pen_statement (p : List TNode × List (List Int)) (k : Int) (gap : ByteArray) : Option (ByteArray × List TNode × List (List Int)) := Y.H.B 44 [.ad (.obj 0) 0, .i .i64 k, .s gap] [[.fl 51 (p.1), .fl 42 (p.2)]]
noncomputable def R.l2Pen_block (p : List TNode × List (List Int)) (k : Int) (gap : ByteArray) : Option (ByteArray × List TNode × List (List Int)) := Y.H.B 25 [.ad (.obj 0) 0, .i .i64 k, .s gap] [[.fl 51 (p.1), .fl 42 (p.2)]]
noncomputable def R.l2Pen_fn (p : List TNode × List (List Int)) (k : Int) : Option (ByteArray × List TNode × List (List Int)) := Y.H.B 12 [.ad (.obj 0) 0, .i .i64 k] [[.fl 51 (p.1), .fl 42 (p.2)]]
noncomputable def R.Print (t : TTree) : Option (ByteArray) := Y.H.A 5 [.st (cells 29 t)]
noncomputable def I.grow (t : TTree) : Option (Option TNode_) := Y.H.A 27 [.st (cells 29 t)]
noncomputable def I.node_kinds_c61 (n : Option TNode_) (from_ : Int) : Option (Bool) := Y.H.A 60 [.fp 54 n, .i .i64 from_, .clo 61 []]
noncomputable def I.node_kinds_c63 (n : Option TNode_) (from_ : Int) : Option (Bool) := Y.H.A 60 [.fp 54 n, .i .i64 from_, .clo 63 []]
noncomputable def I.node_kinds_c64 (n : Option TNode_) (from_ : Int) : Option (Bool) := Y.H.A 60 [.fp 54 n, .i .i64 from_, .clo 64 []]
noncomputable def I.isE (k : Int) : Option (Bool) := Y.H.A 61 [.i .i64 k]
noncomputable def I.isBlock (k : Int) : Option (Bool) := Y.H.A 62 [.i .i64 k]
noncomputable def I.isS (k : Int) : Option (Bool) := Y.H.A 63 [.i .i64 k]
noncomputable def I.node_kidsOk_1 (k : Int) : Option (Bool) := Y.H.A 64 [.i .i64 k]
noncomputable def I.node_kidsOk (n : Option TNode_) : Option (Bool) := Y.H.A 45 [.fp 54 n]
noncomputable def I.integer (t : Int) : Option (Bool) := Y.H.A 65 [.i .i64 t]
noncomputable def I.bits (t : Int) : Option (Int) := Y.H.A 88 [.i .i64 t]
noncomputable def I.signed (t : Int) : Option (Bool) := Y.H.A 89 [.i .i64 t]
noncomputable def I.into (x : Int) (t : Int) : Option (Int) := Y.H.A 79 [.i .u64 x, .i .i64 t]
noncomputable def I.ValidValue (v : TValue) : Option (Bool) := Y.H.A 66 [.st (cells 97 v)]
noncomputable def I.lower (b : Int) : Option (Bool) := Y.H.A 80 [.i .u8 b]
noncomputable def I.typeOfWord (s : ByteArray) : Option (Int) := Y.H.A 91 [.s s]
noncomputable def I.isTaken (s : ByteArray) : Option (Bool) := Y.H.A 81 [.s s]
noncomputable def I.digit (b : Int) : Option (Bool) := Y.H.A 92 [.i .u8 b]
noncomputable def I.wordy (b : Int) : Option (Bool) := Y.H.A 82 [.i .u8 b]
noncomputable def I.nameOk (s : ByteArray) : Option (Bool) := Y.H.A 67 [.s s]
noncomputable def I.node_fieldsOk (n : Option TNode_) : Option (Bool) := Y.H.A 46 [.fp 54 n]
noncomputable def I.node_ok (n : Option TNode_) (above : Int) : Option (Bool) := Y.H.A 28 [.fp 54 n, .i .i64 above]
noncomputable def I.validRoot (t : TTree) : Option (Option TNode_) := Y.H.A 14 [.st (cells 29 t)]
noncomputable def G.strings_Builder_WriteString (b : Bool × List Int) (s : ByteArray) : Option ((Int × Bool) × Bool × List Int) := Y.H.B 15 [.ad (.obj 0) 0, .s s] [[.slf 49 0 (b.1), .ol 5 (b.2)]]
noncomputable def I.node_lines_1 (o0 : Bool × List Int) (o1 : ByteArray) (o2 : Unit) (s : ByteArray) : Option (Unit × (Bool × List Int) × ByteArray × Unit) := Y.H.B 31 [.s s, .ad (.obj 2) 0, .ad (.obj 1) 0] [[.slf 49 0 (o0.1), .ol 5 (o0.2)], [.s (o1)], [.ad (.obj 0) 0]]
noncomputable def I.node_lines_2 (o0 : Bool × List Int) (o1 : ByteArray) (o2 : Unit) (k : Option TNode_) : Option (Unit × (Bool × List Int) × ByteArray × Unit) := Y.H.B 32 [.fp 54 k, .ad (.obj 1) 0, .ad (.obj 2) 0] [[.slf 49 0 (o0.1), .ol 5 (o0.2)], [.s (o1)], [.ad (.obj 0) 0]]
noncomputable def I.node_show_1 (k : Option TNode_) : Option (ByteArray) := Y.H.A 49 [.fp 54 k]
noncomputable def I.node_show_2 (o0 : Option TNode_)  : Option (ByteArray × Option TNode_) := Y.H.B 50 [.ad (.obj 0) 0] [[.fp 54 (o0)]]
noncomputable def G.strings_Builder_WriteByte (b : Bool × List Int) (c : Int) : Option (Bool × Bool × List Int) := Y.H.B 70 [.ad (.obj 0) 0, .i .u8 c] [[.slf 49 0 (b.1), .ol 5 (b.2)]]
noncomputable def I.quote (s : ByteArray) : Option (ByteArray) := Y.H.A 52 [.s s]
noncomputable def I.node_show (n : Option TNode_) : Option (ByteArray) := Y.H.A 33 [.fp 54 n]
noncomputable def I.node_lines (b : Bool × List Int) (n : Option TNode_) (ind : ByteArray) : Option (Unit × Bool × List Int) := Y.H.B 17 [.fp 54 n, .s ind, .ad (.obj 0) 0] [[.slf 49 0 (b.1), .ol 5 (b.2)]]
noncomputable def G.strings_Builder_Len (b : Bool × List Int)  : Option (Int × Bool × List Int) := Y.H.B 18 [.ad (.obj 0) 0] [[.slf 49 0 (b.1), .ol 5 (b.2)]]
noncomputable def I.Print (t : TTree) : Option (ByteArray) := Y.H.A 7 [.st (cells 29 t)]
noncomputable def L.eqNode (a : TNode) (b : TNode) : Option (Bool) := Y.H.A 34 [.st (cells 51 a), .st (cells 51 b)]
noncomputable def L.eqNodeS (a : List TNode) (b : List TNode) : Option (Bool) := Y.H.A 20 [.fl 51 a, .fl 51 b]
noncomputable def L.eqTree (a : TTree) (b : TTree) : Option (Bool) := Y.H.A 8 [.st (cells 29 a), .st (cells 29 b)]
noncomputable def L.FnExactPrint (aT : TTree) : Option (Bool) := Y.H.A 3 [.st (cells 24 aT)]
end Go.KM.P1
