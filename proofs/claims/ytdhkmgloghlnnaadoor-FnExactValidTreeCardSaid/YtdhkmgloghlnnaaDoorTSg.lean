/- The tables of the law's functions. Conditions: none. -/
import Derived.Test.YtdhkmgloghlnnaaDoorKmX
import Derived.Test.YtdhkmgloghlnnaaDoorTTy
import Derived.Lib.Fields
import Derived.Lib.Strings
import Derived.KernelRfl
import Derived.Test.YtdhkmgloghlnnaaDoorProg
namespace Go.KM.T1
open Go Go.KM
open Go.KM.Fam (Dn dflt)
open Go.KM.Enc (cells sz mkE glob gany u8)
set_option autoImplicit false
set_option linter.unusedVariables false
set_option maxRecDepth 100000
def fieldsOf (x : ByteArray) : List ByteArray := (Lib.fields x.data.toList).map fun l => ⟨l.toArray⟩
def ascii (x : ByteArray) : Bool := x.data.toList.all fun b => decide (b.toNat < 128)
def bFields (ps : List PV) : Option (Bool × PV) := match ps with
  | [.s x] => some (decide (x.size < 4294967281) && ascii x, .fl 9 (fieldsOf x))
  | _ => none
noncomputable def sg43 : Sig := { fn := Go.Proofs.Tryd.f43, ct := fun _ => false, lv := fun _ => ([], []), draw := fun _ => none, md := fun _ => .peek, esc := fun _ => false, e := false, pt := [.any, .any], lnd := true, rt := [.int .i64], hide := false, mo := [], nd := fun _ => none }
noncomputable def sg22 : Sig := { fn := Go.Proofs.Tryd.f22, ct := fun _ => false, lv := fun p => match p with | 122 => ([(0, .no), (1, .no), (5, .no)], []) | _ => ([], []), draw := fun _ => none, md := fun _ => .peek, esc := fun _ => false, e := false, pt := [.fl 88, .any], lnd := true, rt := [.int .i64], hide := false, mo := [], nd := fun _ => none }
noncomputable def sg7 : Sig := { fn := Go.Proofs.Tryd.f7, ct := fun _ => false, lv := fun _ => ([], []), draw := fun _ => none, md := fun _ => .peek, esc := fun _ => false, e := false, pt := [.st, .any], lnd := true, rt := [.int .i64], hide := false, mo := [], nd := fun _ => none }
noncomputable def sg53 : Sig := { fn := Go.Proofs.Tryd.f53, ct := fun _ => false, lv := fun _ => ([], []), draw := fun _ => none, md := fun _ => .peek, esc := fun _ => false, e := false, pt := [.any], lnd := true, rt := [.st 56], hide := false, mo := [], nd := fun _ => none }
noncomputable def sg26 : Sig := { fn := Go.Proofs.Tryd.f26, ct := fun _ => false, lv := fun p => match p with | 58 => ([(0, .no), (3, .no), (4, .no)], []) | _ => ([], []), draw := fun _ => none, md := fun p => match p with | 22 => .take | _ => .peek, esc := fun _ => false, e := false, pt := [.fl 88], lnd := false, rt := [.ol 56], hide := false, mo := [], nd := fun _ => none }
noncomputable def sg9 : Sig := { fn := Go.Proofs.Tryd.f9, ct := fun _ => false, lv := fun _ => ([], []), draw := fun _ => none, md := fun p => match p with | 8 => .frz | _ => .peek, esc := fun _ => false, e := false, pt := [.st], lnd := false, rt := [.st 29], hide := false, mo := [], nd := fun _ => none }
noncomputable def sg23 : Sig := { fn := Go.Proofs.Tryd.f23, ct := fun _ => false, lv := fun p => match p with | 506 => ([(1, .no), (4, .no), (5, .ol 54), (6, .ol 3), (7, .no)], [(1, [.fl 56])]) | _ => ([], []), draw := fun _ => none, md := fun p => match p with | 41 => .take | 57 => .take | 61 => .take | _ => .peek, esc := fun _ => false, e := false, pt := [.st], lnd := false, rt := [.ol 54, .bool], hide := false, mo := [], nd := fun _ => none }
noncomputable def sg44 : Sig := { fn := Go.Proofs.Tryd.f44, ct := fun p => match p with | 429 => true | 6909 => true | _ => false, lv := fun p => match p with | 429 => ([(6, .no), (9, .no)], []) | 6909 => ([(6, .no), (17, .no)], []) | _ => ([], []), draw := fun _ => none, md := fun _ => .peek, esc := fun _ => false, e := false, pt := [.any], lnd := true, rt := [.bool, .bool, .bool, .bool], hide := false, mo := [], nd := fun _ => none }
noncomputable def sg45 : Sig := { fn := Go.Proofs.Tryd.f45, ct := fun _ => false, lv := fun _ => ([], []), draw := fun _ => none, md := fun _ => .peek, esc := fun _ => false, e := false, pt := [.any], lnd := true, rt := [.bool], hide := false, mo := [], nd := fun _ => none }
noncomputable def sg86 : Sig := { fn := Go.Proofs.Tryd.f86, ct := fun _ => false, lv := fun _ => ([], []), draw := fun _ => none, md := fun _ => .peek, esc := fun _ => false, e := false, pt := [.any], lnd := true, rt := [.bool], hide := false, mo := [], nd := fun _ => none }
noncomputable def sg151 : Sig := { fn := Go.Proofs.Tryd.f151, ct := fun _ => false, lv := fun _ => ([], []), draw := fun _ => none, md := fun _ => .peek, esc := fun _ => false, e := false, pt := [.any], lnd := true, rt := [.str], hide := false, mo := [], nd := fun _ => none }
noncomputable def sg121 : Sig := { fn := Go.Proofs.Tryd.f121, ct := fun _ => false, lv := fun p => match p with | 26 => ([(0, .no), (3, .no)], []) | _ => ([], []), draw := fun _ => none, md := fun _ => .peek, esc := fun _ => false, e := false, pt := [.any], lnd := true, rt := [.int .i64], hide := false, mo := [], nd := fun _ => none }
noncomputable def sg51 : Sig := { fn := Go.Proofs.Tryd.f51, ct := fun _ => false, lv := fun _ => ([], []), draw := fun _ => none, md := fun _ => .peek, esc := fun _ => false, e := false, pt := [.any], lnd := true, rt := [.str, .int .i64], hide := false, mo := [], nd := fun _ => none }
noncomputable def sg122 : Sig := { fn := Go.Proofs.Tryd.f122, ct := fun _ => false, lv := fun _ => ([], []), draw := fun _ => none, md := fun _ => .peek, esc := fun _ => false, e := false, pt := [], lnd := false, rt := [.ol 9], hide := false, mo := [], nd := fun _ => none }
noncomputable def sg87 : Sig := { fn := Go.Proofs.Tryd.f87, ct := fun _ => false, lv := fun p => match p with | 250 => ([(0, .no), (6, .no), (7, .no)], []) | 58 => ([(0, .no), (3, .no)], []) | _ => ([], []), draw := fun _ => none, md := fun p => match p with | 6 => .frz | 15 => .take | _ => .peek, esc := fun _ => false, e := false, pt := [.any], lnd := true, rt := [.bool], hide := false, mo := [], nd := fun _ => none }
noncomputable def sg123 : Sig := { fn := Go.Proofs.Tryd.f123, ct := fun _ => false, lv := fun _ => ([], []), draw := fun _ => none, md := fun _ => .peek, esc := fun _ => false, e := false, pt := [.any], lnd := true, rt := [.bool], hide := false, mo := [], nd := fun _ => none }
noncomputable def sg88 : Sig := { fn := Go.Proofs.Tryd.f88, ct := fun _ => false, lv := fun _ => ([], []), draw := fun _ => none, md := fun _ => .peek, esc := fun _ => false, e := false, pt := [.any], lnd := true, rt := [.bool], hide := false, mo := [], nd := fun _ => none }
noncomputable def sg46 : Sig := { fn := Go.Proofs.Tryd.f46, ct := fun _ => false, lv := fun p => match p with | 58 => ([(0, .no), (3, .no)], []) | _ => ([], []), draw := fun _ => none, md := fun _ => .peek, esc := fun _ => false, e := false, pt := [.any], lnd := true, rt := [.bool], hide := false, mo := [], nd := fun _ => none }
noncomputable def sg47 : Sig := { fn := Go.Proofs.Tryd.f47, ct := fun _ => false, lv := fun _ => ([], []), draw := fun _ => none, md := fun _ => .peek, esc := fun _ => false, e := false, pt := [.any], lnd := true, rt := [.bool], hide := false, mo := [], nd := fun _ => none }
noncomputable def sg89 : Sig := { fn := Go.Proofs.Tryd.f89, ct := fun p => match p with | 105 => true | 429 => true | _ => false, lv := fun p => match p with | 105 => ([(3, .no), (4, .no)], []) | 429 => ([(3, .no), (7, .no)], []) | _ => ([], []), draw := fun _ => none, md := fun _ => .peek, esc := fun _ => false, e := false, pt := [.any], lnd := true, rt := [.int .i64], hide := false, mo := [], nd := fun _ => none }
noncomputable def sg90 : Sig := { fn := Go.Proofs.Tryd.f90, ct := fun _ => false, lv := fun _ => ([], []), draw := fun _ => none, md := fun _ => .peek, esc := fun _ => false, e := false, pt := [.any], lnd := true, rt := [.bool], hide := false, mo := [], nd := fun _ => none }
noncomputable def sg48 : Sig := { fn := Go.Proofs.Tryd.f48, ct := fun _ => false, lv := fun p => match p with | 250 => ([(3, .no), (4, .no), (5, .no)], []) | _ => ([], []), draw := fun _ => none, md := fun _ => .peek, esc := fun _ => false, e := false, pt := [.any], lnd := true, rt := [.int .u64], hide := false, mo := [], nd := fun _ => none }
noncomputable def sg24 : Sig := { fn := Go.Proofs.Tryd.f24, ct := fun _ => false, lv := fun _ => ([], []), draw := fun p => match p with | 8 => some 10 | _ => none, md := fun p => match p with | 7 => .take | _ => .peek, esc := fun _ => false, e := false, pt := [.any], lnd := true, rt := [.bool], hide := false, mo := [], nd := fun _ => none }
noncomputable def sg49 : Sig := { fn := Go.Proofs.Tryd.f49, ct := fun _ => false, lv := fun _ => ([], []), draw := fun _ => none, md := fun _ => .peek, esc := fun _ => false, e := false, pt := [.any], lnd := true, rt := [.bool], hide := false, mo := [], nd := fun _ => none }
noncomputable def sg50 : Sig := { fn := Go.Proofs.Tryd.f50, ct := fun _ => false, lv := fun p => match p with | 26 => ([(0, .no), (3, .no)], []) | _ => ([], []), draw := fun _ => none, md := fun _ => .peek, esc := fun _ => false, e := false, pt := [.fl 3], lnd := true, rt := [.bool], hide := false, mo := [], nd := fun _ => none }
noncomputable def sg52 : Sig := { fn := Go.Proofs.Tryd.f52, ct := fun _ => false, lv := fun _ => ([], []), draw := fun _ => none, md := fun _ => .peek, esc := fun _ => false, e := false, pt := [.any], lnd := true, rt := [.bool], hide := false, mo := [], nd := fun _ => none }
noncomputable def sg25 : Sig := { fn := Go.Proofs.Tryd.f25, ct := fun p => match p with | 233 => true | 941 => true | 3773 => true | _ => false, lv := fun p => match p with | 494927858 => ([(1, .no), (5, .no), (8, .no)], []) | 1979711474 => ([(1, .no), (5, .no), (9, .no)], []) | 7918845938 => ([(1, .no), (5, .no), (10, .no)], []) | 233 => ([(1, .no), (2, .no), (5, .no), (14, .no), (15, .no)], [(2, [])]) | 941 => ([(1, .no), (2, .no), (5, .no), (14, .no), (25, .no)], [(2, [])]) | 3773 => ([(1, .no), (2, .no), (5, .no), (14, .no), (40, .no)], [(2, [])]) | _ => ([], []), draw := fun _ => none, md := fun p => match p with | 59 => .take | _ => .peek, esc := fun _ => false, e := false, pt := [.any, .fl 3], lnd := true, rt := [.bool], hide := false, mo := [], nd := fun _ => none }
noncomputable def sg8 : Sig := { fn := Go.Proofs.Tryd.f8, ct := fun _ => false, lv := fun p => match p with | 128154 => ([(1, .no), (3, .no), (5, .ol 3), (6, .no), (7, .ol 3), (8, .no), (9, .no)], [(1, [.fl 56])]) | 250 => ([(1, .no), (3, .no), (5, .ol 3), (6, .no)], [(1, [.fl 56])]) | _ => ([], []), draw := fun p => match p with | 13 => some 14 | _ => none, md := fun p => match p with | 3 => .frz | 10 => .take | 34 => .take | 73 => .take | _ => .peek, esc := fun _ => false, e := false, pt := [.st], lnd := true, rt := [.bool], hide := false, mo := [], nd := fun _ => none }
noncomputable def sg54 : Sig := { fn := Go.Proofs.Tryd.f54, ct := fun _ => false, lv := fun p => match p with | 122 => ([(3, .ol 60), (18, .no), (19, .no), (20, .no)], []) | _ => ([], []), draw := fun p => match p with | 10 => some 0 | _ => none, md := fun p => match p with | 43 => .take | 60 => .take | _ => .peek, esc := fun _ => false, e := false, pt := [.st], lnd := false, rt := [.fp 101], hide := false, mo := [], nd := fun p => match p with | 38 => some 101 | _ => none }
noncomputable def sg124 : Sig := { fn := Go.Proofs.Tryd.f124, ct := fun _ => false, lv := fun p => match p with | 26 => ([(2, .no), (14, .no), (15, .no), (16, .no)], []) | _ => ([], []), draw := fun _ => none, md := fun _ => .peek, esc := fun _ => false, e := false, pt := [.fp 101, .any, .any], lnd := true, rt := [.bool], hide := false, mo := [], nd := fun _ => none }
noncomputable def sg125 : Sig := { fn := Go.Proofs.Tryd.f125, ct := fun _ => false, lv := fun _ => ([], []), draw := fun _ => none, md := fun _ => .peek, esc := fun _ => false, e := false, pt := [.any], lnd := true, rt := [.bool], hide := false, mo := [], nd := fun _ => none }
noncomputable def sg126 : Sig := { fn := Go.Proofs.Tryd.f126, ct := fun _ => false, lv := fun _ => ([], []), draw := fun _ => none, md := fun _ => .peek, esc := fun _ => false, e := false, pt := [.any], lnd := true, rt := [.bool], hide := false, mo := [], nd := fun _ => none }
noncomputable def sg127 : Sig := { fn := Go.Proofs.Tryd.f127, ct := fun _ => false, lv := fun _ => ([], []), draw := fun _ => none, md := fun _ => .peek, esc := fun _ => false, e := false, pt := [.any], lnd := true, rt := [.bool], hide := false, mo := [], nd := fun _ => none }
noncomputable def sg128 : Sig := { fn := Go.Proofs.Tryd.f128, ct := fun _ => false, lv := fun _ => ([], []), draw := fun _ => none, md := fun _ => .peek, esc := fun _ => false, e := false, pt := [.any], lnd := true, rt := [.bool], hide := false, mo := [], nd := fun _ => none }
noncomputable def sg91 : Sig := { fn := Go.Proofs.Tryd.f91, ct := fun p => match p with | 233 => true | 941 => true | 3773 => true | _ => false, lv := fun p => match p with | 3959422954 => ([(253, .no), (254, .no), (255, .no)], []) | 233 => ([(0, .no), (3, .no), (15, .no), (16, .no)], []) | 941 => ([(0, .no), (3, .no), (15, .no), (26, .no)], []) | 3773 => ([(0, .no), (3, .no), (15, .no), (39, .no)], []) | _ => ([], []), draw := fun _ => none, md := fun _ => .peek, esc := fun _ => false, e := false, pt := [.fp 101], lnd := true, rt := [.bool], hide := false, mo := [], nd := fun _ => none }
noncomputable def sg109 : Sig := { fn := Go.Proofs.Tryd.f109, ct := fun _ => false, lv := fun _ => ([], []), draw := fun _ => none, md := fun _ => .peek, esc := fun _ => false, e := false, pt := [.any], lnd := true, rt := [.bool], hide := false, mo := [], nd := fun _ => none }
noncomputable def sg155 : Sig := { fn := Go.Proofs.Tryd.f155, ct := fun p => match p with | 105 => true | 429 => true | _ => false, lv := fun p => match p with | 105 => ([(3, .no), (4, .no)], []) | 429 => ([(3, .no), (7, .no)], []) | _ => ([], []), draw := fun _ => none, md := fun _ => .peek, esc := fun _ => false, e := false, pt := [.any], lnd := true, rt := [.int .u64], hide := false, mo := [], nd := fun _ => none }
noncomputable def sg156 : Sig := { fn := Go.Proofs.Tryd.f156, ct := fun _ => false, lv := fun _ => ([], []), draw := fun _ => none, md := fun _ => .peek, esc := fun _ => false, e := false, pt := [.any], lnd := true, rt := [.bool], hide := false, mo := [], nd := fun _ => none }
noncomputable def sg136 : Sig := { fn := Go.Proofs.Tryd.f136, ct := fun _ => false, lv := fun _ => ([], []), draw := fun _ => none, md := fun _ => .peek, esc := fun _ => false, e := false, pt := [.any, .any], lnd := true, rt := [.int .i64], hide := false, mo := [], nd := fun _ => none }
noncomputable def sg103 : Sig := { fn := Go.Proofs.Tryd.f103, ct := fun _ => false, lv := fun _ => ([], []), draw := fun p => match p with | 6 => some 12 | _ => none, md := fun _ => .peek, esc := fun _ => false, e := false, pt := [.any], lnd := true, rt := [.bool], hide := false, mo := [], nd := fun _ => none }
noncomputable def sg133 : Sig := { fn := Go.Proofs.Tryd.f133, ct := fun _ => false, lv := fun _ => ([], []), draw := fun _ => none, md := fun _ => .peek, esc := fun _ => false, e := false, pt := [.any], lnd := true, rt := [.bool], hide := false, mo := [], nd := fun _ => none }
noncomputable def sg153 : Sig := { fn := Go.Proofs.Tryd.f153, ct := fun _ => false, lv := fun p => match p with | 26 => ([(0, .no), (5, .no), (6, .no), (7, .no)], []) | _ => ([], []), draw := fun _ => none, md := fun _ => .peek, esc := fun _ => false, e := false, pt := [.any], lnd := true, rt := [.int .i64], hide := false, mo := [], nd := fun _ => none }
noncomputable def sg134 : Sig := { fn := Go.Proofs.Tryd.f134, ct := fun _ => false, lv := fun p => match p with | 26 => ([(0, .no), (5, .no), (6, .no), (7, .no)], []) | _ => ([], []), draw := fun _ => none, md := fun _ => .peek, esc := fun _ => false, e := false, pt := [.any], lnd := true, rt := [.bool], hide := false, mo := [], nd := fun _ => none }
noncomputable def sg154 : Sig := { fn := Go.Proofs.Tryd.f154, ct := fun _ => false, lv := fun _ => ([], []), draw := fun _ => none, md := fun _ => .peek, esc := fun _ => false, e := false, pt := [.any], lnd := true, rt := [.bool], hide := false, mo := [], nd := fun _ => none }
noncomputable def sg135 : Sig := { fn := Go.Proofs.Tryd.f135, ct := fun _ => false, lv := fun _ => ([], []), draw := fun _ => none, md := fun _ => .peek, esc := fun _ => false, e := false, pt := [.any], lnd := true, rt := [.bool], hide := false, mo := [], nd := fun _ => none }
noncomputable def sg102 : Sig := { fn := Go.Proofs.Tryd.f102, ct := fun _ => false, lv := fun p => match p with | 58 => ([(0, .no), (3, .no)], []) | _ => ([], []), draw := fun _ => none, md := fun _ => .peek, esc := fun _ => false, e := false, pt := [.any], lnd := true, rt := [.bool], hide := false, mo := [], nd := fun _ => none }
noncomputable def sg92 : Sig := { fn := Go.Proofs.Tryd.f92, ct := fun p => match p with | 15101 => true | _ => false, lv := fun p => match p with | 15101 => ([(0, .no), (3, .no), (4, .no), (5, .no), (6, .no), (35, .no), (123, .no)], []) | _ => ([], []), draw := fun p => match p with | 1 => some 0 | 4 => some 0 | _ => none, md := fun _ => .peek, esc := fun _ => false, e := false, pt := [.fp 101], lnd := true, rt := [.bool], hide := false, mo := [], nd := fun _ => none }
noncomputable def sg55 : Sig := { fn := Go.Proofs.Tryd.f55, ct := fun _ => false, lv := fun p => match p with | 58 => ([(1, .no), (22, .no), (23, .no), (24, .no)], []) | _ => ([], []), draw := fun _ => none, md := fun _ => .peek, esc := fun _ => false, e := false, pt := [.fp 101, .any], lnd := true, rt := [.bool], hide := false, mo := [], nd := fun _ => none }
noncomputable def sg27 : Sig := { fn := Go.Proofs.Tryd.f27, ct := fun _ => false, lv := fun _ => ([], []), draw := fun _ => none, md := fun _ => .peek, esc := fun _ => false, e := false, pt := [.st], lnd := false, rt := [.fp 101], hide := false, mo := [], nd := fun _ => none }
noncomputable def sg10 : Sig := { fn := Go.Proofs.Tryd.f10, ct := fun _ => false, lv := fun _ => ([], []), draw := fun _ => none, md := fun _ => .peek, esc := fun _ => false, e := false, pt := [.st], lnd := true, rt := [.bool], hide := false, mo := [], nd := fun _ => none }
noncomputable def sg56 : Sig := { fn := Go.Proofs.Tryd.f56, ct := fun _ => false, lv := fun _ => ([], []), draw := fun _ => none, md := fun _ => .peek, esc := fun _ => false, e := false, pt := [.any, .any], lnd := true, rt := [.bool], hide := false, mo := [], nd := fun _ => none }
noncomputable def sg28 : Sig := { fn := Go.Proofs.Tryd.f28, ct := fun _ => false, lv := fun p => match p with | 58 => ([(0, .no), (1, .no), (5, .no)], []) | _ => ([], []), draw := fun p => match p with | 6 => some 8 | _ => none, md := fun _ => .peek, esc := fun _ => false, e := false, pt := [.fl 56, .fl 56], lnd := true, rt := [.bool], hide := false, mo := [], nd := fun _ => none }
noncomputable def sg11 : Sig := { fn := Go.Proofs.Tryd.f11, ct := fun _ => false, lv := fun _ => ([], []), draw := fun _ => none, md := fun _ => .peek, esc := fun _ => false, e := false, pt := [.st, .st], lnd := true, rt := [.bool], hide := false, mo := [], nd := fun _ => none }
noncomputable def sg3 : Sig := { fn := Go.Proofs.Tryd.f3, ct := fun _ => false, lv := fun _ => ([], []), draw := fun p => match p with | 10 => some 3 | _ => none, md := fun _ => .peek, esc := fun _ => false, e := false, pt := [.st], lnd := true, rt := [.bool], hide := false, mo := [], nd := fun _ => none }
noncomputable def sgs : List (Nat × Sig) := [(43, sg43), (22, sg22), (7, sg7), (53, sg53), (26, sg26), (9, sg9), (23, sg23), (44, sg44), (45, sg45), (86, sg86), (151, sg151), (121, sg121), (51, sg51), (122, sg122), (87, sg87), (123, sg123), (88, sg88), (46, sg46), (47, sg47), (89, sg89), (90, sg90), (48, sg48), (24, sg24), (49, sg49), (50, sg50), (52, sg52), (25, sg25), (8, sg8), (54, sg54), (124, sg124), (125, sg125), (126, sg126), (127, sg127), (128, sg128), (91, sg91), (109, sg109), (155, sg155), (156, sg156), (136, sg136), (103, sg103), (133, sg133), (153, sg153), (134, sg134), (154, sg154), (135, sg135), (102, sg102), (92, sg92), (55, sg55), (27, sg27), (10, sg10), (56, sg56), (28, sg28), (11, sg11), (3, sg3)]
noncomputable def Y : Sys := ⟨tabOf rows, sgs, [(152, bFields)]⟩
noncomputable def L.szNode (a : TNode) (left : Int) : Option (Int) := Y.H.A 43 [.st (cells 88 a), .i .i64 left]
noncomputable def L.szNodeS (a : List TNode) (left : Int) : Option (Int) := Y.H.A 22 [.fl 88 a, .i .i64 left]
noncomputable def L.szTree (a : TTree) (left : Int) : Option (Int) := Y.H.A 7 [.st (cells 24 a), .i .i64 left]
noncomputable def L.toNode (a : TNode) : Option (TNode) := Y.H.A 53 [.st (cells 88 a)]
noncomputable def L.toNodeS (a : List TNode) : Option (List TNode) := Y.H.A 26 [.fl 88 a]
noncomputable def L.toTree (a : TTree) : Option (TTree) := Y.H.A 9 [.st (cells 24 a)]
noncomputable def R.l2Kids (t : TTree) : Option (List (List Int) × Bool) := Y.H.A 23 [.st (cells 29 t)]
noncomputable def R.l2Uses (kind : Int) : Option (Bool × Bool × Bool × Bool) := Y.H.A 44 [.i .i64 kind]
noncomputable def R.l2Named (kind : Int) : Option (Bool) := Y.H.A 45 [.i .i64 kind]
noncomputable def R.l1Letter (b : Int) : Option (Bool) := Y.H.A 86 [.i .u8 b]
noncomputable def R.l1TypeWord (t : Int) : Option (ByteArray) := Y.H.A 151 [.i .i64 t]
noncomputable def R.l1Type (w : ByteArray) : Option (Int) := Y.H.A 121 [.s w]
noncomputable def R.l1BuiltWord (op : Int) : Option (ByteArray × Int) := Y.H.A 51 [.i .i64 op]
noncomputable def R.l1Plain  : Option (List ByteArray) := Y.H.A 122 []
noncomputable def R.l1Taken (w : ByteArray) : Option (Bool) := Y.H.A 87 [.s w]
noncomputable def R.l1Digit (b : Int) : Option (Bool) := Y.H.A 123 [.i .u8 b]
noncomputable def R.l1Tail (b : Int) : Option (Bool) := Y.H.A 88 [.i .u8 b]
noncomputable def R.l1NameOk (s : ByteArray) : Option (Bool) := Y.H.A 46 [.s s]
noncomputable def R.l1Integer (t : Int) : Option (Bool) := Y.H.A 47 [.i .i64 t]
noncomputable def R.l1Bits (t : Int) : Option (Int) := Y.H.A 89 [.i .i64 t]
noncomputable def R.l1Signed (t : Int) : Option (Bool) := Y.H.A 90 [.i .i64 t]
noncomputable def R.l1Max (t : Int) : Option (Int) := Y.H.A 48 [.i .i64 t]
noncomputable def R.l2Fields (n : TNode) : Option (Bool) := Y.H.A 24 [.st (cells 56 n)]
noncomputable def R.l2E (kind : Int) : Option (Bool) := Y.H.A 49 [.i .i64 kind]
noncomputable def R.l2AllE (kinds : List Int) : Option (Bool) := Y.H.A 50 [.fl 3 kinds]
noncomputable def R.l2S (kind : Int) : Option (Bool) := Y.H.A 52 [.i .i64 kind]
noncomputable def R.l2Fits (n : TNode) (kinds : List Int) : Option (Bool) := Y.H.A 25 [.st (cells 56 n), .fl 3 kinds]
noncomputable def R.ValidTree (t : TTree) : Option (Bool) := Y.H.A 8 [.st (cells 29 t)]
noncomputable def I.grow (t : TTree) : Option (Option TNode_) := Y.H.A 54 [.st (cells 29 t)]
noncomputable def I.node_kinds_c125 (n : Option TNode_) (from_ : Int) : Option (Bool) := Y.H.A 124 [.fp 101 n, .i .i64 from_, .clo 125 []]
noncomputable def I.node_kinds_c127 (n : Option TNode_) (from_ : Int) : Option (Bool) := Y.H.A 124 [.fp 101 n, .i .i64 from_, .clo 127 []]
noncomputable def I.node_kinds_c128 (n : Option TNode_) (from_ : Int) : Option (Bool) := Y.H.A 124 [.fp 101 n, .i .i64 from_, .clo 128 []]
noncomputable def I.isE (k : Int) : Option (Bool) := Y.H.A 125 [.i .i64 k]
noncomputable def I.isBlock (k : Int) : Option (Bool) := Y.H.A 126 [.i .i64 k]
noncomputable def I.isS (k : Int) : Option (Bool) := Y.H.A 127 [.i .i64 k]
noncomputable def I.node_kidsOk_1 (k : Int) : Option (Bool) := Y.H.A 128 [.i .i64 k]
noncomputable def I.node_kidsOk (n : Option TNode_) : Option (Bool) := Y.H.A 91 [.fp 101 n]
noncomputable def I.integer (t : Int) : Option (Bool) := Y.H.A 109 [.i .i64 t]
noncomputable def I.bits (t : Int) : Option (Int) := Y.H.A 155 [.i .i64 t]
noncomputable def I.signed (t : Int) : Option (Bool) := Y.H.A 156 [.i .i64 t]
noncomputable def I.into (x : Int) (t : Int) : Option (Int) := Y.H.A 136 [.i .u64 x, .i .i64 t]
noncomputable def I.ValidValue (v : TValue) : Option (Bool) := Y.H.A 103 [.st (cells 157 v)]
noncomputable def I.lower (b : Int) : Option (Bool) := Y.H.A 133 [.i .u8 b]
noncomputable def I.typeOfWord (s : ByteArray) : Option (Int) := Y.H.A 153 [.s s]
noncomputable def I.isTaken (s : ByteArray) : Option (Bool) := Y.H.A 134 [.s s]
noncomputable def I.digit (b : Int) : Option (Bool) := Y.H.A 154 [.i .u8 b]
noncomputable def I.wordy (b : Int) : Option (Bool) := Y.H.A 135 [.i .u8 b]
noncomputable def I.nameOk (s : ByteArray) : Option (Bool) := Y.H.A 102 [.s s]
noncomputable def I.node_fieldsOk (n : Option TNode_) : Option (Bool) := Y.H.A 92 [.fp 101 n]
noncomputable def I.node_ok (n : Option TNode_) (above : Int) : Option (Bool) := Y.H.A 55 [.fp 101 n, .i .i64 above]
noncomputable def I.validRoot (t : TTree) : Option (Option TNode_) := Y.H.A 27 [.st (cells 29 t)]
noncomputable def I.ValidTree (t : TTree) : Option (Bool) := Y.H.A 10 [.st (cells 29 t)]
noncomputable def L.eqNode (a : TNode) (b : TNode) : Option (Bool) := Y.H.A 56 [.st (cells 56 a), .st (cells 56 b)]
noncomputable def L.eqNodeS (a : List TNode) (b : List TNode) : Option (Bool) := Y.H.A 28 [.fl 56 a, .fl 56 b]
noncomputable def L.eqTree (a : TTree) (b : TTree) : Option (Bool) := Y.H.A 11 [.st (cells 29 a), .st (cells 29 b)]
noncomputable def L.FnExactValidTree (aT : TTree) : Option (Bool) := Y.H.A 3 [.st (cells 24 aT)]
end Go.KM.T1
