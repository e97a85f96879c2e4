/- The tables of the law's functions. Conditions: none. -/
import Derived.Test.YtgjcobbngimleaaDoorKmX
import Derived.Test.YtgjcobbngimleaaDoorVTy
import Derived.Lib.Index
import Derived.Lib.ItoaNum
import Derived.Lib.ParseIntB
import Derived.KernelRfl
import Derived.Test.YtgjcobbngimleaaDoorProg
namespace Go.KM.V1
open Go Go.KM
open Go.KM.Fam (Dn dflt)
open Go.KM.Enc (cells sz mkE glob gany u8)
set_option autoImplicit false
set_option linter.unusedVariables false
set_option maxRecDepth 100000
def bIndex (ps : List PV) : Option (Bool × PV) := match ps with
  | [.s x, .s y] => some (decide (x.size < 4294967281), .i .i64 (Lib.index x.data.toList y.data.toList))
  | _ => none
def bFormatInt (ps : List PV) : Option (Bool × PV) := match ps with
  | [.i .i64 n, .i .i64 b] => some (decide (-9223372036854775808 ≤ n) && decide (n ≤ 9223372036854775807) && b == 10, .s ⟨(Lib.itoa n).toArray⟩)
  | _ => none
def bFormatUint (ps : List PV) : Option (Bool × PV) := match ps with
  | [.i .u64 n, .i .i64 b] => some (decide (0 ≤ n) && decide (n < 18446744073709551616) && b == 10, .s ⟨(Lib.decDigits n.toNat).toArray⟩)
  | _ => none
def cmpS (x y : ByteArray) : Int := bif x.toList == y.toList then 0 else bif bLt x y then -1 else 1
/-- a number read, and whether it is one -/
def pInt (x : ByteArray) : Int × Bool := match Lib.parseIntB 64 x.data.toList with
  | .ok v => (v, true)
  | .range => (Lib.intSat 64 x.data.toList, false)
  | _ => (0, false)
def bCompare (ps : List PV) : Option (Bool × PV) := match ps with
  | [.s x, .s y] => some (true, .i .i64 (Lib.compareBytes x.data.toList y.data.toList))
  | _ => none
def bParseInt (ps : List PV) : Option (Bool × PV) := match ps with
  | [.s x, .i .i64 b, .i .i64 k] => some (decide (x.size ≤ 281474976710656) && b == 10 && k == 64, .tup [.i .i64 (pInt x).1, .ifc (pInt x).2])
  | _ => none
noncomputable def sg39 : Sig := { fn := Go.Proofs.Tryd.f39, ct := fun _ => false, lv := fun _ => ([], []), draw := fun _ => none, md := fun _ => .peek, esc := fun p => match p with | 10 => true | _ => false, e := true, pt := [.fl 5], lnd := false, rt := [.obj 0], hide := false, mo := [[.fl 5, .int .i64]] }
noncomputable def sg40 : Sig := { fn := Go.Proofs.Tryd.f40, ct := fun _ => false, lv := fun _ => ([], []), draw := fun p => match p with | 7 => some 44 | _ => none, md := fun _ => .peek, esc := fun _ => false, e := true, pt := [.any, .any], lnd := false, rt := [.int .i64], hide := false, mo := [[.fl 5, .int .i64]] }
noncomputable def sg100 : Sig := { fn := Go.Proofs.Tryd.f100, ct := fun _ => false, lv := fun _ => ([], []), draw := fun _ => none, md := fun _ => .peek, esc := fun _ => false, e := false, pt := [.any], lnd := true, rt := [.st 25], hide := false, mo := [] }
noncomputable def sg67 : Sig := { fn := Go.Proofs.Tryd.f67, ct := fun _ => false, lv := fun p => match p with | 28 => ([(0, .no), (1, .no), (5, .no)], []) | _ => ([], []), draw := fun _ => none, md := fun _ => .peek, esc := fun _ => false, e := false, pt := [.any, .any], lnd := true, rt := [.str], hide := false, mo := [] }
noncomputable def sg28 : Sig := { fn := Go.Proofs.Tryd.f28, ct := fun _ => false, lv := fun _ => ([], []), draw := fun _ => none, md := fun _ => .peek, esc := fun _ => false, e := false, pt := [.any], lnd := true, rt := [.st 25], hide := false, mo := [] }
noncomputable def sg127 : Sig := { fn := Go.Proofs.Tryd.f127, ct := fun _ => false, lv := fun _ => ([], []), draw := fun _ => none, md := fun _ => .peek, esc := fun _ => false, e := true, pt := [.any], lnd := false, rt := [.str], hide := false, mo := [[.fl 5, .int .i64]] }
noncomputable def sg101 : Sig := { fn := Go.Proofs.Tryd.f101, ct := fun _ => false, lv := fun p => match p with | 250 => ([(0, .no), (3, .no), (4, .ol 5), (5, .no)], []) | _ => ([], []), draw := fun _ => none, md := fun p => match p with | 32 => .take | 39 => .take | _ => .peek, esc := fun _ => false, e := true, pt := [.any], lnd := false, rt := [.str], hide := false, mo := [[.fl 5, .int .i64]] }
noncomputable def sg68 : Sig := { fn := Go.Proofs.Tryd.f68, ct := fun p => match p with | 105 => true | 429 => true | _ => false, lv := fun p => match p with | 105 => ([(3, .no), (4, .no)], []) | 429 => ([(3, .no), (7, .no)], []) | _ => ([], []), draw := fun _ => none, md := fun _ => .peek, esc := fun _ => false, e := false, pt := [.any], lnd := true, rt := [.int .i64], hide := false, mo := [] }
noncomputable def sg69 : Sig := { fn := Go.Proofs.Tryd.f69, ct := fun _ => false, lv := fun _ => ([], []), draw := fun _ => none, md := fun _ => .peek, esc := fun _ => false, e := false, pt := [.any], lnd := true, rt := [.bool], hide := false, mo := [] }
noncomputable def sg43 : Sig := { fn := Go.Proofs.Tryd.f43, ct := fun _ => false, lv := fun p => match p with | 250 => ([(3, .no), (4, .no), (5, .no)], []) | _ => ([], []), draw := fun _ => none, md := fun _ => .peek, esc := fun _ => false, e := false, pt := [.any], lnd := true, rt := [.int .u64], hide := false, mo := [] }
noncomputable def sg44 : Sig := { fn := Go.Proofs.Tryd.f44, ct := fun _ => false, lv := fun _ => ([], []), draw := fun _ => none, md := fun _ => .peek, esc := fun _ => false, e := false, pt := [.any, .any], lnd := true, rt := [.int .i64], hide := false, mo := [] }
noncomputable def sg102 : Sig := { fn := Go.Proofs.Tryd.f102, ct := fun _ => false, lv := fun _ => ([], []), draw := fun _ => none, md := fun _ => .peek, esc := fun _ => false, e := true, pt := [.any, .any], lnd := false, rt := [.int .i64], hide := false, mo := [[.fl 5, .int .i64]] }
noncomputable def sg103 : Sig := { fn := Go.Proofs.Tryd.f103, ct := fun _ => false, lv := fun _ => ([], []), draw := fun _ => none, md := fun _ => .peek, esc := fun _ => false, e := false, pt := [.any, .any], lnd := true, rt := [.st 25], hide := false, mo := [] }
noncomputable def sg66 : Sig := { fn := Go.Proofs.Tryd.f66, ct := fun _ => false, lv := fun _ => ([], []), draw := fun _ => none, md := fun _ => .peek, esc := fun _ => false, e := true, pt := [.any, .any], lnd := false, rt := [.st 25], hide := false, mo := [[.fl 5, .int .i64]] }
noncomputable def sg41 : Sig := { fn := Go.Proofs.Tryd.f41, ct := fun _ => false, lv := fun _ => ([], []), draw := fun _ => none, md := fun _ => .peek, esc := fun _ => false, e := true, pt := [.any, .any], lnd := false, rt := [.st 25], hide := false, mo := [[.fl 5, .int .i64]] }
noncomputable def sg42 : Sig := { fn := Go.Proofs.Tryd.f42, ct := fun _ => false, lv := fun _ => ([], []), draw := fun _ => none, md := fun _ => .peek, esc := fun _ => false, e := false, pt := [.any], lnd := true, rt := [.bool], hide := false, mo := [] }
noncomputable def sg12 : Sig := { fn := Go.Proofs.Tryd.f12, ct := fun p => match p with | 125 => true | 509 => true | 2045 => true | 4093 => true | 8189 => true | 65493 => true | _ => false, lv := fun p => match p with | 125 => ([(3, .no), (4, .no), (5, .no), (6, .no), (7, .no)], [(3, []), (4, [])]) | 509 => ([(3, .no), (4, .no), (5, .no), (6, .no), (7, .no), (8, .no)], [(3, []), (4, []), (8, [])]) | 2045 => ([(3, .no), (4, .no), (5, .no), (6, .no), (7, .no), (8, .no), (9, .no)], [(3, []), (4, []), (8, []), (9, [])]) | 4093 => ([(3, .no), (4, .no), (5, .no), (6, .no), (8, .no), (9, .no)], [(3, []), (4, []), (8, []), (9, [])]) | 65493 => ([(3, .no), (4, .no), (5, .no), (6, .no), (7, .no), (8, .no), (9, .no)], [(3, []), (4, []), (8, []), (9, [])]) | 8189 => ([(3, .no), (4, .no), (5, .no), (6, .no), (8, .no), (9, .no)], [(3, []), (4, []), (8, []), (9, [])]) | _ => ([], []), draw := fun p => match p with | 16 => some 6 | 25 => some 5 | _ => none, md := fun _ => .peek, esc := fun _ => false, e := true, pt := [.fl 5], lnd := true, rt := [.int .i64, .st 25, .st 25], hide := true, mo := [] }
noncomputable def sg13 : Sig := { fn := Go.Proofs.Tryd.f13, ct := fun _ => false, lv := fun _ => ([], []), draw := fun p => match p with | 6 => some 17 | _ => none, md := fun _ => .peek, esc := fun _ => false, e := false, pt := [.any], lnd := true, rt := [.bool], hide := false, mo := [] }
noncomputable def sg52 : Sig := { fn := Go.Proofs.Tryd.f52, ct := fun _ => false, lv := fun _ => ([], []), draw := fun _ => none, md := fun _ => .peek, esc := fun _ => false, e := false, pt := [.any], lnd := true, rt := [.bool], hide := false, mo := [] }
noncomputable def sg71 : Sig := { fn := Go.Proofs.Tryd.f71, ct := fun p => match p with | 105 => true | 429 => true | _ => false, lv := fun p => match p with | 105 => ([(3, .no), (4, .no)], []) | 429 => ([(3, .no), (7, .no)], []) | _ => ([], []), draw := fun _ => none, md := fun _ => .peek, esc := fun _ => false, e := false, pt := [.any], lnd := true, rt := [.int .u64], hide := false, mo := [] }
noncomputable def sg61 : Sig := { fn := Go.Proofs.Tryd.f61, ct := fun _ => false, lv := fun _ => ([], []), draw := fun _ => none, md := fun _ => .peek, esc := fun _ => false, e := false, pt := [.any], lnd := true, rt := [.bool], hide := false, mo := [] }
noncomputable def sg50 : Sig := { fn := Go.Proofs.Tryd.f50, ct := fun _ => false, lv := fun _ => ([], []), draw := fun _ => none, md := fun _ => .peek, esc := fun _ => false, e := false, pt := [.any, .any], lnd := true, rt := [.int .i64], hide := false, mo := [] }
noncomputable def sg17 : Sig := { fn := Go.Proofs.Tryd.f17, ct := fun _ => false, lv := fun _ => ([], []), draw := fun p => match p with | 6 => some 12 | _ => none, md := fun _ => .peek, esc := fun _ => false, e := false, pt := [.any], lnd := true, rt := [.bool], hide := false, mo := [] }
noncomputable def sg45 : Sig := { fn := Go.Proofs.Tryd.f45, ct := fun _ => false, lv := fun _ => ([], []), draw := fun _ => none, md := fun _ => .peek, esc := fun _ => false, e := false, pt := [.any, .any, .any], lnd := true, rt := [.int .i64], hide := false, mo := [] }
noncomputable def sg46 : Sig := { fn := Go.Proofs.Tryd.f46, ct := fun _ => false, lv := fun _ => ([], []), draw := fun _ => none, md := fun _ => .peek, esc := fun _ => false, e := false, pt := [.any], lnd := true, rt := [.st 25], hide := false, mo := [] }
noncomputable def sg47 : Sig := { fn := Go.Proofs.Tryd.f47, ct := fun p => match p with | 61 => true | _ => false, lv := fun p => match p with | 61 => ([(2, .no), (3, .no), (5, .no)], [(2, []), (3, [])]) | _ => ([], []), draw := fun _ => none, md := fun _ => .peek, esc := fun _ => false, e := false, pt := [.any, .any], lnd := true, rt := [.int .i64], hide := false, mo := [] }
noncomputable def sg48 : Sig := { fn := Go.Proofs.Tryd.f48, ct := fun _ => false, lv := fun _ => ([], []), draw := fun _ => none, md := fun _ => .peek, esc := fun _ => false, e := false, pt := [.any, .any, .any], lnd := true, rt := [.int .u64], hide := false, mo := [] }
noncomputable def sg49 : Sig := { fn := Go.Proofs.Tryd.f49, ct := fun _ => false, lv := fun _ => ([], []), draw := fun _ => none, md := fun _ => .peek, esc := fun _ => false, e := false, pt := [.any, .any, .any], lnd := true, rt := [.int .u64], hide := false, mo := [] }
noncomputable def sg14 : Sig := { fn := Go.Proofs.Tryd.f14, ct := fun p => match p with | 33472509 => true | _ => false, lv := fun p => match p with | 33472509 => ([(0, .no), (4, .no), (5, .no), (6, .no), (9, .no), (11, .no), (147, .no)], [(4, []), (5, []), (6, [])]) | _ => ([], []), draw := fun p => match p with | 26 => some 7 | _ => none, md := fun _ => .peek, esc := fun _ => false, e := false, pt := [.any, .any, .any], lnd := true, rt := [.st 25, .str], hide := false, mo := [] }
noncomputable def sg51 : Sig := { fn := Go.Proofs.Tryd.f51, ct := fun _ => false, lv := fun _ => ([], []), draw := fun _ => none, md := fun _ => .peek, esc := fun _ => false, e := false, pt := [.any, .any], lnd := true, rt := [.int .i64], hide := false, mo := [] }
noncomputable def sg15 : Sig := { fn := Go.Proofs.Tryd.f15, ct := fun _ => false, lv := fun _ => ([], []), draw := fun p => match p with | 7 => some 9 | 8 => some 9 | _ => none, md := fun _ => .peek, esc := fun _ => false, e := false, pt := [.any, .any], lnd := true, rt := [.st 25, .str], hide := false, mo := [] }
noncomputable def sg16 : Sig := { fn := Go.Proofs.Tryd.f16, ct := fun _ => false, lv := fun _ => ([], []), draw := fun _ => none, md := fun _ => .peek, esc := fun _ => false, e := false, pt := [.any, .any], lnd := true, rt := [.st 25, .str], hide := false, mo := [] }
noncomputable def sg32 : Sig := { fn := Go.Proofs.Tryd.f32, ct := fun _ => false, lv := fun p => match p with | 250 => ([(0, .no), (5, .no), (35, .no), (36, .no), (37, .no)], []) | _ => ([], []), draw := fun _ => none, md := fun p => match p with | 5 => .frz | 29 => .take | _ => .peek, esc := fun _ => false, e := false, pt := [.any, .fl 3], lnd := true, rt := [.int .i64], hide := false, mo := [] }
noncomputable def sg33 : Sig := { fn := Go.Proofs.Tryd.f33, ct := fun _ => false, lv := fun _ => ([], []), draw := fun _ => none, md := fun _ => .peek, esc := fun _ => false, e := false, pt := [.any], lnd := true, rt := [.st 25], hide := false, mo := [] }
noncomputable def sg34 : Sig := { fn := Go.Proofs.Tryd.f34, ct := fun _ => false, lv := fun _ => ([], []), draw := fun _ => none, md := fun _ => .peek, esc := fun _ => false, e := false, pt := [.any], lnd := true, rt := [.st 25], hide := false, mo := [] }
noncomputable def sg36 : Sig := { fn := Go.Proofs.Tryd.f36, ct := fun _ => false, lv := fun _ => ([], []), draw := fun _ => none, md := fun _ => .peek, esc := fun _ => false, e := false, pt := [.any], lnd := true, rt := [.str], hide := false, mo := [] }
noncomputable def sg9 : Sig := { fn := Go.Proofs.Tryd.f9, ct := fun _ => false, lv := fun p => match p with | 58 => ([(0, .no), (1, .no), (4, .no), (6, .ol 3), (16, .no), (17, .no), (18, .no)], [(4, [])]) | _ => ([], []), draw := fun p => match p with | 22 => some 9 | _ => none, md := fun p => match p with | 26 => .take | 36 => .take | 125 => .take | _ => .peek, esc := fun _ => false, e := false, pt := [.any, .fl 25], lnd := true, rt := [.st 25, .str], hide := false, mo := [] }
noncomputable def sg4 : Sig := { fn := Go.Proofs.Tryd.f4, ct := fun _ => false, lv := fun _ => ([], []), draw := fun _ => none, md := fun p => match p with | 40 => .take | 66 => .take | 82 => .take | 87 => .take | 93 => .take | 98 => .take | 103 => .take | 108 => .take | 157 => .take | 163 => .take | 178 => .take | 184 => .take | 209 => .take | 215 => .take | 221 => .take | 227 => .take | _ => .peek, esc := fun _ => false, e := false, pt := [.fl 5], lnd := true, rt := [.bool], hide := false, mo := [] }
noncomputable def sgs : List (Nat × Sig) := [(39, sg39), (40, sg40), (100, sg100), (67, sg67), (28, sg28), (127, sg127), (101, sg101), (68, sg68), (69, sg69), (43, sg43), (44, sg44), (102, sg102), (103, sg103), (66, sg66), (41, sg41), (42, sg42), (12, sg12), (13, sg13), (52, sg52), (71, sg71), (61, sg61), (50, sg50), (17, sg17), (45, sg45), (46, sg46), (47, sg47), (48, sg48), (49, sg49), (14, sg14), (51, sg51), (15, sg15), (16, sg16), (32, sg32), (33, sg33), (34, sg34), (36, sg36), (9, sg9), (4, sg4)]
noncomputable def Y : Sys := ⟨tabOf rows, sgs, [(35, bIndex), (38, bFormatInt), (62, bFormatUint), (37, bParseInt), (70, bCompare)]⟩
noncomputable def R.l1Open (code : List Int) : Option (Unit × List Int × Int) := Y.H.B 39 [.fl 5 code] []
noncomputable def R.l1Rd_pick (r : List Int × Int) (n : Int) : Option (Int × List Int × Int) := Y.H.B 40 [.ad (.obj 0) 0, .i .i64 n] [[.fl 5 (r.1), .i .i64 (r.2)]]
noncomputable def R.l4Bool (b : Bool) : Option (TValue) := Y.H.A 100 [.b b]
noncomputable def R.l1Many (s : ByteArray) (n : Int) : Option (ByteArray) := Y.H.A 67 [.s s, .i .i64 n]
noncomputable def R.l4Text (s : ByteArray) : Option (TValue) := Y.H.A 28 [.s s]
noncomputable def R.l1Path (r : List Int × Int)  : Option (ByteArray × List Int × Int) := Y.H.B 127 [.ad (.obj 0) 0] [[.fl 5 (r.1), .i .i64 (r.2)]]
noncomputable def R.l1DrawText (r : List Int × Int)  : Option (ByteArray × List Int × Int) := Y.H.B 101 [.ad (.obj 0) 0] [[.fl 5 (r.1), .i .i64 (r.2)]]
noncomputable def R.l1Bits (t : Int) : Option (Int) := Y.H.A 68 [.i .i64 t]
noncomputable def R.l1Signed (t : Int) : Option (Bool) := Y.H.A 69 [.i .i64 t]
noncomputable def R.l1Max (t : Int) : Option (Int) := Y.H.A 43 [.i .i64 t]
noncomputable def R.l4Into (t : Int) (bits : Int) : Option (Int) := Y.H.A 44 [.i .i64 t, .i .u64 bits]
noncomputable def R.l1Number (r : List Int × Int) (t : Int) : Option (Int × List Int × Int) := Y.H.B 102 [.ad (.obj 0) 0, .i .i64 t] [[.fl 5 (r.1), .i .i64 (r.2)]]
noncomputable def R.l4Num (t : Int) (bits : Int) : Option (TValue) := Y.H.A 103 [.i .i64 t, .i .u64 bits]
noncomputable def R.l4Value (r : List Int × Int) (t : Int) : Option (TValue × List Int × Int) := Y.H.B 66 [.ad (.obj 0) 0, .i .i64 t] [[.fl 5 (r.1), .i .i64 (r.2)]]
noncomputable def R.l4Any (r : List Int × Int) (t : Int) : Option (TValue × List Int × Int) := Y.H.B 41 [.ad (.obj 0) 0, .i .i64 t] [[.fl 5 (r.1), .i .i64 (r.2)]]
noncomputable def R.l1Integer (t : Int) : Option (Bool) := Y.H.A 42 [.i .i64 t]
noncomputable def R.DrawBinary (code : List Int) : Option (Int × TValue × TValue) := Y.H.A 12 [.fl 5 code]
noncomputable def R.ValidValue (v : TValue) : Option (Bool) := Y.H.A 13 [.st (cells 25 v)]
noncomputable def I.integer (t : Int) : Option (Bool) := Y.H.A 52 [.i .i64 t]
noncomputable def I.bits (t : Int) : Option (Int) := Y.H.A 71 [.i .i64 t]
noncomputable def I.signed (t : Int) : Option (Bool) := Y.H.A 61 [.i .i64 t]
noncomputable def I.into (x : Int) (t : Int) : Option (Int) := Y.H.A 50 [.i .u64 x, .i .i64 t]
noncomputable def I.ValidValue (v : TValue) : Option (Bool) := Y.H.A 17 [.st (cells 25 v)]
noncomputable def I.binType (op : Int) (a : Int) (b : Int) : Option (Int) := Y.H.A 45 [.i .i64 op, .i .i64 a, .i .i64 b]
noncomputable def I.truth (b : Bool) : Option (TValue) := Y.H.A 46 [.b b]
noncomputable def I.order (a : TValue) (b : TValue) : Option (Int) := Y.H.A 47 [.st (cells 25 a), .st (cells 25 b)]
noncomputable def I.divide (op : Int) (a : TValue) (b : TValue) : Option (Int) := Y.H.A 48 [.i .i64 op, .st (cells 25 a), .st (cells 25 b)]
noncomputable def I.shift (op : Int) (a : TValue) (b : TValue) : Option (Int) := Y.H.A 49 [.i .i64 op, .st (cells 25 a), .st (cells 25 b)]
noncomputable def I.Binary (op : Int) (a : TValue) (b : TValue) : Option (TValue × ByteArray) := Y.H.A 14 [.i .i64 op, .st (cells 25 a), .st (cells 25 b)]
noncomputable def I.unType (op : Int) (a : Int) : Option (Int) := Y.H.A 51 [.i .i64 op, .i .i64 a]
noncomputable def I.Unary (op : Int) (a : TValue) : Option (TValue × ByteArray) := Y.H.A 15 [.i .i64 op, .st (cells 25 a)]
noncomputable def I.Convert (a : TValue) (to : Int) : Option (TValue × ByteArray) := Y.H.A 16 [.st (cells 25 a), .i .i64 to]
noncomputable def I.builtType (op : Int) (kids : List Int) : Option (Int) := Y.H.A 32 [.i .i64 op, .fl 3 kids]
noncomputable def I.vInt (n : Int) : Option (TValue) := Y.H.A 33 [.i .i64 n]
noncomputable def I.vText (s : ByteArray) : Option (TValue) := Y.H.A 34 [.s s]
noncomputable def I.decimal (v : TValue) : Option (ByteArray) := Y.H.A 36 [.st (cells 25 v)]
noncomputable def I.Built (op : Int) (args : List TValue) : Option (TValue × ByteArray) := Y.H.A 9 [.i .i64 op, .fl 25 args]
noncomputable def L.FnValues (code : List Int) : Option (Bool) := Y.H.A 4 [.fl 5 code]
end Go.KM.V1
