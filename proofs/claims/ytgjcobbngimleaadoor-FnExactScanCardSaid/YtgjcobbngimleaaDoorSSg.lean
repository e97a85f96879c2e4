/- The tables of the law's functions. Conditions: none. -/
import Derived.Test.YtgjcobbngimleaaDoorKmX
import Derived.Test.YtgjcobbngimleaaDoorSTy
import Derived.Lib.Index
import Derived.Lib.ItoaNum
import Derived.Lib.ParseIntB
import Derived.Lib.Fields
import Derived.Lib.Bytealg
import Derived.Lib.Strings
import Derived.KernelRfl
import Derived.Test.YtgjcobbngimleaaDoorProg
namespace Go.KM.S1
open Go Go.KM
open Go.KM.Fam (Dn dflt)
open Go.KM.Enc (cells sz mkE glob gany u8)
set_option autoImplicit false
set_option linter.unusedVariables false
set_option maxRecDepth 100000
def fieldsOf (x : ByteArray) : List ByteArray := (Lib.fields x.data.toList).map fun l => ⟨l.toArray⟩
def ascii (x : ByteArray) : Bool := x.data.toList.all fun b => decide (b.toNat < 128)
def pUint (x : ByteArray) : Int × Bool := match Lib.parseUintB 64 x.data.toList with
  | .ok v => ((v : Int), true)
  | .range => (18446744073709551615, false)
  | _ => (0, false)
def bFields (ps : List PV) : Option (Bool × PV) := match ps with
  | [.s x] => some (decide (x.size < 4294967281) && ascii x, .fl 9 (fieldsOf x))
  | _ => none
def bHasPrefix (ps : List PV) : Option (Bool × PV) := match ps with
  | [.s x, .s y] => some (true, .b (Lib.hasPrefix x.data.toList y.data.toList))
  | _ => none
def bIndexByte (ps : List PV) : Option (Bool × PV) := match ps with
  | [.s x, .i .u8 c] => some (true, .i .i64 (Lib.indexByte x.data.toList c.toNat.toUInt8))
  | _ => none
def bParseUint (ps : List PV) : Option (Bool × PV) := match ps with
  | [.s x, .i .i64 b, .i .i64 k] => some (decide (x.size ≤ 281474976710656) && b == 10 && k == 64, .tup [.i .u64 (pUint x).1, .ifc (pUint x).2])
  | _ => none
noncomputable def sg72 : Sig := { fn := Go.Proofs.Tryd.f72, ct := fun _ => false, lv := fun _ => ([], []), draw := fun _ => none, md := fun _ => .peek, esc := fun _ => false, e := false, pt := [.any], lnd := true, rt := [.bool], hide := false, mo := [], nd := fun _ => none, w := false }
noncomputable def sg73 : Sig := { fn := Go.Proofs.Tryd.f73, ct := fun _ => false, lv := fun _ => ([], []), draw := fun _ => none, md := fun _ => .peek, esc := fun _ => false, e := false, pt := [.any], lnd := true, rt := [.bool], hide := false, mo := [], nd := fun _ => none, w := false }
noncomputable def sg74 : Sig := { fn := Go.Proofs.Tryd.f74, ct := fun _ => false, lv := fun _ => ([], []), draw := fun _ => none, md := fun _ => .peek, esc := fun _ => false, e := false, pt := [.any], lnd := true, rt := [.bool], hide := false, mo := [], nd := fun _ => none, w := false }
noncomputable def sg129 : Sig := { fn := Go.Proofs.Tryd.f129, ct := fun _ => false, lv := fun _ => ([], []), draw := fun _ => none, md := fun _ => .peek, esc := fun _ => false, e := false, pt := [.any], lnd := true, rt := [.str], hide := false, mo := [], nd := fun _ => none, w := false }
noncomputable def sg105 : Sig := { fn := Go.Proofs.Tryd.f105, ct := fun _ => false, lv := fun p => match p with | 26 => ([(0, .no), (3, .no)], []) | _ => ([], []), draw := fun _ => none, md := fun _ => .peek, esc := fun _ => false, e := false, pt := [.any], lnd := true, rt := [.int .i64], hide := false, mo := [], nd := fun _ => none, w := false }
noncomputable def sg106 : Sig := { fn := Go.Proofs.Tryd.f106, ct := fun _ => false, lv := fun _ => ([], []), draw := fun _ => none, md := fun _ => .peek, esc := fun _ => false, e := false, pt := [.any], lnd := true, rt := [.str, .int .i64], hide := false, mo := [], nd := fun _ => none, w := false }
noncomputable def sg107 : Sig := { fn := Go.Proofs.Tryd.f107, ct := fun _ => false, lv := fun _ => ([], []), draw := fun _ => none, md := fun _ => .peek, esc := fun _ => false, e := false, pt := [], lnd := false, rt := [.ol 9], hide := false, mo := [], nd := fun _ => none, w := false }
noncomputable def sg75 : Sig := { fn := Go.Proofs.Tryd.f75, ct := fun _ => false, lv := fun p => match p with | 250 => ([(0, .no), (6, .no), (7, .no)], []) | 58 => ([(0, .no), (3, .no)], []) | _ => ([], []), draw := fun _ => none, md := fun p => match p with | 6 => .frz | 15 => .take | _ => .peek, esc := fun _ => false, e := false, pt := [.any], lnd := true, rt := [.bool], hide := false, mo := [], nd := fun _ => none, w := false }
noncomputable def sg42 : Sig := { fn := Go.Proofs.Tryd.f42, ct := fun _ => false, lv := fun _ => ([], []), draw := fun _ => none, md := fun _ => .peek, esc := fun _ => false, e := false, pt := [.any], lnd := true, rt := [.bool], hide := false, mo := [], nd := fun _ => none, w := false }
noncomputable def sg68 : Sig := { fn := Go.Proofs.Tryd.f68, ct := fun p => match p with | 105 => true | 429 => true | _ => false, lv := fun p => match p with | 105 => ([(3, .no), (4, .no)], []) | 429 => ([(3, .no), (7, .no)], []) | _ => ([], []), draw := fun _ => none, md := fun _ => .peek, esc := fun _ => false, e := false, pt := [.any], lnd := true, rt := [.int .i64], hide := false, mo := [], nd := fun _ => none, w := false }
noncomputable def sg69 : Sig := { fn := Go.Proofs.Tryd.f69, ct := fun _ => false, lv := fun _ => ([], []), draw := fun _ => none, md := fun _ => .peek, esc := fun _ => false, e := false, pt := [.any], lnd := true, rt := [.bool], hide := false, mo := [], nd := fun _ => none, w := false }
noncomputable def sg43 : Sig := { fn := Go.Proofs.Tryd.f43, ct := fun _ => false, lv := fun p => match p with | 250 => ([(3, .no), (4, .no), (5, .no)], []) | _ => ([], []), draw := fun _ => none, md := fun _ => .peek, esc := fun _ => false, e := false, pt := [.any], lnd := true, rt := [.int .u64], hide := false, mo := [], nd := fun _ => none, w := false }
noncomputable def sg76 : Sig := { fn := Go.Proofs.Tryd.f76, ct := fun p => match p with | 125 => true | _ => false, lv := fun p => match p with | 2042 => ([(0, .no), (5, .no), (6, .no), (7, .no), (8, .no)], []) | 28 => ([(0, .no), (5, .no)], []) | 125 => ([(0, .no), (5, .no), (6, .no)], []) | _ => ([], []), draw := fun _ => none, md := fun _ => .peek, esc := fun _ => false, e := false, pt := [.any], lnd := true, rt := [.int .i64, .int .i64, .bool], hide := false, mo := [], nd := fun _ => none, w := false }
noncomputable def sg108 : Sig := { fn := Go.Proofs.Tryd.f108, ct := fun _ => false, lv := fun _ => ([], []), draw := fun _ => none, md := fun _ => .peek, esc := fun _ => false, e := false, pt := [.any], lnd := true, rt := [.bool], hide := false, mo := [], nd := fun _ => none, w := false }
noncomputable def sg109 : Sig := { fn := Go.Proofs.Tryd.f109, ct := fun _ => false, lv := fun _ => ([], []), draw := fun _ => none, md := fun _ => .peek, esc := fun _ => false, e := false, pt := [.any], lnd := true, rt := [.int .i64], hide := false, mo := [], nd := fun _ => none, w := false }
noncomputable def sg77 : Sig := { fn := Go.Proofs.Tryd.f77, ct := fun _ => false, lv := fun p => match p with | 60 => ([(0, .no), (1, .no), (7, .ol 5), (8, .no)], []) | _ => ([], []), draw := fun p => match p with | 11 => some 15 | _ => none, md := fun p => match p with | 28 => .take | 64 => .take | _ => .peek, esc := fun _ => false, e := false, pt := [.any, .any], lnd := true, rt := [.str, .int .i64, .bool], hide := false, mo := [], nd := fun _ => none, w := false }
noncomputable def sg78 : Sig := { fn := Go.Proofs.Tryd.f78, ct := fun _ => false, lv := fun _ => ([], []), draw := fun _ => none, md := fun _ => .peek, esc := fun _ => false, e := false, pt := [], lnd := false, rt := [.ol 9], hide := false, mo := [], nd := fun _ => none, w := false }
noncomputable def sg53 : Sig := { fn := Go.Proofs.Tryd.f53, ct := fun p => match p with | 61 => true | _ => false, lv := fun p => match p with | 8186 => ([(0, .no), (1, .no), (4, .no), (16, .no), (17, .no)], [(4, [])]) | 244 => ([(0, .no), (1, .no), (4, .no), (7, .no), (8, .no)], [(4, [])]) | 61 => ([(0, .no), (1, .no), (4, .no), (7, .no), (8, .no)], [(4, [])]) | _ => ([], []), draw := fun p => match p with | 30 => some 17 | _ => none, md := fun p => match p with | 16 => .frz | 64 => .take | 81 => .take | _ => .peek, esc := fun _ => false, e := false, pt := [.any, .any], lnd := true, rt := [.st 86, .int .i64, .int .i64], hide := false, mo := [], nd := fun _ => none, w := false }
noncomputable def sg18 : Sig := { fn := Go.Proofs.Tryd.f18, ct := fun _ => false, lv := fun p => match p with | 63656 => ([(0, .no), (3, .no), (4, .ol 86), (5, .no)], [(3, [])]) | 124 => ([(0, .no), (3, .no), (4, .ol 86), (5, .no)], [(3, [])]) | _ => ([], []), draw := fun _ => none, md := fun p => match p with | 47 => .take | 60 => .take | 65 => .take | _ => .peek, esc := fun _ => false, e := false, pt := [.any], lnd := false, rt := [.ol 86, .st 43], hide := false, mo := [], nd := fun _ => none, w := false }
noncomputable def sg80 : Sig := { fn := Go.Proofs.Tryd.f80, ct := fun _ => false, lv := fun _ => ([], []), draw := fun _ => none, md := fun _ => .peek, esc := fun _ => false, e := false, pt := [.any], lnd := true, rt := [.bool], hide := false, mo := [], nd := fun _ => none, w := false }
noncomputable def sg82 : Sig := { fn := Go.Proofs.Tryd.f82, ct := fun _ => false, lv := fun _ => ([], []), draw := fun _ => none, md := fun _ => .peek, esc := fun _ => false, e := false, pt := [.any], lnd := true, rt := [.bool], hide := false, mo := [], nd := fun _ => none, w := false }
noncomputable def sg79 : Sig := { fn := Go.Proofs.Tryd.f79, ct := fun _ => false, lv := fun _ => ([], []), draw := fun _ => none, md := fun _ => .peek, esc := fun _ => false, e := false, pt := [.any], lnd := true, rt := [.bool], hide := false, mo := [], nd := fun _ => none, w := false }
noncomputable def sg111 : Sig := { fn := Go.Proofs.Tryd.f111, ct := fun _ => false, lv := fun p => match p with | 26 => ([(0, .no), (5, .no), (6, .no), (7, .no)], []) | _ => ([], []), draw := fun _ => none, md := fun _ => .peek, esc := fun _ => false, e := false, pt := [.any], lnd := true, rt := [.int .i64], hide := false, mo := [], nd := fun _ => none, w := false }
noncomputable def sg81 : Sig := { fn := Go.Proofs.Tryd.f81, ct := fun _ => false, lv := fun p => match p with | 26 => ([(0, .no), (5, .no), (6, .no), (7, .no)], []) | _ => ([], []), draw := fun _ => none, md := fun _ => .peek, esc := fun _ => false, e := false, pt := [.any], lnd := true, rt := [.bool], hide := false, mo := [], nd := fun _ => none, w := false }
noncomputable def sg52 : Sig := { fn := Go.Proofs.Tryd.f52, ct := fun _ => false, lv := fun _ => ([], []), draw := fun _ => none, md := fun _ => .peek, esc := fun _ => false, e := false, pt := [.any], lnd := true, rt := [.bool], hide := false, mo := [], nd := fun _ => none, w := false }
noncomputable def sg71 : Sig := { fn := Go.Proofs.Tryd.f71, ct := fun p => match p with | 105 => true | 429 => true | _ => false, lv := fun p => match p with | 105 => ([(3, .no), (4, .no)], []) | 429 => ([(3, .no), (7, .no)], []) | _ => ([], []), draw := fun _ => none, md := fun _ => .peek, esc := fun _ => false, e := false, pt := [.any], lnd := true, rt := [.int .u64], hide := false, mo := [], nd := fun _ => none, w := false }
noncomputable def sg61 : Sig := { fn := Go.Proofs.Tryd.f61, ct := fun _ => false, lv := fun _ => ([], []), draw := fun _ => none, md := fun _ => .peek, esc := fun _ => false, e := false, pt := [.any], lnd := true, rt := [.bool], hide := false, mo := [], nd := fun _ => none, w := false }
noncomputable def sg83 : Sig := { fn := Go.Proofs.Tryd.f83, ct := fun p => match p with | 253 => true | _ => false, lv := fun p => match p with | 28 => ([(0, .no), (2, .no), (4, .no)], [(2, [])]) | 253 => ([(0, .no), (2, .no), (4, .no), (5, .no)], [(2, [])]) | _ => ([], []), draw := fun _ => none, md := fun p => match p with | 41 => .take | _ => .peek, esc := fun _ => false, e := false, pt := [.any], lnd := true, rt := [.st 86, .bool], hide := false, mo := [], nd := fun _ => none, w := false }
noncomputable def sg113 : Sig := { fn := Go.Proofs.Tryd.f113, ct := fun _ => false, lv := fun _ => ([], []), draw := fun _ => none, md := fun _ => .peek, esc := fun _ => false, e := false, pt := [.any], lnd := true, rt := [.int .i64], hide := false, mo := [], nd := fun _ => none, w := false }
noncomputable def sg84 : Sig := { fn := Go.Proofs.Tryd.f84, ct := fun _ => false, lv := fun p => match p with | 58 => ([(0, .no), (5, .ol 5), (6, .no)], []) | _ => ([], []), draw := fun p => match p with | 16 => some 15 | _ => none, md := fun p => match p with | 17 => .take | 64 => .take | _ => .peek, esc := fun _ => false, e := false, pt := [.any], lnd := true, rt := [.str, .int .i64, .int .i64], hide := false, mo := [], nd := fun _ => none, w := false }
noncomputable def sg54 : Sig := { fn := Go.Proofs.Tryd.f54, ct := fun _ => false, lv := fun p => match p with | 506 => ([(0, .no), (1, .no), (4, .no), (88, .no), (89, .no), (90, .no)], [(4, [])]) | 60 => ([(0, .no), (1, .no), (4, .no), (7, .no), (8, .no)], [(4, [])]) | _ => ([], []), draw := fun _ => none, md := fun p => match p with | 55 => .take | 71 => .take | _ => .peek, esc := fun _ => false, e := false, pt := [.any, .any], lnd := true, rt := [.st 86, .int .i64, .int .i64], hide := false, mo := [], nd := fun _ => none, w := false }
noncomputable def sg19 : Sig := { fn := Go.Proofs.Tryd.f19, ct := fun p => match p with | 31305 => true | _ => false, lv := fun p => match p with | 500920 => ([(0, .no), (3, .no), (4, .ol 86), (5, .no)], [(3, [])]) | 122 => ([(0, .no), (3, .no), (4, .ol 86), (5, .no)], [(3, [])]) | 31305 => ([(0, .no), (3, .no), (4, .ol 86), (5, .no), (19, .no), (20, .no)], [(3, [])]) | _ => ([], []), draw := fun _ => none, md := fun p => match p with | 39 => .take | 53 => .take | 58 => .take | _ => .peek, esc := fun _ => false, e := false, pt := [.any], lnd := false, rt := [.ol 86, .st 43], hide := false, mo := [], nd := fun _ => none, w := false }
noncomputable def sg55 : Sig := { fn := Go.Proofs.Tryd.f55, ct := fun _ => false, lv := fun _ => ([], []), draw := fun _ => none, md := fun _ => .peek, esc := fun _ => false, e := false, pt := [.any, .any], lnd := true, rt := [.bool], hide := false, mo := [], nd := fun _ => none, w := false }
noncomputable def sg20 : Sig := { fn := Go.Proofs.Tryd.f20, ct := fun _ => false, lv := fun p => match p with | 58 => ([(0, .no), (1, .no), (5, .no)], []) | _ => ([], []), draw := fun p => match p with | 6 => some 8 | _ => none, md := fun _ => .peek, esc := fun _ => false, e := false, pt := [.fl 86, .fl 86], lnd := true, rt := [.bool], hide := false, mo := [], nd := fun _ => none, w := false }
noncomputable def sg21 : Sig := { fn := Go.Proofs.Tryd.f21, ct := fun _ => false, lv := fun _ => ([], []), draw := fun _ => none, md := fun _ => .peek, esc := fun _ => false, e := false, pt := [.any, .any], lnd := true, rt := [.bool], hide := false, mo := [], nd := fun _ => none, w := false }
noncomputable def sg56 : Sig := { fn := Go.Proofs.Tryd.f56, ct := fun _ => false, lv := fun p => match p with | 60 => ([(0, .no), (3, .no)], []) | _ => ([], []), draw := fun _ => none, md := fun _ => .peek, esc := fun _ => false, e := false, pt := [.any], lnd := true, rt := [.str], hide := false, mo := [], nd := fun _ => none, w := false }
noncomputable def sg22 : Sig := { fn := Go.Proofs.Tryd.f22, ct := fun _ => false, lv := fun p => match p with | 26 => ([(0, .no), (1, .no), (5, .no)], []) | _ => ([], []), draw := fun _ => none, md := fun _ => .peek, esc := fun _ => false, e := false, pt := [.any, .any], lnd := false, rt := [.int .i64], hide := false, mo := [[.ol 86]], nd := fun _ => none, w := true }
noncomputable def sg23 : Sig := { fn := Go.Proofs.Tryd.f23, ct := fun _ => false, lv := fun p => match p with | 26 => ([(0, .no), (1, .no), (5, .no)], []) | _ => ([], []), draw := fun p => match p with | 7 => some 7 | _ => none, md := fun _ => .peek, esc := fun _ => false, e := false, pt := [.fl 86, .any], lnd := true, rt := [.int .i64], hide := false, mo := [], nd := fun _ => none, w := false }
noncomputable def sg5 : Sig := { fn := Go.Proofs.Tryd.f5, ct := fun _ => false, lv := fun _ => ([], []), draw := fun _ => none, md := fun p => match p with | 3 => .frz | 9 => .frz | 14 => .take | 19 => .take | 45 => .take | _ => .peek, esc := fun _ => false, e := false, pt := [.any], lnd := true, rt := [.bool], hide := false, mo := [], nd := fun _ => none, w := false }
noncomputable def sgs : List (Nat × Sig) := [(72, sg72), (73, sg73), (74, sg74), (129, sg129), (105, sg105), (106, sg106), (107, sg107), (75, sg75), (42, sg42), (68, sg68), (69, sg69), (43, sg43), (76, sg76), (108, sg108), (109, sg109), (77, sg77), (78, sg78), (53, sg53), (18, sg18), (80, sg80), (82, sg82), (79, sg79), (111, sg111), (81, sg81), (52, sg52), (71, sg71), (61, sg61), (83, sg83), (113, sg113), (84, sg84), (54, sg54), (19, sg19), (55, sg55), (20, sg20), (21, sg21), (56, sg56), (22, sg22), (23, sg23), (5, sg5)]
noncomputable def Y : Sys := ⟨tabOf rows, sgs, [(110, bFields), (85, bHasPrefix), (132, bIndexByte), (112, bParseUint)]⟩
noncomputable def R.l1Letter (b : Int) : Option (Bool) := Y.H.A 72 [.i .u8 b]
noncomputable def R.l1Digit (b : Int) : Option (Bool) := Y.H.A 73 [.i .u8 b]
noncomputable def R.l1Tail (b : Int) : Option (Bool) := Y.H.A 74 [.i .u8 b]
noncomputable def R.l1TypeWord (t : Int) : Option (ByteArray) := Y.H.A 129 [.i .i64 t]
noncomputable def R.l1Type (w : ByteArray) : Option (Int) := Y.H.A 105 [.s w]
noncomputable def R.l1BuiltWord (op : Int) : Option (ByteArray × Int) := Y.H.A 106 [.i .i64 op]
noncomputable def R.l1Plain  : Option (List ByteArray) := Y.H.A 107 []
noncomputable def R.l1Taken (w : ByteArray) : Option (Bool) := Y.H.A 75 [.s w]
noncomputable def R.l1Integer (t : Int) : Option (Bool) := Y.H.A 42 [.i .i64 t]
noncomputable def R.l1Bits (t : Int) : Option (Int) := Y.H.A 68 [.i .i64 t]
noncomputable def R.l1Signed (t : Int) : Option (Bool) := Y.H.A 69 [.i .i64 t]
noncomputable def R.l1Max (t : Int) : Option (Int) := Y.H.A 43 [.i .i64 t]
noncomputable def R.l1Int (s : ByteArray) : Option (Int × Int × Bool) := Y.H.A 76 [.s s]
noncomputable def R.l1Bare (b : Int) : Option (Bool) := Y.H.A 108 [.i .u8 b]
noncomputable def R.l1Hex (b : Int) : Option (Int) := Y.H.A 109 [.i .u8 b]
noncomputable def R.l1Unquote (src : ByteArray) (at_0 : Int) : Option (ByteArray × Int × Bool) := Y.H.A 77 [.s src, .i .i64 at_0]
noncomputable def R.l1Marks  : Option (List ByteArray) := Y.H.A 78 []
noncomputable def R.l1One (src : ByteArray) (at_0 : Int) : Option (TToken × Int × Int) := Y.H.A 53 [.s src, .i .i64 at_0]
noncomputable def R.Scan (src : ByteArray) : Option (List TToken × TFault) := Y.H.A 18 [.s src]
noncomputable def I.lower (b : Int) : Option (Bool) := Y.H.A 80 [.i .u8 b]
noncomputable def I.digit (b : Int) : Option (Bool) := Y.H.A 82 [.i .u8 b]
noncomputable def I.wordy (b : Int) : Option (Bool) := Y.H.A 79 [.i .u8 b]
noncomputable def I.typeOfWord (s : ByteArray) : Option (Int) := Y.H.A 111 [.s s]
noncomputable def I.isTaken (s : ByteArray) : Option (Bool) := Y.H.A 81 [.s s]
noncomputable def I.integer (t : Int) : Option (Bool) := Y.H.A 52 [.i .i64 t]
noncomputable def I.bits (t : Int) : Option (Int) := Y.H.A 71 [.i .i64 t]
noncomputable def I.signed (t : Int) : Option (Bool) := Y.H.A 61 [.i .i64 t]
noncomputable def I.readInt (s : ByteArray) : Option (TToken × Bool) := Y.H.A 83 [.s s]
noncomputable def I.hexDigit (b : Int) : Option (Int) := Y.H.A 113 [.i .u8 b]
noncomputable def I.quoted (s : ByteArray) : Option (ByteArray × Int × Int) := Y.H.A 84 [.s s]
noncomputable def I.one (src : ByteArray) (at_0 : Int) : Option (TToken × Int × Int) := Y.H.A 54 [.s src, .i .i64 at_0]
noncomputable def I.Scan (src : ByteArray) : Option (List TToken × TFault) := Y.H.A 19 [.s src]
noncomputable def L.eqToken (a : TToken) (b : TToken) : Option (Bool) := Y.H.A 55 [.st (cells 86 a), .st (cells 86 b)]
noncomputable def L.eqTokenS (a : List TToken) (b : List TToken) : Option (Bool) := Y.H.A 20 [.fl 86 a, .fl 86 b]
noncomputable def L.eqFault (a : TFault) (b : TFault) : Option (Bool) := Y.H.A 21 [.st (cells 43 a), .st (cells 43 b)]
noncomputable def L.markText (k : Int) : Option (ByteArray) := Y.H.A 56 [.i .i64 k]
noncomputable def L.markTokenS (a : List TToken) (k : Int) : Option (Int × List TToken) := Y.H.B 22 [.vo 0, .i .i64 k] [[.ol 86 a]]
noncomputable def L.heldTokenS (a : List TToken) (k : Int) : Option (Int) := Y.H.A 23 [.fl 86 a, .i .i64 k]
noncomputable def L.FnExactScan (aSrc : ByteArray) : Option (Bool) := Y.H.A 5 [.s aSrc]
end Go.KM.S1
