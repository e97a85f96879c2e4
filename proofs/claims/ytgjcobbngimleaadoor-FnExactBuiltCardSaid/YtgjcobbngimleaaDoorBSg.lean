/- The tables of the law's functions. Conditions: none. -/
import Derived.Test.YtgjcobbngimleaaDoorKmX
import Derived.Test.YtgjcobbngimleaaDoorBTy
import Derived.Lib.Index
import Derived.Lib.ItoaNum
import Derived.Lib.ParseIntB
import Derived.KernelRfl
import Derived.Test.YtgjcobbngimleaaDoorProg
namespace Go.KM.B1
open Go Go.KM
open Go.KM.Fam (Dn dflt)
open Go.KM.Enc (cells sz mkE glob gany u8)
set_option autoImplicit false
set_option linter.unusedVariables false
set_option maxRecDepth 100000
def bIndex (ps : List PV) : Option (Bool × PV) := match ps with
  | [.s x, .s y] => some (decide (x.size < 4294967281), .i .i64 (Lib.index x.data.toList y.data.toList))
  | _ => none
def bFormatInt (ps : List PV) : Option (Bool × PV) := match ps with
  | [.i .i64 n, .i .i64 b] => some (decide (-9223372036854775808 ≤ n) && decide (n ≤ 9223372036854775807) && b == 10, .s ⟨(Lib.itoa n).toArray⟩)
  | _ => none
def bFormatUint (ps : List PV) : Option (Bool × PV) := match ps with
  | [.i .u64 n, .i .i64 b] => some (decide (0 ≤ n) && decide (n < 18446744073709551616) && b == 10, .s ⟨(Lib.decDigits n.toNat).toArray⟩)
  | _ => none
/-- a number read, and whether it is one -/
def pInt (x : ByteArray) : Int × Bool := match Lib.parseIntB 64 x.data.toList with
  | .ok v => (v, true)
  | .range => (Lib.intSat 64 x.data.toList, false)
  | _ => (0, false)
def bParseInt (ps : List PV) : Option (Bool × PV) := match ps with
  | [.s x, .i .i64 b, .i .i64 k] => some (decide (x.size ≤ 281474976710656) && b == 10 && k == 64, .tup [.i .i64 (pInt x).1, .ifc (pInt x).2])
  | _ => none
noncomputable def sg24 : Sig := { fn := Go.Proofs.Tryd.f24, ct := fun _ => false, lv := fun _ => ([], []), draw := fun _ => none, md := fun _ => .peek, esc := fun _ => false, e := false, pt := [.any, .any], lnd := true, rt := [.int .i64] }
noncomputable def sg6 : Sig := { fn := Go.Proofs.Tryd.f6, ct := fun _ => false, lv := fun p => match p with | 122 => ([(0, .no), (1, .no), (5, .no)], []) | _ => ([], []), draw := fun _ => none, md := fun _ => .peek, esc := fun _ => false, e := false, pt := [.fl 51, .any], lnd := true, rt := [.int .i64] }
noncomputable def sg31 : Sig := { fn := Go.Proofs.Tryd.f31, ct := fun _ => false, lv := fun _ => ([], []), draw := fun _ => none, md := fun _ => .peek, esc := fun _ => false, e := false, pt := [.any], lnd := true, rt := [.st 25] }
noncomputable def sg8 : Sig := { fn := Go.Proofs.Tryd.f8, ct := fun _ => false, lv := fun p => match p with | 58 => ([(0, .no), (3, .no), (4, .no)], []) | _ => ([], []), draw := fun _ => none, md := fun p => match p with | 22 => .take | _ => .peek, esc := fun _ => false, e := false, pt := [.fl 51], lnd := false, rt := [.ol 25] }
noncomputable def sg42 : Sig := { fn := Go.Proofs.Tryd.f42, ct := fun _ => false, lv := fun _ => ([], []), draw := fun _ => none, md := fun _ => .peek, esc := fun _ => false, e := false, pt := [.any], lnd := true, rt := [.bool] }
noncomputable def sg68 : Sig := { fn := Go.Proofs.Tryd.f68, ct := fun p => match p with | 105 => true | 429 => true | _ => false, lv := fun p => match p with | 105 => ([(3, .no), (4, .no)], []) | 429 => ([(3, .no), (7, .no)], []) | _ => ([], []), draw := fun _ => none, md := fun _ => .peek, esc := fun _ => false, e := false, pt := [.any], lnd := true, rt := [.int .i64] }
noncomputable def sg69 : Sig := { fn := Go.Proofs.Tryd.f69, ct := fun _ => false, lv := fun _ => ([], []), draw := fun _ => none, md := fun _ => .peek, esc := fun _ => false, e := false, pt := [.any], lnd := true, rt := [.bool] }
noncomputable def sg44 : Sig := { fn := Go.Proofs.Tryd.f44, ct := fun _ => false, lv := fun _ => ([], []), draw := fun _ => none, md := fun _ => .peek, esc := fun _ => false, e := false, pt := [.any, .any], lnd := true, rt := [.int .i64] }
noncomputable def sg13 : Sig := { fn := Go.Proofs.Tryd.f13, ct := fun _ => false, lv := fun _ => ([], []), draw := fun p => match p with | 6 => some 17 | _ => none, md := fun _ => .peek, esc := fun _ => false, e := false, pt := [.any], lnd := true, rt := [.bool] }
noncomputable def sg57 : Sig := { fn := Go.Proofs.Tryd.f57, ct := fun p => match p with | 105 => true | 27645 => true | _ => false, lv := fun p => match p with | 105 => ([(4, .no), (5, .no)], []) | 27645 => ([(4, .no), (18, .no)], []) | _ => ([], []), draw := fun _ => none, md := fun _ => .peek, esc := fun _ => false, e := false, pt := [.any], lnd := false, rt := [.ol 3, .int .i64] }
noncomputable def sg25 : Sig := { fn := Go.Proofs.Tryd.f25, ct := fun _ => false, lv := fun p => match p with | 122 => ([(1, .no), (5, .no), (6, .no), (7, .no)], []) | _ => ([], []), draw := fun p => match p with | 7 => some 18 | _ => none, md := fun p => match p with | 5 => .frz | 8 => .take | _ => .peek, esc := fun _ => false, e := false, pt := [.any, .fl 3], lnd := true, rt := [.int .i64] }
noncomputable def sg28 : Sig := { fn := Go.Proofs.Tryd.f28, ct := fun _ => false, lv := fun _ => ([], []), draw := fun _ => none, md := fun _ => .peek, esc := fun _ => false, e := false, pt := [.any], lnd := true, rt := [.st 25] }
noncomputable def sg26 : Sig := { fn := Go.Proofs.Tryd.f26, ct := fun _ => false, lv := fun _ => ([], []), draw := fun _ => none, md := fun _ => .peek, esc := fun _ => false, e := false, pt := [.any, .any, .any], lnd := true, rt := [.st 25, .str] }
noncomputable def sg27 : Sig := { fn := Go.Proofs.Tryd.f27, ct := fun _ => false, lv := fun p => match p with | 26 => ([(0, .no), (1, .no), (5, .no)], []) | _ => ([], []), draw := fun _ => none, md := fun _ => .peek, esc := fun _ => false, e := false, pt := [.any, .any], lnd := true, rt := [.int .i64] }
noncomputable def sg58 : Sig := { fn := Go.Proofs.Tryd.f58, ct := fun _ => false, lv := fun _ => ([], []), draw := fun _ => none, md := fun _ => .peek, esc := fun _ => false, e := false, pt := [.any, .any], lnd := true, rt := [.int .u64, .bool] }
noncomputable def sg59 : Sig := { fn := Go.Proofs.Tryd.f59, ct := fun _ => false, lv := fun _ => ([], []), draw := fun p => match p with | 3 => some 9 | _ => none, md := fun _ => .peek, esc := fun _ => false, e := false, pt := [.any], lnd := true, rt := [.str] }
noncomputable def sg29 : Sig := { fn := Go.Proofs.Tryd.f29, ct := fun _ => false, lv := fun _ => ([], []), draw := fun _ => none, md := fun p => match p with | 7 => .take | _ => .peek, esc := fun _ => false, e := false, pt := [.any, .any], lnd := true, rt := [.str] }
noncomputable def sg30 : Sig := { fn := Go.Proofs.Tryd.f30, ct := fun _ => false, lv := fun p => match p with | 4010 => ([(0, .no), (4, .no), (6, .no)], []) | 122 => ([(0, .no), (4, .no), (5, .no)], []) | _ => ([], []), draw := fun _ => none, md := fun _ => .peek, esc := fun _ => false, e := false, pt := [.any], lnd := true, rt := [.int .i64, .bool] }
noncomputable def sg7 : Sig := { fn := Go.Proofs.Tryd.f7, ct := fun _ => false, lv := fun p => match p with | 122 => ([(0, .no), (1, .no), (4, .no), (6, .ol 3), (7, .no)], [(4, [])]) | _ => ([], []), draw := fun p => match p with | 17 => some 13 | 19 => some 6 | 21 => some 13 | 23 => some 6 | _ => none, md := fun p => match p with | 37 => .take | 46 => .take | 128 => .take | _ => .peek, esc := fun _ => false, e := false, pt := [.any, .fl 25], lnd := true, rt := [.st 25, .str] }
noncomputable def sg52 : Sig := { fn := Go.Proofs.Tryd.f52, ct := fun _ => false, lv := fun _ => ([], []), draw := fun _ => none, md := fun _ => .peek, esc := fun _ => false, e := false, pt := [.any], lnd := true, rt := [.bool] }
noncomputable def sg71 : Sig := { fn := Go.Proofs.Tryd.f71, ct := fun p => match p with | 105 => true | 429 => true | _ => false, lv := fun p => match p with | 105 => ([(3, .no), (4, .no)], []) | 429 => ([(3, .no), (7, .no)], []) | _ => ([], []), draw := fun _ => none, md := fun _ => .peek, esc := fun _ => false, e := false, pt := [.any], lnd := true, rt := [.int .u64] }
noncomputable def sg61 : Sig := { fn := Go.Proofs.Tryd.f61, ct := fun _ => false, lv := fun _ => ([], []), draw := fun _ => none, md := fun _ => .peek, esc := fun _ => false, e := false, pt := [.any], lnd := true, rt := [.bool] }
noncomputable def sg50 : Sig := { fn := Go.Proofs.Tryd.f50, ct := fun _ => false, lv := fun _ => ([], []), draw := fun _ => none, md := fun _ => .peek, esc := fun _ => false, e := false, pt := [.any, .any], lnd := true, rt := [.int .i64] }
noncomputable def sg17 : Sig := { fn := Go.Proofs.Tryd.f17, ct := fun _ => false, lv := fun _ => ([], []), draw := fun p => match p with | 6 => some 12 | _ => none, md := fun _ => .peek, esc := fun _ => false, e := false, pt := [.any], lnd := true, rt := [.bool] }
noncomputable def sg32 : Sig := { fn := Go.Proofs.Tryd.f32, ct := fun _ => false, lv := fun p => match p with | 250 => ([(0, .no), (5, .no), (35, .no), (36, .no), (37, .no)], []) | _ => ([], []), draw := fun _ => none, md := fun p => match p with | 5 => .frz | 29 => .take | _ => .peek, esc := fun _ => false, e := false, pt := [.any, .fl 3], lnd := true, rt := [.int .i64] }
noncomputable def sg33 : Sig := { fn := Go.Proofs.Tryd.f33, ct := fun _ => false, lv := fun _ => ([], []), draw := fun _ => none, md := fun _ => .peek, esc := fun _ => false, e := false, pt := [.any], lnd := true, rt := [.st 25] }
noncomputable def sg34 : Sig := { fn := Go.Proofs.Tryd.f34, ct := fun _ => false, lv := fun _ => ([], []), draw := fun _ => none, md := fun _ => .peek, esc := fun _ => false, e := false, pt := [.any], lnd := true, rt := [.st 25] }
noncomputable def sg36 : Sig := { fn := Go.Proofs.Tryd.f36, ct := fun _ => false, lv := fun _ => ([], []), draw := fun _ => none, md := fun _ => .peek, esc := fun _ => false, e := false, pt := [.any], lnd := true, rt := [.str] }
noncomputable def sg9 : Sig := { fn := Go.Proofs.Tryd.f9, ct := fun _ => false, lv := fun p => match p with | 58 => ([(0, .no), (1, .no), (4, .no), (6, .ol 3), (16, .no), (17, .no), (18, .no)], [(4, [])]) | _ => ([], []), draw := fun p => match p with | 22 => some 9 | _ => none, md := fun p => match p with | 26 => .take | 36 => .take | 125 => .take | _ => .peek, esc := fun _ => false, e := false, pt := [.any, .fl 25], lnd := true, rt := [.st 25, .str] }
noncomputable def sg10 : Sig := { fn := Go.Proofs.Tryd.f10, ct := fun _ => false, lv := fun _ => ([], []), draw := fun _ => none, md := fun _ => .peek, esc := fun _ => false, e := false, pt := [.any, .any], lnd := true, rt := [.bool] }
noncomputable def sg11 : Sig := { fn := Go.Proofs.Tryd.f11, ct := fun _ => false, lv := fun p => match p with | 58 => ([(0, .no), (1, .no), (5, .no)], []) | _ => ([], []), draw := fun p => match p with | 6 => some 8 | _ => none, md := fun _ => .peek, esc := fun _ => false, e := false, pt := [.fl 25, .fl 25], lnd := true, rt := [.bool] }
noncomputable def sg3 : Sig := { fn := Go.Proofs.Tryd.f3, ct := fun _ => false, lv := fun _ => ([], []), draw := fun _ => none, md := fun p => match p with | 8 => .frz | 16 => .take | 25 => .take | 40 => .take | _ => .peek, esc := fun _ => false, e := false, pt := [.any, .fl 51], lnd := true, rt := [.bool] }
noncomputable def sgs : List (Nat × Sig) := [(24, sg24), (6, sg6), (31, sg31), (8, sg8), (42, sg42), (68, sg68), (69, sg69), (44, sg44), (13, sg13), (57, sg57), (25, sg25), (28, sg28), (26, sg26), (27, sg27), (58, sg58), (59, sg59), (29, sg29), (30, sg30), (7, sg7), (52, sg52), (71, sg71), (61, sg61), (50, sg50), (17, sg17), (32, sg32), (33, sg33), (34, sg34), (36, sg36), (9, sg9), (10, sg10), (11, sg11), (3, sg3)]
noncomputable def Y : Sys := ⟨tabOf rows, sgs, [(35, bIndex), (38, bFormatInt), (62, bFormatUint), (37, bParseInt)]⟩
noncomputable def L.szValue (a : TValue) (left : Int) : Option (Int) := Y.H.A 24 [.st (cells 51 a), .i .i64 left]
noncomputable def L.szValueS (a : List TValue) (left : Int) : Option (Int) := Y.H.A 6 [.fl 51 a, .i .i64 left]
noncomputable def L.toValue (a : TValue) : Option (TValue) := Y.H.A 31 [.st (cells 51 a)]
noncomputable def L.toValueS (a : List TValue) : Option (List TValue) := Y.H.A 8 [.fl 51 a]
noncomputable def R.l1Integer (t : Int) : Option (Bool) := Y.H.A 42 [.i .i64 t]
noncomputable def R.l1Bits (t : Int) : Option (Int) := Y.H.A 68 [.i .i64 t]
noncomputable def R.l1Signed (t : Int) : Option (Bool) := Y.H.A 69 [.i .i64 t]
noncomputable def R.l4Into (t : Int) (bits : Int) : Option (Int) := Y.H.A 44 [.i .i64 t, .i .u64 bits]
noncomputable def R.ValidValue (v : TValue) : Option (Bool) := Y.H.A 13 [.st (cells 25 v)]
noncomputable def R.l3Wants (op : Int) : Option (List Int × Int) := Y.H.A 57 [.i .i64 op]
noncomputable def R.l3Built (op : Int) (have_ : List Int) : Option (Int) := Y.H.A 25 [.i .i64 op, .fl 3 have_]
noncomputable def R.l4Text (s : ByteArray) : Option (TValue) := Y.H.A 28 [.s s]
noncomputable def R.l4Cut (s : ByteArray) (i : Int) (j : Int) : Option (TValue × ByteArray) := Y.H.A 26 [.s s, .i .i64 i, .i .i64 j]
noncomputable def R.l4Find (s : ByteArray) (x : ByteArray) : Option (Int) := Y.H.A 27 [.s s, .s x]
noncomputable def R.l4Abs (t : Int) (a : Int) : Option (Int × Bool) := Y.H.A 58 [.i .i64 t, .i .i64 a]
noncomputable def R.l1Decimal (n : Int) : Option (ByteArray) := Y.H.A 59 [.i .u64 n]
noncomputable def R.l4Dec (t : Int) (n : Int) : Option (ByteArray) := Y.H.A 29 [.i .i64 t, .i .i64 n]
noncomputable def R.l4Parse (s : ByteArray) : Option (Int × Bool) := Y.H.A 30 [.s s]
noncomputable def R.Built (op : Int) (args : List TValue) : Option (TValue × ByteArray) := Y.H.A 7 [.i .i64 op, .fl 25 args]
noncomputable def I.integer (t : Int) : Option (Bool) := Y.H.A 52 [.i .i64 t]
noncomputable def I.bits (t : Int) : Option (Int) := Y.H.A 71 [.i .i64 t]
noncomputable def I.signed (t : Int) : Option (Bool) := Y.H.A 61 [.i .i64 t]
noncomputable def I.into (x : Int) (t : Int) : Option (Int) := Y.H.A 50 [.i .u64 x, .i .i64 t]
noncomputable def I.ValidValue (v : TValue) : Option (Bool) := Y.H.A 17 [.st (cells 25 v)]
noncomputable def I.builtType (op : Int) (kids : List Int) : Option (Int) := Y.H.A 32 [.i .i64 op, .fl 3 kids]
noncomputable def I.vInt (n : Int) : Option (TValue) := Y.H.A 33 [.i .i64 n]
noncomputable def I.vText (s : ByteArray) : Option (TValue) := Y.H.A 34 [.s s]
noncomputable def I.decimal (v : TValue) : Option (ByteArray) := Y.H.A 36 [.st (cells 25 v)]
noncomputable def I.Built (op : Int) (args : List TValue) : Option (TValue × ByteArray) := Y.H.A 9 [.i .i64 op, .fl 25 args]
noncomputable def L.eqValue (a : TValue) (b : TValue) : Option (Bool) := Y.H.A 10 [.st (cells 25 a), .st (cells 25 b)]
noncomputable def L.eqValueS (a : List TValue) (b : List TValue) : Option (Bool) := Y.H.A 11 [.fl 25 a, .fl 25 b]
noncomputable def L.FnExactBuilt (aOp : Int) (aArgs : List TValue) : Option (Bool) := Y.H.A 3 [.i .i64 aOp, .fl 51 aArgs]
end Go.KM.B1
