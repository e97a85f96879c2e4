/- The abstract machine: Go code over values without memory. Definitions alone. Conditions: none. -/
import Derived.Calls
import Derived.Orders
namespace Go.KM
open Go
set_option autoImplicit false
set_option linter.unusedVariables false
class Fam where
 Dn : Nat → Type
 dflt : (T : Nat) → Dn T
open Fam (Dn dflt)
inductive Base where
 | loc (t : Nat)
 | obj (i : Nat)
inductive PV [Fam] : Type where
 | b (x : Bool)
 | i (k : IntKind) (n : Int)
 | s (x : ByteArray)
 | nl
 | np
 | fl (T : Nat) (xs : List (Dn T))
 | ol (T : Nat) (xs : List (Dn T))
 /-- an owned map: keys are texts -/
 | mp (U : Nat) (es : List (ByteArray × Dn U))
 | ad (base : Base) (off : Nat)
 | fa (T : Nat) (x : Dn T) (off : Nat)
 /-- a frozen struct's pointer, or nil -/
 | fp (T : Nat) (x : Option (Dn T))
 /-- nil, or a frozen list -/
 | fo (T : Nat) (x : Option (List (Dn T)))
 /-- other zero values: 0 the nil function, 1 the nil map -/
 | zo (k : Nat)
 /-- a pointer of an object of type T to itself, or nil -/
 | slf (T i : Nat) (b : Bool)
 | st (cs : List PV)
 | tup (vs : List PV)
 | clo (f : Nat) (caps : List (Nat × Nat))
 | ifc (isNil : Bool)
 /-- the header of a list that the caller lends -/
 | vo (i : Nat)
 | gone
class Enc extends Fam where
 cells : (T : Nat) → Dn T → List PV
 sz : Nat → Nat
 mkE : (T : Nat) → List PV → Option (Dn T)
 /-- what lies in a package's variable -/
 glob : Nat → Option (Sigma fun T => Dn T)
 /-- packages' variables that hold some number -/
 gany : Nat → Option IntKind
 /-- a type of bytes -/
 u8 : (T : Nat) → Option (Dn T → Int)
 /-- types that maps keep under pairs of numbers -/
 pk : Nat → Bool := fun _ => false
open Enc (cells sz mkE glob gany u8 pk)
section
variable [Enc]
inductive Src where
 | var (t : Nat)
 | cell (b : Base) (o : Nat)
 | vo (i : Nat)
inductive RV where
 | pk (T : Nat) (xs : List (Dn T)) (src : Option Src)
 | el (src : Src) (T : Nat) (i : Nat) (off : Nat)
 /-- a part of a list, to be written -/
 | sl (src : Src) (T : Nat) (lo : Nat) (hi : Nat)
 /-- a map that lies elsewhere -/
 | mr (src : Src)
 | dead
structure St where
 tm : List (Nat × PV)
 lc : List (Nat × List PV)
 mm : List (List PV)
 rt : List (Nat × RV)
 /-- the lists that are lent -/
 vl : List PV
def lk {α : Type} : List (Nat × α) → Nat → Option α
 | [], _ => none
 | (u, x) :: r, t => bif Nat.beq u t then some x else lk r t
inductive TK where
 | int (k : IntKind)
 | bool
 | str
 | slice (e : Nat)
 | ptr (e : Nat)
 | struct
 | iface
 /-- a map whose keys are texts -/
 | map (e : Nat)
 /-- a map whose keys are pairs of numbers -/
 | mapP (e : Nat)
 | other
 | unk
inductive Mode where
 | take
 | frz
 | peek
structure Tab where
 K : Nat → TK
 by_ : Nat → Nat
 cz : Nat → Nat
 zr : Nat → Option (List PV)
 off : Nat → Nat → Option (Nat × Nat)
 ft : Nat → Nat → Option Nat
 flat : Nat → Option (List PV)
 /-- types whose first cell points to the object itself, or is nil -/
 sf : Nat → Bool
 /-- the element type of the list in their second cell -/
 se : Nat → Nat
structure Fx where
 T : Tab
 nt : Nat
 md : Nat → Mode
 e : Bool
 esc : Nat → Bool
 /-- locals that may be frozen as a whole, and their structs -/
 nd : Nat → Option Nat
 /-- temporaries whose lists are named -/
 xt : Nat → Bool
 /-- comparisons with nil that may come out either way -/
 am : Nat → Bool
def Base.same : Base → Base → Bool
 | .loc a, .loc b => Nat.beq a b
 | .obj a, .obj b => Nat.beq a b
 | _, _ => false
def Src.isVar (t : Nat) : Src → Bool
 | .var u => Nat.beq u t
 | _ => false
def RV.src : RV → Option Src
 | .pk _ _ s => s
 | .el s _ _ _ => some s
 | .sl s _ _ _ => some s
 | .mr s => some s
 | .dead => none
def RV.on (t : Nat) (r : RV) : Bool :=
 match r.src with
 | some s => s.isVar t
 | none => false
def dropR (t : Nat) : List (Nat × RV) → List (Nat × RV)
 | [] => []
 | (u, r) :: l => (u, bif Nat.beq u t || r.on t then .dead else r) :: dropR t l
def St.setT (S : St) (d : Nat) (p : PV) : St := { S with tm := (d, p) :: S.tm, rt := dropR d S.rt }
def St.setR (S : St) (d : Nat) (r : RV) : St := { S with tm := (d, .gone) :: S.tm, rt := (d, r) :: dropR d S.rt }
def St.noR (S : St) : St := { S with rt := [] }
def keepRs : List (Nat × RV) → List (Nat × RV)
 | [] => []
 | (t, r) :: l => match r with
  | .pk T xs (some s) => (t, .pk T xs (some s)) :: keepRs l
  | .el s T i o => (t, .el s T i o) :: keepRs l
  | _ => (t, .dead) :: keepRs l
def St.keepR (S : St) : St := { S with rt := keepRs S.rt }
def keepVr : RV → RV
 | .pk T xs (some (.var u)) => .pk T xs (some (.var u))
 | .el (.var u) T i o => .el (.var u) T i o
 | _ => .dead
def keepVs : List (Nat × RV) → List (Nat × RV)
 | [] => []
 | (t, r) :: l => (t, keepVr r) :: keepVs l
def St.keepV (S : St) : St := { S with rt := keepVs S.rt }
def St.cont (S : St) : Base → Option (List PV)
 | .loc t => lk S.lc t
 | .obj i => S.mm[i]?
def St.setCont (S : St) (b : Base) (cs : List PV) : St :=
 match b with
 | .loc t => { S with lc := (t, cs) :: S.lc }
 | .obj i => { S with mm := S.mm.set i cs }
def pvOf1 : Value → Option PV
 | .bool b => some (.b b)
 | .int k n => some (.i k n)
 | .string s => some (.s s)
 | .pointer none => some .np
 | .slice none 0 0 => some .nl
 | .nilIface => some (.ifc true)
 | _ => none
def pvOfL : List Value → Option (List PV)
 | [] => some []
 | v :: r => match pvOf1 v, pvOfL r with
  | some p, some ps => some (p :: ps)
  | _, _ => none
def pvOf : Value → Option PV
 | .bool b => some (.b b)
 | .int k n => some (.i k n)
 | .string s => some (.s s)
 | .pointer none => some .np
 | .slice none 0 0 => some .nl
 | .nilIface => some (.ifc true)
 | .agg cs => (pvOfL cs.toList).map .st
 | _ => none
def St.opv (S : St) : Operand → Option PV
 | .tmp t => lk S.tm t
 | .const v => pvOf v
 | .func f => some (.clo f [])
 | .global n => match glob n with
  | some ⟨T, x⟩ => some (.fa T x 0)
  | none => none
def St.opr (S : St) : Operand → Option RV
 | .tmp t => match lk S.rt t with
  | some .dead => none
  | r => r
 | _ => none
def PV.plain : PV → Bool
 | .b _ | .i _ _ | .s _ | .nl | .np | .fl _ _ | .clo _ _ | .ifc _ | .fa _ _ _ | .fp _ _ | .fo _ _ | .zo _ | .slf _ _ _ | .vo _ => true
 | .ad (.obj _) _ => true
 | _ => false
def PV.dup : PV → Bool
 | .st cs => cs.all PV.plain
 | .ad _ _ | .fa _ _ _ => true
 | p => p.plain
def PV.cs : PV → List PV
 | .st cs => cs
 | p => [p]
def PV.fol : PV → PV
 | .fo T o => .fl T (o.getD [])
 | p => p
def PV.fz : PV → PV
 | .ol T xs => .fl T xs
 | p => p
def PV.nob1 : PV → Bool
 | .ad _ _ => false
 | .slf _ _ _ => false
 | .vo _ => false
 | .clo _ _ => false
 | .st _ => false
 | .tup _ => false
 | _ => true
def PV.nob : PV → Bool
 | .st cs => cs.all PV.nob1
 | .fa _ _ _ => true
 | .tup vs => vs.all fun p => match p with
  | .st cs => cs.all PV.nob1
  | p => p.nob1
 | p => p.nob1
def eqC : PV → PV → Option Bool
 | .b x, .b y => some (x == y)
 | .i _ x, .i _ y => some (x == y)
 | .s x, .s y => some (x.toList == y.toList)
 | .np, .np => some true
 | _, _ => none
def eqCs : List PV → List PV → Option Bool
 | [], [] => some true
 | x :: xs, y :: ys => match eqC x y, eqCs xs ys with
  | some a, some b => some (a && b)
  | _, _ => none
 | _, _ => none
def kEq : IntKind → IntKind → Bool
 | .i8, .i8 | .i16, .i16 | .i32, .i32 | .i64, .i64 | .u8, .u8 | .u16, .u16 | .u32, .u32 | .u64, .u64 => true
 | _, _ => false
def shp : PV → PV → Bool
 | .i k _, .i k' _ => kEq k k'
 | .b _, .b _ => true
 | .s _, .s _ => true
 | _, _ => false
def shps : List PV → List PV → Bool
 | [], [] => true
 | z :: zs, x :: xs => shp z x && shps zs xs
 | _, _ => false
def bitAnd (k : IntKind) (x y : Int) : Int := k.wrap (BitVec.ofInt k.bits x &&& BitVec.ofInt k.bits y).toNat
def bitOr (k : IntKind) (x y : Int) : Int := k.wrap (BitVec.ofInt k.bits x ||| BitVec.ofInt k.bits y).toNat
def bitXor (k : IntKind) (x y : Int) : Int := k.wrap (BitVec.ofInt k.bits x ^^^ BitVec.ofInt k.bits y).toNat
def shlI (k : IntKind) (x y : Int) : Int := k.wrap (x * 2 ^ min y.toNat k.bits)
def shrI (k : IntKind) (x y : Int) : Int := x.fdiv (2 ^ min y.toNat k.bits)
def bLt (x y : ByteArray) : Bool := Op.bytesLess x.toList y.toList
def bEq (x y : ByteArray) : Bool := x.toList == y.toList
def binI (op : BinOp) (k : IntKind) (x y : Int) : Option (Bool × PV) :=
 match op with
 | .add => some (true, .i k (k.wrap (x + y)))
 | .sub => some (true, .i k (k.wrap (x - y)))
 | .mul => some (true, .i k (k.wrap (x * y)))
 | .quo => some (y != 0, .i k (k.wrap (x.tdiv y)))
 | .rem => some (y != 0, .i k (x.tmod y))
 | .and => some (true, .i k (bitAnd k x y))
 | .or => some (true, .i k (bitOr k x y))
 | .xor => some (true, .i k (bitXor k x y))
 | .eql => some (true, .b (x == y))
 | .neq => some (true, .b (x != y))
 | .lss => some (true, .b (decide (x < y)))
 | .leq => some (true, .b (decide (x ≤ y)))
 | .gtr => some (true, .b (decide (x > y)))
 | .geq => some (true, .b (decide (x ≥ y)))
 | _ => none
def binS (op : BinOp) (x y : ByteArray) : Option (Bool × PV) :=
 match op with
 | .add => some (decide (x.size + y.size < 2 ^ 62), .s (x ++ y))
 | .eql => some (true, .b (bEq x y))
 | .neq => some (true, .b (!bEq x y))
 | .lss => some (true, .b (bLt x y))
 | .leq => some (true, .b (bLt x y || bEq x y))
 | .gtr => some (true, .b (!(bLt x y || bEq x y)))
 | .geq => some (true, .b (!bLt x y))
 | _ => none
def nilP : PV → Option Bool
 | .np => some true
 | .ad _ _ | .fa _ _ _ => some false
 | .slf _ _ b => some (!b)
 | .fp _ x => some x.isNone
 | _ => none
def foC {α : Type} (o : Option (List α)) : Bool :=
 match o with
 | some xs => !xs.isEmpty
 | none => true
def nilL : PV → Option (Bool × Bool)
 | .nl => some (true, true)
 | .fl _ xs => some (!xs.isEmpty, false)
 | .fo _ o => some (foC o, o.isNone)
 | _ => none
def eqOp (op : BinOp) (r : Bool) : Option (Bool × PV) :=
 match op with
 | .eql => some (true, .b r)
 | .neq => some (true, .b (!r))
 | _ => none
def binN (op : BinOp) (k k' : IntKind) (a b : Int) : Option (Bool × PV) :=
 match op with
 | .shl => some (decide (0 ≤ b), .i k (shlI k a b))
 | .shr => some (decide (0 ≤ b), .i k (shrI k a b))
 | op => bif kEq k k' then binI op k a b else none
def obind {α β : Type} (x : Option α) (f : α → Option β) : Option β :=
 match x with
 | some x => f x
 | none => none
def binP (T : Tab) (op : BinOp) (t : Nat) (x y : PV) : Option (Bool × PV) :=
 match x, y with
 | .i k a, .i k' b => binN op k k' a b
 | .s a, .s b => binS op a b
 | .b a, .b b => match T.K t with
  | .bool => eqOp op (a == b)
  | _ => none
 | .st a, .st b => match T.flat t with
  | some z => bif shps z a && shps z b then obind (eqCs a b) (eqOp op) else none
  | none => none
 | a, .np => match T.K t with
  | .ptr _ => obind (nilP a) (eqOp op)
  | _ => none
 | a, .nl => match T.K t with
  | .slice _ => match nilL a with
   | some (c, r) => (eqOp op r).map fun x => (c, x.2)
   | none => none
  | _ => none
 | _, _ => none
def unP (op : UnOp) (x : PV) : Option PV :=
 match op, x with
 | .neg, .i k n => some (.i k (k.wrap (0 - n)))
 | .xor, .i k n => some (.i k (bitXor k (if k.signed then -1 else k.max) n))
 | .not, .b x => some (.b (!x))
 | _, _ => none
def bt (x : ByteArray) (i : Int) : Int := ((x.data.toList.getD i.toNat 0).toNat : Int)
def inB (i : Int) (n : Nat) : Bool := decide (0 ≤ i) && decide (i < (n : Int))
def strOfBytes (xs : List Int) : ByteArray := ⟨(xs.map fun n => UInt8.ofNat n.toNat).toArray⟩
def St.int? (S : St) (o : Operand) : Option Int :=
 match S.opv o with
 | some (.i _ n) => some n
 | _ => none
def loOf (S : St) : Option Operand → Option Int
 | none => some 0
 | some o => S.int? o
def hiOf (S : St) (n : Nat) : Option Operand → Option Int
 | none => some (n : Int)
 | some o => S.int? o
def sub {α : Type} (xs : List α) (l h : Int) : List α := (xs.take h.toNat).drop l.toNat
def inS (l h : Int) (n : Nat) : Bool := decide (0 ≤ h) && decide (h ≤ (n : Int)) && (decide (0 ≤ l) && decide (l ≤ h))
def splice (cs : List PV) (o : Nat) (vs : List PV) : List PV := cs.take o ++ vs ++ cs.drop (o + vs.length)
def part (cs : List PV) (o n : Nat) : List PV := (cs.drop o).take n
def isAggK : TK → Bool
 | .struct => true
 | _ => false
def isUnk : TK → Bool
 | .unk => true
 | _ => false
def isLs : PV → Bool
 | .ol _ _ => true
 | _ => false
def isOl : PV → Bool
 | .ol _ _ => true
 | .mp _ _ => true
 | _ => false
def PV.okc (c : PV) : Bool := c.plain || isOl c
def PV.okf (c : PV) : Bool := c.plain || isLs c
def PV.okT : PV → Bool
 | .st cs => cs.all PV.okc
 | .ol _ _ => true
 | .mp _ _ => true
 | p => p.dup
def PV.okZ : PV → Bool
 | .st cs => cs.all PV.okf
 | .ol _ _ => true
 | p => p.dup
def PV.okM : PV → Bool
 | .tup _ => true
 | p => p.okT
def PV.frz : PV → PV
 | .st cs => .st (cs.map PV.fz)
 | p => p.fz
def castL (T : Nat) {U : Nat} (xs : List (Dn U)) : Option (List (Dn T)) := if h : U = T then some (h ▸ xs) else none
def St.at_ (S : St) : Src → Option PV
 | .var t => lk S.tm t
 | .cell b o => match S.cont b with
  | some cs => cs[o]?
  | none => none
 | .vo i => S.vl[i]?
def St.setAt (S : St) (s : Src) (p : PV) : St :=
 match s with
 | .var t => S.setT t p
 | .cell b o => match S.cont b with
  | some cs => S.setCont b (splice cs o [p])
  | none => S
 | .vo i => { S with vl := S.vl.set i p }
def opMove (F : Fx) (d : Nat) (x : Operand) (S : St) : Option St :=
 match S.opv x with
 | some p => bif p.dup then some (S.setT d p) else
  match F.md d, x with
  | .take, .tmp t => bif p.okM && !Nat.beq t d then some ((S.setT t .gone).setT d p) else none
  | .peek, .tmp t => match p with
   | .ol T xs => bif Nat.beq t d then none else some (S.setR d (.pk T xs (some (.var t))))
   | .mp _ _ => bif Nat.beq t d then none else some (S.setR d (.mr (.var t)))
   | _ => none
  | _, _ => none
 | none => none
def opAssign (d : Nat) (x : Operand) (S : St) : Option St :=
 match S.opv x with
 | some p => bif p.dup then some (S.setT d p) else
  match x with
  | .tmp t => bif p.okM && !Nat.beq t d then some ((S.setT t .gone).setT d p) else none
  | _ => none
 | none => none
def opPick (d : Nat) (c a b : Operand) (S : St) : Option St :=
 match S.opv c with
 | some (.b true) => match S.opv a with
  | some p => bif p.dup then some (S.setT d p) else none
  | none => none
 | some (.b false) => match S.opv b with
  | some p => bif p.dup then some (S.setT d p) else none
  | none => none
 | _ => none
def opLoadCs (F : Fx) (d T : Nat) (cs : List PV) (off : Nat) (S : St) : Option St :=
 let p := part cs off (F.T.cz T)
 bif Nat.beq p.length (F.T.cz T) && p.all PV.plain && !isUnk (F.T.K T) && Nat.blt 0 (F.T.cz T) then
  bif isAggK (F.T.K T) then some (S.setT d (.st p)) else
  match p with
  | [c] => some (S.setT d c)
  | _ => none
 else none
def opLoadOl (F : Fx) (d : Nat) (b : Base) (cs : List PV) (off U : Nat) (xs : List (Dn U)) (S : St) : Option St :=
 match F.md d with
 | .take => some (((S.setCont b (splice cs off [.gone])).noR).setT d (.ol U xs))
 | .frz => some (((S.setCont b (splice cs off [.fl U xs])).noR).setT d (.fl U xs))
 | .peek => some (S.setR d (.pk U xs (some (.cell b off))))
def opLoadMp (F : Fx) (d : Nat) (b : Base) (cs : List PV) (off U : Nat) (es : List (ByteArray × Dn U)) (S : St) : Option St :=
 match F.md d with
 | .peek => some (S.setR d (.mr (.cell b off)))
 | _ => none
def opLoadSt (F : Fx) (d T : Nat) (b : Base) (cs : List PV) (off : Nat) (S : St) : Option St :=
 let p := part cs off (F.T.cz T)
 bif Nat.beq p.length (F.T.cz T) && p.all PV.okc && isAggK (F.T.K T) && Nat.blt 0 (F.T.cz T) then
  match F.md d with
  | .take => some (((S.setCont b (splice cs off (List.replicate p.length .gone))).keepV).setT d (.st p))
  | .frz => bif p.all PV.okf then some (((S.setCont b (splice cs off (List.replicate p.length .gone))).keepV).setT d (.st (p.map PV.fz))) else none
  | _ => none
 else none
def opLoad (F : Fx) (d T : Nat) (x : Operand) (S : St) : Option St :=
 match S.opr x with
 | some (.el s U i off) => match S.at_ s with
  | some (.ol V xs) => bif Nat.beq U V then opLoadCs F d T (cells V (xs.getD i (dflt V))) off S else none
  | _ => none
 | some _ => none
 | none => match S.opv x with
  | some (.fa U y off) => opLoadCs F d T (cells U y) off S
  | some (.ad b off) => match S.cont b with
   | some cs => match isAggK (F.T.K T) || isUnk (F.T.K T), part cs off (F.T.cz T) with
    | false, [.ol U xs] => opLoadOl F d b cs off U xs S
    | false, [.mp U es] => opLoadMp F d b cs off U es S
    | _, p => bif p.all PV.plain then opLoadCs F d T cs off S else opLoadSt F d T b cs off S
   | none => none
  | _ => none
def takeO (S : St) (x : Operand) : Option (PV × St) :=
 match S.opv x with
 | some p => bif p.dup then some (p, S) else
  match x with
  | .tmp t => bif p.okT then some (p, S.setT t .gone) else none
  | _ => none
 | none => none
def notT (d : Nat) : Operand → Bool
 | .tmp t => !Nat.beq t d
 | _ => true
def opStore (F : Fx) (T : Nat) (x v : Operand) (S : St) : Option St :=
 match S.opr x with
 | some (.el s U i off) => match S.at_ s, S.opv v with
  | some (.ol V xs), some p => bif Nat.beq U V && p.dup && p.cs.all PV.plain && Nat.beq p.cs.length (F.T.cz T) && Nat.blt 0 (F.T.cz T) then
    match mkE V (splice (cells V (xs.getD i (dflt V))) off p.cs) with
    | some y => some (S.noR.setAt s (.ol V (xs.set i y)))
    | none => none
   else none
  | _, _ => none
 | some _ => none
 | none => match S.opv x, takeO S v with
  | some (.ad b off), some (p, S) => match S.cont b with
   | some cs => bif Nat.beq p.cs.length (F.T.cz T) && p.cs.all PV.okc && Nat.blt 0 (F.T.cz T) && Nat.ble (off + p.cs.length) cs.length then some (S.noR.setCont b (splice cs off p.cs)) else none
   | none => none
  | _, _ => none
def PV.locIs (d : Nat) : PV → Bool
 | .ad (.loc t) _ => Nat.beq t d
 | .tup _ => true
 | _ => false
def dropLoc (d : Nat) : List (Nat × PV) → List (Nat × PV)
 | [] => []
 | (t, p) :: r => (t, bif p.locIs d then .gone else p) :: dropLoc d r
def newVar (F : Fx) (d : Nat) (cs : List PV) (S : St) : St :=
 bif F.e && F.esc d then { tm := (d, .ad (.obj S.mm.length) 0) :: S.tm, lc := S.lc, mm := S.mm ++ [cs], rt := [], vl := S.vl }
 else { tm := (d, .ad (.loc d) 0) :: dropLoc d S.tm, lc := (d, cs) :: S.lc, mm := S.mm, rt := [], vl := S.vl }
def ownNl (U : Nat) : List PV → List PV
 | .nl :: r => .ol U [] :: r
 | r => r
def markO (T U : Nat) (S : St) : St := S
def opAlloc (F : Fx) (d T : Nat) (S : St) : Option St :=
 match F.T.zr T with
 | some z => some (bif F.T.sf T && (F.e && F.esc d) then markO T (F.T.se T) (newVar F d z S) else newVar F d z S)
 | none => none
def opBox (F : Fx) (d T : Nat) (x : Operand) (S : St) : Option St :=
 match takeO S x with
 | some (p, S) => bif Nat.beq p.cs.length (F.T.cz T) && p.cs.all PV.okc && Nat.blt 0 (F.T.cz T) && notT d x then some (bif F.T.sf T && (F.e && F.esc d) then markO T (F.T.se T) (newVar F d p.cs S) else newVar F d p.cs S) else none
 | none => none
def fillP (F : Fx) (d T : Nat) : List (Nat × Operand) → List PV → St → Option (List PV × St)
 | [], cs, S => some (cs, S)
 | (f, x) :: r, cs, S => match F.T.off T f, takeO S x with
  | some (o, n), some (p, S) => bif Nat.beq p.cs.length n && p.cs.all PV.okc && Nat.ble (o + n) cs.length && notT d x && (part cs o n).all PV.plain then fillP F d T r (splice cs o p.cs) S else none
  | _, _ => none
def opBuild (F : Fx) (d T : Nat) (ps : List (Nat × Operand)) (S : St) : Option St :=
 match F.T.zr T, isAggK (F.T.K T) with
 | some z, true => match fillP F d T ps z S with
  | some (cs, S) => some (S.setT d (.st cs))
  | none => none
 | _, _ => none
def frzO (S : St) : Operand → St
 | .tmp t => match lk S.tm t with
  | some p => bif p.dup || !p.okZ then S else S.noR.setT t p.frz
  | none => S
 | _ => S
def frzAll (S : St) : List (Nat × Operand) → St
 | [] => S
 | (_, x) :: r => frzAll (frzO S x) r
def fillE (F : Fx) (e n : Nat) (S : St) : List (Nat × Operand) → List (Dn e) → Option (List (Dn e))
 | [], xs => some xs
 | (q, x) :: r, xs => match S.opv x with
  | some p => bif Nat.beq p.cs.length (F.T.cz e) && p.cs.all PV.plain && Nat.blt q n then
    match mkE e p.cs with
    | some y => fillE F e n S r (xs.set q y)
    | none => none
   else none
  | none => none
def dropC (u : Nat) : List (Nat × List PV) → List (Nat × List PV)
 | [] => []
 | (t, cs) :: r => bif Nat.beq t u then dropC u r else (t, cs) :: dropC u r
def frzL (F : Fx) (S : St) : Operand → St
 | .tmp t => match lk S.tm t with
  | some (.ad (.loc u) 0) => match F.nd u, lk S.lc u with
   | some T, some cs => bif cs.all PV.okf then
     match mkE T (cs.map PV.fz) with
     | some y => { tm := (t, .fa T y 0) :: S.tm, lc := dropC u S.lc, mm := S.mm, rt := [], vl := S.vl }
     | none => S
    else S
   | _, _ => S
  | _ => S
 | _ => S
def frzLs (F : Fx) (S : St) : List (Nat × Operand) → St
 | [] => S
 | (_, x) :: r => frzLs F (frzL F S x) r
def isFrz : Mode → Bool
 | .frz => true
 | _ => false
def opBuildSlice (F : Fx) (d T n : Nat) (ps : List (Nat × Operand)) (S : St) : Option St :=
 match F.T.K T, frzAll (frzLs F S ps) ps with
 | .slice e, S => match F.T.zr e with
  | some z => match mkE e z with
   | some y => match Nat.ble (n * F.T.cz e) 16777216, fillE F e n S ps (List.replicate n y) with
    | true, some xs => some (bif isFrz (F.md d) then S.noR.setT d (.fl e xs) else S.setT d (.ol e xs))
    | _, _ => none
   | none => none
  | none => none
 | _, _ => none
def opFieldAddr (F : Fx) (d T : Nat) (x : Operand) (f : Nat) (S : St) : Option St :=
 match F.T.off T f with
 | none => none
 | some (o, _) => match S.opr x with
  | some (.el s U i off) => bif s.isVar d then none else some (S.setR d (.el s U i (off + o)))
  | some _ => none
  | none => match S.opv x with
   | some (.ad b off) => some (S.setT d (.ad b (off + o)))
   | some (.fa U y off) => some (S.setT d (.fa U y (off + o)))
   | _ => none
def opIndexAddr (F : Fx) (d T : Nat) (x i : Operand) (S : St) : Option (Bool × St) :=
 match F.T.K T, S.int? i with
 | .slice e, some n => match S.opr x with
  | some (.pk U xs (some s)) => bif Nat.beq U e && !s.isVar d then some (inB n xs.length, S.setR d (.el s U n.toNat 0)) else none
  | some _ => none
  | none => match (S.opv x).map PV.fol with
   | some (.fl U xs) => bif Nat.beq U e then some (inB n xs.length, S.setT d (.fa U (xs.getD n.toNat (dflt U)) 0)) else none
   | some (.ol U xs) => match x with
    | .tmp t => bif Nat.beq U e && !Nat.beq t d then some (inB n xs.length, S.setR d (.el (.var t) U n.toNat 0)) else none
    | _ => none
   | some (.vo k) => match S.vl[k]? with
    | some (.ol U xs) => bif Nat.beq U e then some (inB n xs.length, S.setR d (.el (.vo k) U n.toNat 0)) else none
    | _ => none
   | _ => none
 | _, _ => none
def opIndex (F : Fx) (d T : Nat) (x i : Operand) (S : St) : Option (Bool × St) :=
 match F.T.K T, S.opv x, S.int? i with
 | .str, some (.s b), some n => some (inB n b.size, S.setT d (.i .u8 (bt b n)))
 | _, _, _ => none
def opSlice0 (F : Fx) (d T : Nat) (x : Operand) (lo hi : Option Operand) (S : St) : Option (Bool × St) :=
 match S.opr x with
 | some (.pk U xs _) => match F.T.K T, loOf S lo, hiOf S xs.length hi with
  | .slice e, some l, some h => bif Nat.beq U e then some (inS l h xs.length, S.setR d (.pk U (sub xs l h) none)) else none
  | _, _, _ => none
 | some _ => none
 | none => match S.opv x with
  | some (.s b) => match F.T.K T, loOf S lo, hiOf S b.size hi with
   | .str, some l, some h => some (inS l h b.size, S.setT d (.s (b.extract l.toNat h.toNat)))
   | _, _, _ => none
  | some (.fl U xs) => match F.T.K T, loOf S lo, hiOf S xs.length hi with
   | .slice e, some l, some h => bif Nat.beq U e then some (inS l h xs.length, S.setT d (.fl U (sub xs l h))) else none
   | _, _, _ => none
  | some (.ol U xs) => match F.T.K T, lo, hiOf S xs.length hi, x with
   | .slice e, none, some h, .tmp t => bif Nat.beq U e then some (inS 0 h xs.length, (S.setT t .gone).setT d (.ol U (xs.take h.toNat))) else none
   | _, _, _, _ => none
  | _ => none
def isTake : Mode → Bool
 | .take => true
 | _ => false
def opSlice (F : Fx) (d T : Nat) (x : Operand) (lo hi : Option Operand) (S : St) : Option (Bool × St) :=
 match S.opr x with
 | some (.pk U xs (some (.var t))) => bif isTake (F.md d) then
   match F.T.K T, lo, hiOf S xs.length hi with
   | .slice e, none, some h => bif Nat.beq U e then some (inS 0 h xs.length, (S.setT t .gone).setT d (.ol U (xs.take h.toNat))) else none
   | _, _, _ => none
  else opSlice0 F d T x lo hi S
 | _ => opSlice0 F d T x lo hi S
def opSliceD (F : Fx) (d T : Nat) (x : Operand) (lo hi : Option Operand) (S : St) : Option (Bool × St) :=
 match S.opr x, isFrz (F.md d) with
 | some (.pk U xs (some s)), true => match F.T.K T, loOf S lo, hiOf S xs.length hi with
  | .slice e, some l, some h => bif Nat.beq U e && !s.isVar d then some (inS l h xs.length, S.setR d (.sl s U l.toNat h.toNat)) else none
  | _, _, _ => none
 | _, _ => opSlice F d T x lo hi S
def St.dst (S : St) (o : Operand) : Option (Src × Nat × Nat × Nat) :=
 match S.opr o with
 | some (.sl s T lo hi) => some (s, T, lo, hi)
 | some (.pk T xs (some s)) => some (s, T, 0, xs.length)
 | _ => none
def St.seen (S : St) (T : Nat) (o : Operand) : Option (List (Dn T)) :=
 match S.opr o with
 | some (.pk U xs _) => castL T xs
 | some _ => none
 | none => match S.opv o with
  | some (.fl U xs) => castL T xs
  | some (.ol U xs) => castL T xs
  | some .nl => some []
  | _ => none
def opLen (F : Fx) (d T : Nat) (x : Operand) (S : St) : Option St :=
 match F.T.K T, S.opr x with
 | .slice _, some (.pk _ xs _) => some (S.setT d (.i .i64 xs.length))
 | _, some _ => none
 | .str, none => match S.opv x with
  | some (.s b) => some (S.setT d (.i .i64 b.size))
  | _ => none
 | .slice _, none => match S.opv x with
  | some (.fl _ xs) => some (S.setT d (.i .i64 xs.length))
  | some (.ol _ xs) => some (S.setT d (.i .i64 xs.length))
  | some .nl => some (S.setT d (.i .i64 0))
  | some (.vo k) => match S.vl[k]? with
   | some (.ol _ xs) => some (S.setT d (.i .i64 xs.length))
   | _ => none
  | _ => none
 | _, _ => none
def room (n by_ : Nat) : Bool := decide (n * by_ ≤ 140737488355328)
def opAppend (F : Fx) (d T : Nat) (s x : Operand) (S : St) : Option (Bool × St) :=
 match F.T.K T with
 | .slice e => match S.seen e x with
  | some ys => match S.opv s with
   | some .nl => some (room ys.length (F.T.by_ e), (S.noR).setT d (.ol e ys))
   | some (.ol U xs) => match castL e xs, s with
    | some xs, .tmp t => some (room (xs.length + ys.length) (F.T.by_ e), ((S.setT t .gone).noR).setT d (.ol e (xs ++ ys)))
    | _, _ => none
   | _ => none
  | none => none
 | _ => none
def strL (T : Nat) (b : ByteArray) : List (Dn T) := b.data.toList.map fun c => (mkE T [.i .u8 (c.toNat : Int)]).getD (dflt T)
def opAppendS (F : Fx) (d T U : Nat) (s x : Operand) (S : St) : Option (Bool × St) :=
 match F.T.K T, F.T.K U, S.opv x with
 | .slice e, .str, some (.s b) => match F.T.K e, u8 e with
  | .int .u8, some _ => match S.opv s with
   | some .nl => some (room b.size (F.T.by_ e), (S.noR).setT d (.ol e (strL e b)))
   | some (.ol V xs) => match castL e xs, s with
    | some xs, .tmp t => some (room (xs.length + b.size) (F.T.by_ e), ((S.setT t .gone).noR).setT d (.ol e (xs ++ strL e b)))
    | _, _ => none
   | _ => none
  | _, _ => none
 | _, _, _ => none
def opCopy (F : Fx) (d T : Nat) (x y : Operand) (S : St) : Option St :=
 match F.T.K T, S.dst x with
 | .slice e, some (s, U, lo, hi) => match S.at_ s, S.seen e y with
  | some (.ol V xs), some ys => match castL e xs with
   | some xs => bif Nat.beq U e then some ((S.noR.setAt s (.ol e (xs.take lo ++ ys.take (hi - lo) ++ xs.drop (lo + min ys.length (hi - lo))))).setT d (.i .i64 (min ys.length (hi - lo) : Nat))) else none
   | none => none
  | _, _ => none
 | _, _ => none
def opMakeSlice (F : Fx) (d T : Nat) (n c : Operand) (S : St) : Option (Bool × St) :=
 match F.T.K T, S.int? n, S.int? c with
 | .slice e, some n, some c => match F.T.zr e with
  | some z => match mkE e z with
   | some y => some (decide (0 ≤ n) && (n == c) && room n.toNat (F.T.by_ e), S.setT d (.ol e (List.replicate n.toNat y)))
   | none => none
  | none => none
 | _, _, _ => none
def opBytes (F : Fx) (d src dst : Nat) (x : Operand) (S : St) : Option St :=
 match F.T.K src, F.T.K dst with
 | .slice e, .str => match F.T.K e, u8 e, S.seen e x with
  | .int .u8, some f, some ys => some (S.setT d (.s (strOfBytes (ys.map f))))
  | _, _, _ => none
 | _, _ => none
def opConvert (F : Fx) (d src dst : Nat) (x : Operand) (S : St) : Option St :=
 match F.T.K src, F.T.K dst, S.opv x with
 | .int _, .int k, some (.i _ n) => some (S.setT d (.i k (k.wrap n)))
 | .str, .str, some (.s b) => some (S.setT d (.s b))
 | _, _, _ => none
def PV.okE : PV → Bool
 | .ol _ _ => true
 | .st cs => cs.all PV.okc
 | _ => false
def PV.goneAs : PV → PV
 | .st cs => .st (cs.map fun _ => .gone)
 | _ => .gone
def opExtract (d : Nat) (x : Operand) (i : Nat) (S : St) : Option St :=
 match S.opv x, x with
 | some (.tup vs), .tmp t => match vs[i]? with
  | some p => bif p.dup then some (S.setT d p) else
   bif p.okE && !Nat.beq t d then some ((S.setT t (.tup (vs.set i p.goneAs))).setT d p) else none
  | none => none
 | _, _ => none
def opField (F : Fx) (d T : Nat) (x : Operand) (f : Nat) (S : St) : Option St :=
 match F.T.off T f, F.T.ft T f, x with
 | some (o, _), some U, .tmp t => match lk S.tm t with
  | some (.st cs) => match cs[o]?, isAggK (F.T.K U) || isUnk (F.T.K U) with
   | some c, false => bif c.plain then some (S.setT d c) else none
   | _, _ => none
  | _ => none
 | _, _, _ => none
def opFrz (d : Nat) (x : Operand) (S : St) : Option St :=
 match S.opv x with
 | some p => bif p.dup then some (S.setT d p) else
  match x with
  | .tmp t => bif p.okZ then some ((frzO S (.tmp t)).setT d p.frz) else none
  | _ => none
 | none => none
def mget {α : Type} : List (ByteArray × α) → ByteArray → Option α
 | [], _ => none
 | (k', v) :: r, k => bif bEq k k' then some v else mget r k
def mset {α : Type} : List (ByteArray × α) → ByteArray → α → List (ByteArray × α)
 | [], k, x => [(k, x)]
 | (k', v) :: r, k, x => bif bEq k k' then (k, x) :: r else (k', v) :: mset r k x
def St.mapAt (S : St) (o : Operand) : Option (Src × Sigma fun U => List (ByteArray × Dn U)) :=
 match S.opr o with
 | some (.mr s) => match S.at_ s with
  | some (.mp U es) => some (s, ⟨U, es⟩)
  | _ => none
 | some _ => none
 | none => match o with
  | .tmp t => match lk S.tm t with
   | some (.mp U es) => some (.var t, ⟨U, es⟩)
   | _ => none
  | _ => none
def ikN (a : Int) : Nat := bif decide (0 ≤ a) then 2 * a.toNat else 2 * (0 - a).toNat + 1
def ik (a b : Int) : ByteArray := ⟨(List.replicate (ikN a) (0 : UInt8) ++ 1 :: List.replicate (ikN b) 0).toArray⟩
def pairI : List PV → Option ByteArray
 | [p, q] => match p, q with
  | .i .i64 a, .i .i64 b => some (ik a b)
  | _, _ => none
 | _ => none
def mkey (b : Bool) (p : Option PV) : Option ByteArray :=
 match p with
 | some p => match b with
  | false => match p with
   | .s x => some x
   | _ => none
  | true => match p with
   | .st cs => pairI cs
   | _ => none
 | none => none
def mapT : TK → Option (Nat × Bool)
 | .map e => some (e, false)
 | .mapP e => some (e, true)
 | _ => none
def isP (b : Bool) (U : Nat) : Bool := bif b then pk U else !pk U
def opMakeMap (F : Fx) (d T : Nat) (S : St) : Option St :=
 match mapT (F.T.K T) with
 | some (e, _) => some (S.setT d (.mp e []))
 | none => none
def opLookup (F : Fx) (d T : Nat) (m k : Operand) (ok : Bool) (S : St) : Option St :=
 match mapT (F.T.K T) with
 | some (e, b) => match S.mapAt m with
  | some (_, ⟨U, es⟩) => match mkey b (S.opv k), F.T.zr e with
   | some key, some z => match mkE U z with
    | some y => match cells U ((mget es key).getD y) with
     | [c] => bif Nat.beq U e && isP b U then some (S.setT d (bif ok then .tup [c, .b (mget es key).isSome] else c)) else none
     | _ => none
    | none => none
   | _, _ => none
  | none => none
 | none => none
def opMapUpdate (F : Fx) (T : Nat) (m k x : Operand) (S : St) : Option St :=
 match mapT (F.T.K T) with
 | some (e, b) => match S.mapAt m with
  | some (s, ⟨U, es⟩) => match mkey b (S.opv k), S.opv x with
   | some key, some p => bif Nat.beq U e && isP b U && (p.plain && Nat.beq (F.T.cz e) 1) then
     match mkE U [p] with
     | some y => some (S.noR.setAt s (.mp U (mset es key y)))
     | none => none
    else none
   | _, _ => none
  | none => none
 | none => none
def nilC : Operand → Bool
 | .const .nilIface => true
 | _ => false
def yes (d : Nat) (S : Option St) : Option (Bool × St) := S.map fun S => (true, S)
def capsOf (S : St) : List Operand → Option (List (Nat × Nat))
 | [] => some []
 | o :: r => match S.opv o, capsOf S r with
  | some (.ad (.obj i) off), some l => some ((i, off) :: l)
  | _, _ => none
def stp1 (F : Fx) (o : Op) (d : Nat) (S : St) : Option (Bool × St) :=
 match o with
 | .move x => bif isFrz (F.md d) then yes d (opFrz d x S) else yes d (opMove F d x S)
 | .assign x => bif isFrz (F.md d) then yes d (opFrz d x S) else yes d (opAssign d x S)
 | .pick c a b => yes d (opPick d c a b S)
 | .load T x => yes d (opLoad F d T x S)
 | .alloc T => yes d (opAlloc F d T S)
 | .box T x => yes d (opBox F d T x S)
 | .build T ps => yes d (opBuild F d T ps.toList S)
 | .buildSlice T n ps => yes d (opBuildSlice F d T n ps.toList S)
 | .fieldAddr T x f => yes d (opFieldAddr F d T x f S)
 | .indexAddr T x i => opIndexAddr F d T x i S
 | .index T x i => opIndex F d T x i S
 | .slice T x lo hi none => opSliceD F d T x lo hi S
 | .binOp op T x y _ => match nilC y, S.opv x with
  | true, some (.ifc b) => match F.T.K T with
   | .iface => (eqOp op b).map fun r => (r.1, S.setT d r.2)
   | _ => none
  | _, _ => match S.opv x, S.opv y with
   | some x, some y => (binP F.T op T x y).map fun r => (r.1, S.setT d r.2)
   | _, _ => none
 | .unOp op _ x => match S.opv x with
  | some x => (unP op x).map fun r => (true, S.setT d r)
  | none => none
 | .convert src dst x => match F.T.K src with
  | .slice _ => yes d (opBytes F d src dst x S)
  | _ => yes d (opConvert F d src dst x S)
 | .makeSlice T n c => opMakeSlice F d T n c S
 | .nilCheck x => match S.opr x with
  | some _ => none
  | none => match S.opv x with
   | some (.ad b off) => some (true, S.setT d (.ad b off))
   | some (.fa U y off) => some (true, S.setT d (.fa U y off))
   | some (.fp U y) => some (y.isSome, S.setT d (.fa U (y.getD (dflt U)) 0))
   | _ => none
 | .extract x i => yes d (opExtract d x i S)
 | .call { callee := .builtin .len, args, argTypes } => match args.toList, argTypes.toList with
  | [x], [T] => yes d (opLen F d T x S)
  | _, _ => none
 | .call { callee := .builtin .append, args, argTypes } => match args.toList, argTypes.toList with
  | [s, x], [T, U] => bif Nat.beq T U then opAppend F d T s x S else opAppendS F d T U s x S
  | _, _ => none
 | .call { callee := .builtin .copy, args, argTypes } => match args.toList, argTypes.toList with
  | [x, y], [T, U] => bif Nat.beq T U then yes d (opCopy F d T x y S) else none
  | _, _ => none
 | .makeFunc (.func f) first captured => match first.toList, capsOf S captured.toList with
  | [], some caps => some (true, S.setT d (.clo f caps))
  | _, _ => none
 | .makeMap T none => yes d (opMakeMap F d T S)
 | .lookup T m k ok => yes d (opLookup F d T m k ok S)
 | .field T x f => yes d (opField F d T x f S)
 | _ => none
def stp (F : Fx) (o : Oper) (S : St) : Option (Bool × St) :=
 match o.dst with
 | some d => bif Nat.blt d F.nt then stp1 F o.op d S else none
 | none => match o.op with
  | .store T x v => (opStore F T x v S).map fun S => (true, S)
  | .mapUpdate T m k x => (opMapUpdate F T m k x S).map fun S => (true, S)
  | _ => none
structure CTab where
 isA : Nat → Bool
 A : Nat → List PV → (β : Type) → (PV → Option β) → Option β
 B : Nat → List PV → List (List PV) → (β : Type) → (PV → List (List PV) → Option β) → Option β
 /-- parameters that are frozen ahead of the call -/
 fz : Nat → List Bool
 /-- what is frozen is so for the call alone: the result holds nothing of it -/
 lnd : Nat → Bool
 /-- functions that write into lists which the caller goes on owning -/
 isW : Nat → Bool
 W : Nat → List PV → List PV → (β : Type) → (PV → List PV → Option β) → Option β
def PV.flat1 : PV → Bool
 | .b _ | .i _ _ | .s _ | .ifc _ => true
 | _ => false
def PV.flat2 : PV → Bool
 | .st cs => cs.all PV.flat1
 | p => p.flat1
def PV.flat : PV → Bool
 | .tup vs => vs.all PV.flat2
 | p => p.flat2
def flatT (T : Nat) : Bool := (cells T (dflt T)).all PV.flat1
def PV.lnd1 : PV → Bool
 | .ol T _ => flatT T
 | p => p.flat1
def PV.lnd2 : PV → Bool
 | .st cs => cs.all PV.lnd1
 | p => p.lnd1
def PV.lndV : PV → Bool
 | .tup vs => vs.all PV.lnd2
 | p => p.lnd2
def frzC : List Bool → List Operand → St → St
 | true :: l, x :: r, S => frzC l r (frzO S x)
 | false :: l, _ :: r, S => frzC l r S
 | _, _, S => S
def PV.isLoc : PV → Bool
 | .ad (.loc _) _ => true
 | _ => false
def argsOf (S : St) : List Operand → Option (List PV)
 | [] => some []
 | o :: r => match S.opv o with
  | some p => bif (p.dup && !p.isLoc) || isLs p then
    match argsOf S r with
    | some ps => some (p :: ps)
    | none => none
   else none
  | none => none
def useOl (S : St) : List Operand → St
 | [] => S
 | .tmp t :: r => match lk S.tm t with
  | some (.ol _ _) => useOl (S.setT t .gone) r
  | _ => useOl S r
 | _ :: r => useOl S r
def olOnce (S : St) : List Operand → Bool
 | [] => true
 | .tmp t :: r => (match lk S.tm t with
  | some (.ol _ _) => !r.any fun o => match o with | .tmp u => Nat.beq u t | _ => false
  | _ => true) && olOnce S r
 | _ :: r => olOnce S r
def setD (S : St) (d : Option Nat) (v : PV) : St :=
 match d with
 | some d => S.setT d v
 | none => S
def dstOk (F : Fx) : Option Nat → Bool
 | some d => Nat.blt d F.nt
 | none => true
def evCall (F : Fx) (C : CTab) {β : Type} (f : Nat) (d : Option Nat) (args : List Operand) (S : St) (K : St → Option β) : Option β :=
 match argsOf S args with
 | some ps =>
  bif olOnce S args && dstOk F d then
   bif C.isA f then C.A f ps β fun v => K (setD (useOl S args).keepV d v)
   else bif F.e then C.B f ps S.mm β fun v M => K (setD { (useOl S args).noR with mm := M } d v) else none
  else none
 | none => none
def srcO (S : St) : Operand → Operand
 | .tmp u => match lk S.rt u with
  | some (.pk _ _ (some (.var t))) => .tmp t
  | _ => .tmp u
 | x => x
def frzK (S : St) (k : Nat) : St :=
 match S.vl[k]? with
 | some (.ol T xs) => { S.noR with vl := S.vl.set k (.fl T xs) }
 | _ => S.noR
def frzKs (S : St) : List PV → St
 | [] => S.noR
 | c :: r => match c with
  | .vo k => frzKs (frzK S k) r
  | _ => frzKs S r
def isVo : PV → Bool
 | .vo _ => true
 | _ => false
def seeV (S : St) (c : PV) : PV :=
 match c with
 | .vo k => match S.vl[k]? with
  | some (.fl T xs) => .fl T xs
  | _ => .vo k
 | c => c
def frzVo (S : St) (o : Operand) : St :=
 match o with
 | .tmp t => match lk S.tm t with
  | some (.vo k) => { frzK S k with tm := (t, seeV (frzK S k) (.vo k)) :: S.tm }
  | some (.st cs) => bif cs.any isVo then { frzKs S cs with tm := (t, .st (cs.map (seeV (frzKs S cs)))) :: S.tm } else S
  | _ => S
 | _ => S
def frzVos (S : St) : List Operand → St
 | [] => S
 | o :: r => frzVos (frzVo S o) r
def evLend (F : Fx) (C : CTab) {β : Type} (f : Nat) (d : Option Nat) (args : List Operand) (S : St) (K : St → Option β) : Option β :=
 match argsOf (frzC (C.fz f) (args.map (srcO S)) (frzVos S (args.map (srcO S)))) (args.map (srcO S)) with
 | some ps => bif ps.all PV.dup && dstOk F d && C.isA f then C.A f ps β fun v => bif v.lndV then K (setD S.keepR d v) else none else none
 | none => none
inductive WS where
 | all (t : Nat)
 | cell (t j : Nat)
 | vl (i : Nat)
def WS.same : WS → WS → Bool
 | .all t, .all t' => Nat.beq t t'
 | .all t, .cell t' _ => Nat.beq t t'
 | .cell t _, .all t' => Nat.beq t t'
 | .cell t j, .cell t' j' => Nat.beq t t' && Nat.beq j j'
 | .vl i, .vl i' => Nat.beq i i'
 | _, _ => false
def evW (F : Fx) (C : CTab) {β : Type} (f : Nat) (d : Option Nat) (args : List Operand) (S : St) (K : St → Option β) : Option β := none
def evFn (F : Fx) (C : CTab) {β : Type} (f : Nat) (d : Option Nat) (args : List Operand) (S : St) (K : St → Option β) : Option β :=
 bif C.isW f then evW F C f d args S K else
 bif C.lnd f then evLend F C f d args S K else evCall F C f d args (frzC (C.fz f) args S) K
def capP (l : List (Nat × Nat)) : List PV := l.map fun x => .ad (.obj x.1) x.2
def evClo (F : Fx) (C : CTab) {β : Type} (f : Nat) (d : Option Nat) (args : List Operand) (caps : List (Nat × Nat)) (S : St) (K : St → Option β) : Option β :=
 match argsOf (frzC (C.fz f) args S) args with
 | some ps => bif (ps.all fun p => p.dup && !p.isLoc) && (dstOk F d && F.e) then
   (bif C.isA f then none else C.B f (ps ++ capP caps) (frzC (C.fz f) args S).mm β fun v M => K (setD { (frzC (C.fz f) args S).noR with mm := M } d v))
  else none
 | none => none
def ext (t : Nat) (S : St) : St := S
noncomputable def amb {β : Type} (x y : Option β) : Option β := open Classical in if x = y then x else none
omit [Enc] in
theorem amb_some {β : Type} {x y : Option β} {r : β} : amb x y = some r ↔ x = some r ∧ y = some r := by
 unfold amb
 split
 ·rename_i h; rw [← h]; exact ⟨fun h => ⟨h, h⟩, fun h => h.1⟩
 ·rename_i h
  constructor
  ·intro h; simp at h
  ·rintro ⟨h1, h2⟩; rw [h1, h2] at h; exact absurd rfl h
omit [Enc] in
theorem amb_eq {β : Type} {x y z : Option β} (h1 : x = z) (h2 : y = z) : amb x y = z := by
 subst h1; subst h2; unfold amb; rw [if_pos rfl]
noncomputable def same {β : Type} (M M' : List (List PV)) (x : Option β) : Option β := open Classical in if M = M' then x else none
theorem same_some {β : Type} {M M' : List (List PV)} {x : Option β} {r : β} : same M M' x = some r ↔ M = M' ∧ x = some r := by
 unfold same
 split
 ·rename_i h; exact ⟨fun h' => ⟨h, h'⟩, fun h' => h'.2⟩
 ·rename_i h; exact ⟨fun h' => by simp at h', fun h' => absurd h'.1 h⟩
theorem same_self {β : Type} (M : List (List PV)) (x : Option β) : same M M x = x := by unfold same; rw [if_pos rfl]
def nilK : Operand → Bool
 | .const (.slice none 0 0) => true
 | _ => false
def ambS (F : Fx) (o : Oper) (S : St) : Option Nat :=
 match o.dst with
 | some d => bif F.am d && Nat.blt d F.nt then
   match o.op with
   | .binOp op T x y _ => match F.T.K T, nilK y, eqOp op true, S.opv x with
    | .slice _, true, some _, some (.fo _ _) => some d
    | .slice _, true, some _, some (.fl _ _) => some d
    | _, _, _, _ => none
   | _ => none
  else none
 | none => none
noncomputable def evOp (F : Fx) (C : CTab) {β : Type} (o : Oper) (S : St) (K : St → Option β) : Option β :=
 match o.op with
 | .call { callee := .value (.func f), args, argTypes := _ } => evFn F C f o.dst args.toList S K
 | .call { callee := .value (.tmp t), args, argTypes := _ } => match lk S.tm t with
  | some (.clo f []) => evFn F C f o.dst args.toList S K
  | some (.clo f (c :: caps)) => evClo F C f o.dst args.toList (c :: caps) S K
  | _ => none
 | _ => match stp F o S with
  | some (c, S') => bif c then K S' else match ambS F o S with
   | some d => amb (K (S.setT d (.b true))) (K (S.setT d (.b false)))
   | none => none
  | none => none
def guardVal (ops : Array Oper) (S : St) (j : Nat) : Option (Nat × Option Bool × Bool) :=
 match ops[j]? with
 | some o => match o.dst with
  | some d => match lk S.tm d with
   | some (.b t) => some (d, none, t)
   | some (.tup []) => some (d, some false, false)
   | _ => none
  | none => none
 | none => none
def extD (F : Fx) (d : Option Nat) (S : St) : St :=
 match d with
 | some t => bif F.xt t then ext t S else S
 | none => S
noncomputable def evOps (F : Fx) (C : CTab) {β : Type} (ops : Array Oper) : List Oper → St → (St → Option β) → Option β
 | [], S, K => K S
 | o :: r, S, K => match o.guard with
  | none => evOp F C o S fun S => evOps F C ops r (extD F o.dst S) K
  | some (j, want) => match guardVal ops S j with
   | some (d, none, t) =>
    bif dstOk F o.dst then
     bif t then
      (bif want then evOp F C o (S.setT d (.b true)) fun S => evOps F C ops r (extD F o.dst S) K
       else evOps F C ops r (setD (S.setT d (.b true)) o.dst (.tup [])) K)
     else
      (bif want then evOps F C ops r (setD (S.setT d (.b false)) o.dst (.tup [])) K
       else evOp F C o (S.setT d (.b false)) fun S => evOps F C ops r (extD F o.dst S) K)
    else none
   | some (_, some _, _) => bif dstOk F o.dst then evOps F C ops r (setD S o.dst (.tup [])) K else none
   | none => none
def valCs (F : Fx) (T : Nat) (cs : List PV) (off : Nat) : Option PV :=
 let p := part cs off (F.T.cz T)
 bif Nat.beq p.length (F.T.cz T) && p.all PV.plain && !isUnk (F.T.K T) && Nat.blt 0 (F.T.cz T) then
  bif isAggK (F.T.K T) then some (.st p) else
  match p with
  | [c] => some c
  | _ => none
 else none
def okd (x : Option (Bool × PV)) : Option (PV × Option Nat) :=
 match x with
 | some (c, p) => bif c then some (p, none) else none
 | none => none
def just (x : Option PV) : Option (PV × Option Nat) :=
 match x with
 | some p => some (p, none)
 | none => none
def iOf (ρ : Operand → Option PV) (o : Operand) : Option Int :=
 match ρ o with
 | some (.i _ n) => some n
 | _ => none
def seenR (ρ : Operand → Option PV) (T : Nat) (o : Operand) : Option (List (Dn T)) :=
 match ρ o with
 | some (.fl U xs) => castL T xs
 | some (.ol U xs) => castL T xs
 | some .nl => some []
 | _ => none
def fillR (F : Fx) (e n : Nat) (ρ : Operand → Option PV) : List (Nat × Operand) → List (Dn e) → Option (List (Dn e))
 | [], xs => some xs
 | (q, x) :: r, xs => match ρ x with
  | some p => bif Nat.beq p.cs.length (F.T.cz e) && p.cs.all PV.plain && Nat.blt q n then
    match mkE e p.cs with
    | some y => fillR F e n ρ r (xs.set q y)
    | none => none
   else none
  | none => none
def dupsR (ρ : Operand → Option PV) : List (Nat × Operand) → Bool
 | [] => true
 | (_, x) :: r => (match ρ x with
  | some p => p.dup && !p.isLoc
  | none => false) && dupsR ρ r
def fillB (F : Fx) (d T : Nat) (ρ : Operand → Option PV) : List (Nat × Operand) → List PV → Option (List PV)
 | [], cs => some cs
 | (f, x) :: r, cs => match F.T.off T f, ρ x with
  | some (o, n), some p => bif p.dup && (Nat.beq p.cs.length n && p.cs.all PV.okc && Nat.ble (o + n) cs.length && notT d x && (part cs o n).all PV.plain) then fillB F d T ρ r (splice cs o p.cs) else none
  | _, _ => none
def loR (ρ : Operand → Option PV) : Option Operand → Option Int
 | none => some 0
 | some o => iOf ρ o
def hiR (ρ : Operand → Option PV) (n : Nat) : Option Operand → Option Int
 | none => some (n : Int)
 | some o => iOf ρ o
def locP (F : Fx) (d : Nat) (op : Op) (ρ : Operand → Option PV) (cont : Base → Option (List PV)) : Option (PV × Option Nat) :=
 match op with
 | .move x => match ρ x with
  | some p => bif p.dup then some (p, none) else
   match F.md d, x with
   | .take, .tmp t => bif p.okM && !Nat.beq t d then some (p, some t) else none
   | _, _ => none
  | none => none
 | .assign x => match ρ x with
  | some p => bif p.dup then some (p, none) else
   bif isFrz (F.md d) then none else
   match x with
   | .tmp t => bif p.okM && !Nat.beq t d then some (p, some t) else none
   | _ => none
  | none => none
 | .pick c a b => match ρ c with
  | some (.b true) => match ρ a with
   | some p => bif p.dup then some (p, none) else none
   | none => none
  | some (.b false) => match ρ b with
   | some p => bif p.dup then some (p, none) else none
   | none => none
  | _ => none
 | .load T x => match ρ x with
  | some (.fa U y off) => just (valCs F T (cells U y) off)
  | some (.ad b off) => match cont b with
   | some cs => bif (part cs off (F.T.cz T)).all PV.plain then just (valCs F T cs off) else none
   | none => none
  | _ => none
 | .fieldAddr T x f => match F.T.off T f with
  | some (o, _) => match ρ x with
   | some (.ad b off) => some (.ad b (off + o), none)
   | some (.fa U y off) => some (.fa U y (off + o), none)
   | _ => none
  | none => none
 | .indexAddr T x i => match F.T.K T, iOf ρ i, (ρ x).map PV.fol with
  | .slice e, some n, some (.fl U xs) => bif Nat.beq U e && inB n xs.length then some (.fa U (xs.getD n.toNat (dflt U)) 0, none) else none
  | _, _, _ => none
 | .index T x i => match F.T.K T, ρ x, iOf ρ i with
  | .str, some (.s b), some n => bif inB n b.size then some (.i .u8 (bt b n), none) else none
  | _, _, _ => none
 | .binOp op T x y _ => match ρ x, ρ y with
  | some x, some y => okd (binP F.T op T x y)
  | _, _ => none
 | .unOp op _ x => match ρ x with
  | some x => just (unP op x)
  | none => none
 | .convert src dst x => match F.T.K src, F.T.K dst, ρ x with
  | .int _, .int k, some (.i _ n) => some (.i k (k.wrap n), none)
  | .str, .str, some (.s b) => some (.s b, none)
  | .slice e, .str, _ => match F.T.K e, u8 e, seenR ρ e x with
   | .int .u8, some f, some ys => some (.s (strOfBytes (ys.map f)), none)
   | _, _, _ => none
  | _, _, _ => none
 | .extract x i => match ρ x, x with
  | some (.tup vs), .tmp _ => match vs[i]? with
   | some p => bif p.dup then some (p, none) else none
   | none => none
  | _, _ => none
 | .build T ps => match F.T.zr T, isAggK (F.T.K T) with
  | some z, true => match fillB F d T ρ ps.toList z with
   | some cs => some (.st cs, none)
   | none => none
  | _, _ => none
 | .buildSlice T n ps => match F.T.K T with
  | .slice e => bif dupsR ρ ps.toList then
    match F.T.zr e with
    | some z => match mkE e z with
     | some y => match Nat.ble (n * F.T.cz e) 16777216, fillR F e n ρ ps.toList (List.replicate n y) with
      | true, some xs => some (bif isFrz (F.md d) then .fl e xs else .ol e xs, none)
      | _, _ => none
     | none => none
    | none => none
   else none
  | _ => none
 | .nilCheck x => match ρ x with
  | some (.ad b off) => some (.ad b off, none)
  | some (.fa U y off) => some (.fa U y off, none)
  | some (.fp U y) => bif y.isSome then some (.fa U (y.getD (dflt U)) 0, none) else none
  | _ => none
 | .slice T x lo hi none => match F.T.K T, ρ x with
  | .str, some (.s b) => match loR ρ lo, hiR ρ b.size hi with
   | some l, some h => bif inS l h b.size then some (.s (b.extract l.toNat h.toNat), none) else none
   | _, _ => none
  | _, _ => none
 | .call { callee := .builtin .len, args, argTypes } => match args.toList, argTypes.toList with
  | [x], [T] => match F.T.K T, ρ x with
   | .str, some (.s b) => some (.i .i64 b.size, none)
   | .slice _, some (.fl _ xs) => some (.i .i64 xs.length, none)
   | .slice _, some (.ol _ xs) => some (.i .i64 xs.length, none)
   | .slice _, some .nl => some (.i .i64 0, none)
   | _, _ => none
  | _, _ => none
 | _ => none
def locQ (F : Fx) (d : Nat) (op : Op) (ρ : Operand → Option PV) (cont : Base → Option (List PV)) : Option (Bool × PV × Option Nat) :=
 match op with
 | .indexAddr T x i => match F.T.K T, iOf ρ i, (ρ x).map PV.fol with
  | .slice e, some n, some (.fl U xs) => bif Nat.beq U e then some (inB n xs.length, .fa U (xs.getD n.toNat (dflt U)) 0, none) else none
  | _, _, _ => none
 | .index T x i => match F.T.K T, ρ x, iOf ρ i with
  | .str, some (.s b), some n => some (inB n b.size, .i .u8 (bt b n), none)
  | _, _, _ => none
 | .slice T x lo hi none => match F.T.K T, ρ x with
  | .str, some (.s b) => match loR ρ lo, hiR ρ b.size hi with
   | some l, some h => some (inS l h b.size, .s (b.extract l.toNat h.toNat), none)
   | _, _ => none
  | _, _ => none
 | .binOp op T x y _ => match ρ x, ρ y with
  | some x, some y => match binP F.T op T x y with
   | some (c, p) => some (c, p, none)
   | none => none
  | _, _ => none
 | .nilCheck x => match ρ x with
  | some (.ad b off) => some (true, .ad b off, none)
  | some (.fa U y off) => some (true, .fa U y off, none)
  | some (.fp U y) => some (y.isSome, .fa U (y.getD (dflt U)) 0, none)
  | _ => none
 | op => match locP F d op ρ cont with
  | some (p, u) => some (true, p, u)
  | none => none
def St.upd (S : St) (d : Nat) (u : Option Nat) (p : PV) : St :=
 match u with
 | some t => { S with tm := (d, p) :: (t, .gone) :: S.tm }
 | none => { S with tm := (d, p) :: S.tm }
def uNe (d : Nat) : Option Nat → Bool
 | some t => !Nat.beq t d
 | none => true
def calleeO : Callee → List Operand
 | .value (.tmp t) => [.tmp t]
 | _ => []
def opsL : Op → List Operand
 | .move x | .assign x | .load _ x | .fieldAddr _ x _ | .unOp _ _ x | .convert _ _ x | .nilCheck x => [x]
 | .pick c a b => [c, a, b]
 | .indexAddr _ x i | .index _ x i => [x, i]
 | .binOp _ _ x y _ => [x, y]
 | .extract x _ => [x]
 | .build _ ps => ps.toList.map Prod.snd
 | .buildSlice _ _ ps => ps.toList.map Prod.snd
 | .call c => calleeO c.callee ++ c.args.toList
 | .store _ x v => [x, v]
 | .slice _ x lo hi _ => x :: (lo.toList ++ hi.toList)
 | _ => []
def tmpsOf : List Operand → List Nat
 | [] => []
 | .tmp t :: r => t :: tmpsOf r
 | _ :: r => tmpsOf r
def gdst (ops : Array Oper) (o : Oper) : List Nat :=
 match o.guard with
 | some (j, _) => match ops[j]? with
  | some o' => match o'.dst with
   | some t => [t]
   | none => []
  | none => []
 | none => []
def looks (ops : Array Oper) (o : Oper) : List Nat := tmpsOf (opsL o.op) ++ gdst ops o
def dstL : Option Nat → List Nat
 | some t => [t]
 | none => []
def Wr (F : Fx) (o : Oper) : List Nat :=
 dstL o.dst ++ match o.op with
  | .move x => match o.dst with
   | some t => match F.md t with
    | .take => tmpsOf [x]
    | _ => []
   | none => []
  | .assign x => tmpsOf [x]
  | .call c => tmpsOf c.args.toList
  | _ => []
def edge (ops : Array Oper) (i j : Nat) : Bool :=
 match ops[i]? with
 | some o => o.after.toList.any fun e => Region.binds .any e && Nat.beq e.on j
 | none => false
def disj (xs ys : List Nat) : Bool := xs.all fun x => !ys.any fun y => Nat.beq x y
def stT : Op → Option Nat
 | .store _ (.tmp a) _ => some a
 | _ => none
def mems : Op → List Nat
 | .store _ (.tmp a) _ => [a]
 | .load _ (.tmp a) => [a]
 | _ => []
def apartM (x y : Op) : Bool :=
 match stT x with
 | some a => !(stT y).isSome && !(mems y).any fun b => Nat.beq b a
 | none => true
def apartW (F : Fx) (ops : Array Oper) (x y : Oper) : Bool := (disj (Wr F x) (looks ops y) && (disj (Wr F y) (looks ops x) && disj (Wr F x) (Wr F y))) && (apartM x.op y.op && apartM y.op x.op)
def allB : Nat → (Nat → Bool) → Bool
 | 0, _ => true
 | n + 1, f => f n && allB n f
def maskOf (acc : List Nat) : List Edge → Nat
 | [] => 0
 | e :: r => bif Region.binds .any e then Nat.lor (Nat.lor (2 ^ e.on) (acc.getD e.on 0)) (maskOf acc r) else maskOf acc r
def masksOf : List Oper → List Nat → List Nat
 | [], acc => acc
 | o :: r, acc => masksOf r (acc ++ [maskOf acc o.after.toList])
def drawOkM (F : Fx) (ops : Array Oper) (m : Nat) (ms : List Nat) : Bool :=
 allB ops.size fun i => match ops[i]? with
  | some o => (o.after.toList.all fun e => !Region.binds .any e || Nat.blt e.on i) &&
    allB i fun j => (ms.getD i 0).testBit j || (Nat.blt i m && match ops[j]? with
     | some o' => apartW F ops o' o
     | none => true)
  | none => true
def drawOk (F : Fx) (ops : Array Oper) (m : Nat) : Bool := drawOkM F ops m (masksOf ops.toList [])
def quietOp : Op → Bool
 | .move _ | .load _ _ | .fieldAddr _ _ _ | .indexAddr _ _ _ | .nilCheck _ | .binOp _ _ _ _ _ | .slice _ _ _ _ none => true
 | .call { callee := .builtin .len, args := _, argTypes := _ } => true
 | _ => false
def pureOp : Op → Bool
 | .move _ | .assign _ => true
 | _ => false
def commB (ops : Array Oper) (x y : Oper) : Bool := Oper.apart ops x y && (pureOp x.op || pureOp y.op || (quietOp x.op && quietOp y.op))
def drawT (ops : Array Oper) : Bool :=
 Region.noSelect ops && allB ops.size fun i => match ops[i]? with
  | some o => (o.after.toList.all fun e => !Region.binds .any e || Nat.blt e.on i) &&
    allB i fun j => ((masksOf ops.toList []).getD i 0).testBit j || match ops[j]? with
     | some o' => commB ops o' o
     | none => true
  | none => true
def indepOp (F : Fx) : Op → Bool
 | .move _ | .assign _ | .extract _ _ | .nilCheck _ => true
 | .indexAddr T _ _ => match F.T.K T with
  | .slice _ => true
  | _ => false
 | .fieldAddr T _ f => (F.T.off T f).isSome
 | _ => false
def stabOp (F : Fx) : Op → Bool
 | .load _ _ => true
 | op => indepOp F op
def stoOp : Op → Bool
 | .store _ _ _ => true
 | _ => false
def isAl (o : Oper) : Bool :=
 match o.op, o.dst, o.guard with
 | .alloc _, some _, none => o.after.toList.all fun e => !Region.binds .any e
 | _, _, _ => false
def alAt (ops : Array Oper) (k : Nat) : Bool :=
 match ops[k]? with
 | some o => isAl o
 | none => false
def commX (F : Fx) (ops : Array Oper) (x y : Oper) : Bool := Oper.apart ops x y && (indepOp F x.op || indepOp F y.op || (stabOp F x.op && stabOp F y.op))
def commK (F : Fx) (ops : Array Oper) (k i : Oper) : Bool := Oper.apart ops k i && (indepOp F i.op || stabOp F i.op)
def drawX (F : Fx) (ops : Array Oper) : Bool :=
 Region.noSelect ops && allB ops.size fun i => match ops[i]? with
  | some o => (o.after.toList.all fun e => !Region.binds .any e || Nat.blt e.on i) &&
    (isAl o || (allB i fun j => ((masksOf ops.toList []).getD i 0).testBit j) ||
     ((indepOp F o.op || stabOp F o.op || stoOp o.op) && ((allB i fun j => ((masksOf ops.toList []).getD i 0).testBit j || match ops[j]? with
       | some o' => commX F ops o' o
       | none => true) &&
      allB ops.size fun k => !alAt ops k || ((masksOf ops.toList []).getD i 0).testBit k || match ops[k]? with
       | some o' => commK F ops o' o
       | none => true)))
  | none => true
def offT (S : St) (d : Nat) : Bool :=
 (match lk S.tm d with
  | none => true
  | some .gone => true
  | _ => false) && match lk S.rt d with
  | none => true
  | some .dead => true
  | _ => false
def offD (d : Option Nat) : List Oper → Bool
 | [] => true
 | o :: r => (!isAl o || (match d, o.dst with
  | some t, some u => !Nat.beq t u
  | _, _ => true)) && offD d r
def offA (F : Fx) (S : St) : List Oper → Bool
 | [] => true
 | o :: r => (match isAl o, o.op, o.dst with
  | true, .alloc T, some d => Nat.blt d F.nt && offT S d && !F.xt d && !F.T.sf T && (F.T.zr T).isSome
  | _, _, _ => true) && offD o.dst r && offA F S r
noncomputable def evX (F : Fx) (C : CTab) {β : Type} (ops : Array Oper) : List Oper → St → (St → Option β) → Option β
 | [], S, K => K S
 | o :: r, S, K => bif offA F S (o :: r) then evOps F C ops [o] S fun S => evX F C ops r S K else none
def openSto (ops : Array Oper) : Bool :=
 !allB ops.size fun i => allB i fun j => ((masksOf ops.toList []).getD i 0).testBit j || match ops[i]?, ops[j]? with
  | some o, some o' => !(stT o.op).isSome && !(stT o'.op).isSome
  | _, _ => true
def selfLd (ops : Array Oper) (op : Op) (ρ : Operand → Option PV) : Bool :=
 match op with
 | .load _ x => match ρ x with
  | some (.ad (.loc b) _) => (match x with | .tmp t => Nat.beq t b | _ => false) || !openSto ops
  | some (.ad (.obj _) _) => !openSto ops
  | _ => true
 | _ => true
def stoS (F : Fx) (op : Op) (ρ : Operand → Option PV) (lc : Nat → Option (List PV)) : Option (Nat × List PV) :=
 match op with
 | .store T (.tmp a) v => match ρ (.tmp a), ρ v with
  | some (.ad (.loc b) off), some p => bif Nat.beq a b && p.dup then
    match lc b with
    | some cs => bif Nat.beq p.cs.length (F.T.cz T) && p.cs.all PV.okc && Nat.blt 0 (F.T.cz T) && Nat.ble (off + p.cs.length) cs.length then some (b, splice cs off p.cs) else none
    | none => none
   else none
  | _, _ => none
 | _ => none
noncomputable def evCloR (F : Fx) (C : CTab) {β : Type} (f : Nat) (d : Option Nat) (args : List Operand) (caps : List (Nat × Nat)) (S : St) (K : St → Option β) : Option β :=
 match argsOf S args with
 | some ps => bif (ps.all fun p => p.dup && !p.isLoc) && dstOk F d then
   match caps with
   | [] => bif C.isA f then C.A f ps β fun v => K (setD S d v) else none
   | c :: r => bif F.e && !C.isA f then C.B f (ps ++ capP (c :: r)) S.mm β fun v M => same S.mm M (K (setD S d v)) else none
  else none
 | none => none
noncomputable def evFnR (F : Fx) (C : CTab) {β : Type} (f : Nat) (d : Option Nat) (args : List Operand) (S : St) (K : St → Option β) : Option β :=
 match argsOf S args with
 | some ps => bif (ps.all fun p => p.dup && !p.isLoc) && dstOk F d then
   bif F.e && !C.isA f then C.B f ps S.mm β fun v M => same S.mm M (K (setD S d v)) else none
  else none
 | none => none
noncomputable def evDop (F : Fx) (C : CTab) {β : Type} (ops : Array Oper) (o : Oper) (S : St) (K : St → Option β) : Option β :=
 match o.op with
 | .call { callee := .value (.func f), args, argTypes := _ } => bif C.isA f then evCall F C f o.dst args.toList S K else evFnR F C f o.dst args.toList S K
 | .call { callee := .value (.tmp t), args, argTypes := _ } => match lk S.tm t with
  | some (.clo f caps) => evCloR F C f o.dst args.toList caps S K
  | _ => none
 | _ => match o.dst with
  | some d => bif Nat.blt d F.nt && selfLd ops o.op S.opv then
    match locQ F d o.op S.opv S.cont with
    | some (c, p, u) => bif c then (bif uNe d u then K (S.upd d u p) else none) else none
    | none => none
   else none
  | none => bif openSto ops then
    match stoS F o.op S.opv (lk S.lc) with
    | some x => K { S with lc := x :: S.lc }
    | none => none
   else none
noncomputable def evD (F : Fx) (C : CTab) {β : Type} (ops : Array Oper) : List Oper → St → (St → Option β) → Option β
 | [], S, K => K S
 | o :: r, S, K => match o.guard with
  | none => evDop F C ops o S fun S => evD F C ops r S K
  | some (j, want) => match guardVal ops S j with
   | some (d, none, t) =>
    bif dstOk F o.dst then
     bif t then
      (bif want then evDop F C ops o (S.upd d none (.b true)) fun S => evD F C ops r S K
       else evD F C ops r (setD (S.upd d none (.b true)) o.dst (.tup [])) K)
     else
      (bif want then evD F C ops r (setD (S.upd d none (.b false)) o.dst (.tup [])) K
       else evDop F C ops o (S.upd d none (.b false)) fun S => evD F C ops r S K)
    else none
   | some (_, some _, _) => bif dstOk F o.dst then evD F C ops r (setD S o.dst (.tup [])) K else none
   | none => none
inductive TI where
 | code (c : Code) (p : Nat)
 | inBlock (id : Nat)
 | inLoop (c : Code) (p : Nat)
 | cut (p : Nat)
def TI.items : TI → List Item
 | .code c _ => [.code c]
 | .inBlock id => [.inBlock id]
 | .inLoop c _ => [.inLoop c]
 | .cut _ => []
def exitT (id : Nat) : List TI → Option (List TI)
 | .inBlock j :: k => bif Nat.beq j id then some k else exitT id k
 | _ :: k => exitT id k
 | [] => none
inductive Co where
 | no
 | ol (T : Nat)
 | fl (T : Nat)
def coP (c : Co) (p : PV) : PV :=
 match c, p with
 | .ol T, .nl => .ol T []
 | .fl T, .nl => .fl T []
 | _, p => p
def coCs : List Co → List PV → List PV
 | c :: l, p :: r => coP c p :: coCs l r
 | _, r => r
def keepT (l : List (Nat × PV)) : List (Nat × Co) → List (Nat × PV)
 | [] => []
 | (t, c) :: r => match lk l t with
  | some x => (t, coP c x) :: keepT l r
  | none => keepT l r
def keepC (l : List (Nat × List PV)) : List (Nat × List Co) → List (Nat × List PV)
 | [] => []
 | (t, c) :: r => match lk l t with
  | some x => (t, coCs c x) :: keepC l r
  | none => keepC l r
def Lv : Type := List (Nat × Co) × List (Nat × List Co)
def St.keep (S : St) (L : Lv) : St := { tm := keepT S.tm L.1, lc := keepC S.lc L.2, mm := S.mm, rt := [], vl := S.vl }
structure Fn where
 x : Fx
 ct : Nat → Bool
 lv : Nat → Lv
 draw : Nat → Option Nat
 res : List ResultVar
 /-- it gives lent lists back -/
 w : Bool
def resPV (F : Fx) (S : St) : ResultVar → Option (PV × Nat × Bool)
 | .tmp t => match lk S.tm t with
  | some p => some (p, t, false)
  | none => none
 | .cell a T => match lk S.tm a with
  | some (.ad (.loc t) 0) => match lk S.lc t with
   | some cs => bif Nat.beq cs.length (F.T.cz T) && (Nat.blt 0 (F.T.cz T) && (cs.all PV.okc && !isUnk (F.T.K T))) then
     bif isAggK (F.T.K T) then some (.st cs, t, true) else
     match cs with
     | [c] => some (c, t, true)
     | _ => none
    else none
   | none => none
  | _ => none
def retV (F : Fx) (S : St) : List ResultVar → Option (List (PV × Nat × Bool))
 | [] => some []
 | x :: r => match resPV F S x, retV F S r with
  | some p, some ps => some (p :: ps)
  | _, _ => none
def nodupK : List (PV × Nat × Bool) → Bool
 | [] => true
 | (_, t, c) :: r => (!r.any fun q => Nat.beq q.2.1 t && (q.2.2 == c)) && nodupK r
def one {α : Type} : List α → Bool
 | [_] => true
 | _ => false
def ret1 : List PV → PV
 | [p] => p
 | ps => .tup ps
def localPtr : PV → Bool
 | .ad (.loc _) _ => true
 | _ => false
def retOk : List PV → Bool
 | [p] => p.okT && !localPtr p
 | ps => ps.all fun p => p.okT && !localPtr p
def retS (G : Fn) {β : Type} (Kr : PV → List (List PV) → Option β) (S : St) : Option β :=
 match retV G.x S G.res with
 | some rs => bif retOk (rs.map Prod.fst) && (one rs || nodupK rs) then Kr (ret1 (rs.map Prod.fst)) (bif G.w then [S.vl] else S.mm) else none
 | none => none
def strip : List TI → List TI
 | .inBlock _ :: k => strip k
 | k => k
noncomputable def steps (G : Fn) (C : CTab) {β : Type} (Kr : PV → List (List PV) → Option β) (ihn : List TI → St → Option β) : Nat → List TI → St → Option β
 | 0, _, _ => none
 | s + 1, todo, S => match todo with
  | [] => retS G Kr S
  | .inBlock _ :: k => steps G C Kr ihn s k S
  | .cut p :: k => ihn (strip k) (S.keep (G.lv p))
  | .inLoop c p :: k => ihn (.code c (2 * p) :: .inLoop c p :: k) (S.keep (G.lv p))
  | .code c p :: k => match c with
   | .skip => steps G C Kr ihn s k S
   | .seq a b => steps G C Kr ihn s (.code a (2 * p) :: .code b (2 * p + 1) :: k) S
   | .cond o x y => match S.opv o with
    | some (.b t) =>
     bif G.ct p then
      (bif t then steps G C Kr ihn s (.code x (2 * p) :: .cut p :: k) S
       else steps G C Kr ihn s (.code y (2 * p + 1) :: .cut p :: k) S)
     else
      (bif t then steps G C Kr ihn s (.code x (2 * p) :: k) S
       else steps G C Kr ihn s (.code y (2 * p + 1) :: k) S)
    | _ => none
   | .block id b => steps G C Kr ihn s (.code b (2 * p) :: .inBlock id :: k) S
   | .loop b => ihn (.code b (2 * p) :: .inLoop b p :: k) (S.keep (G.lv p))
   | .exit id => match exitT id k with
    | some k => steps G C Kr ihn s k S
    | none => none
   | .ret => retS G Kr S
   | .region id ops d =>
    bif d then
     match G.draw id with
     | some m => bif Nat.ble 1000 m then
       bif drawX G.x ops then
        evX G.x C ops ops.toList S.noR fun S =>
         bif G.ct p then ihn (strip k) (S.keep (G.lv p)) else steps G C Kr ihn s k S.noR
       else none
      else bif drawOk G.x ops m || (Nat.beq m 0 && drawT ops) then
       evD G.x C ops (ops.toList.take m) S.noR fun S =>
        evOps G.x C ops (ops.toList.drop m) S fun S =>
         bif G.ct p then ihn (strip k) (S.keep (G.lv p)) else steps G C Kr ihn s k S.noR
      else none
     | none => none
    else
     evOps G.x C ops ops.toList S.noR fun S =>
      bif G.ct p then ihn (strip k) (S.keep (G.lv p)) else steps G C Kr ihn s k S.noR
   | _ => none
noncomputable def ev (G : Fn) (C : CTab) {β : Type} (Kr : PV → List (List PV) → Option β) : Nat → List TI → St → Option β
 | 0 => fun _ _ => none
 | n + 1 => steps G C Kr (ev G C Kr n) 4000
end
end Go.KM
