/-
  DERIVED: THE SHELF's CONTRACTS AT THIS DUMP, IN PLAIN WORDS (tools/lay-plain.mjs out of 'TrydShelf.lean', which tools/lay-shelf.mjs wrote): THE SAME DECLARATIONS UNDER THE SAME NAMES: 'import', 'namespace', 'open', 'def', 'theorem' AND NOTHING ELSE: no command of the shelf's: FOR A HAND-IN. Each laying: the table of numbers ('.._ren') and one theorem, a field a fact of the dump's own or the kernel's comparison; each contract: ONE APPLICATION.
-/
import Derived.Shelf.Strings.Builder1
import Derived.Shelf.Strings.Fields
import Derived.Shelf.LaysM
import Derived.Shelf.Strings.SplitShaped
import Derived.Shelf.Unicode.Latin
import Derived.Shelf.Unicode.Is16White
import Derived.Shelf.Unicode.IsSpaceAny
import Derived.Shelf.Unicode.Is16Any
import Derived.Shelf.Unicode.Is32Any
import Derived.Shelf.Unicode.ExclAny
import Derived.Test.YtdhkmgloghlnnaaDoorProg
namespace Go.Proofs
open Go.Shelf
def Tryd.lays170_ren : Go.Shelf.Ren := ⟨fun | 170 => 84 | n => n, fun | 70 => 137 | 3 => 3 | 0 => 0 | 72 => 139 | 37 => 85 | 5 => 5 | n => n, fun | n => n⟩
theorem Tryd.lays170 : Go.Proofs.Lays.n170 Tryd.prog Tryd.lays170_ren := {
  mixed := by kernel_rfl
  f170 := Tryd.func84.trans (congrArg some (by kernel_rfl))
  t0 := Tryd.underlying0
  a0 := Tryd.isAgg0
  z0 := Tryd.sizeOf0
  v0 := Tryd.zeroValue0
  t3 := Tryd.underlying3
  a3 := Tryd.isAgg3
  z3 := Tryd.sizeOf3
  v3 := Tryd.zeroValue3
  t37 := Tryd.underlying85
  a37 := Tryd.isAgg85
  z37 := Tryd.sizeOf85
  v37 := Tryd.zeroValue85
  t70 := Tryd.underlying137
  a70 := Tryd.isAgg137
  z70 := Tryd.sizeOf137
  v70 := Tryd.zeroValue137
  t72 := Tryd.underlying139
  a72 := Tryd.isAgg139
  z72 := Tryd.sizeOf139
  v72 := Tryd.zeroValue139 }
open Go.RowKit in
/-- (*strings.Builder).Len: "Len returns the number of accumulated bytes; b.Len() == len(b.String()).": the world is as it was. (LAID: no walk: one application.) -/
theorem Tryd.Builder_Len (B b : Nat) (bs : List Value) (w : World) (h : Lib.IsBuilder 139 5 B b bs w) :
    Calls Tryd.prog 84 #[.pointer (some ⟨b, 0, none⟩)] w fun e w' => e = .returned (.int .i64 bs.length) ∧ w' = w := Any.Builder_Len Tryd.lays170 B b bs w h
def Tryd.lays169_ren : Go.Shelf.Ren := ⟨fun | 169 => 85 | n => n, fun | 70 => 137 | 9 => 9 | 0 => 0 | 72 => 139 | 37 => 85 | 127 => 170 | 3 => 3 | 5 => 5 | n => n, fun | n => n⟩
theorem Tryd.lays169 : Go.Proofs.Lays.n169 Tryd.prog Tryd.lays169_ren := {
  mixed := by kernel_rfl
  f169 := Tryd.func85.trans (congrArg some (by kernel_rfl))
  t0 := Tryd.underlying0
  a0 := Tryd.isAgg0
  z0 := Tryd.sizeOf0
  v0 := Tryd.zeroValue0
  t3 := Tryd.underlying3
  a3 := Tryd.isAgg3
  z3 := Tryd.sizeOf3
  v3 := Tryd.zeroValue3
  t9 := Tryd.underlying9
  a9 := Tryd.isAgg9
  z9 := Tryd.sizeOf9
  v9 := Tryd.zeroValue9
  t37 := Tryd.underlying85
  a37 := Tryd.isAgg85
  z37 := Tryd.sizeOf85
  v37 := Tryd.zeroValue85
  t70 := Tryd.underlying137
  a70 := Tryd.isAgg137
  z70 := Tryd.sizeOf137
  v70 := Tryd.zeroValue137
  t72 := Tryd.underlying139
  a72 := Tryd.isAgg139
  z72 := Tryd.sizeOf139
  v72 := Tryd.zeroValue139
  t127 := Tryd.underlying170
  a127 := Tryd.isAgg170
  z127 := Tryd.sizeOf170
  v127 := Tryd.zeroValue170 }
theorem Tryd.Builder_Extra_169 : Builder.Extra Tryd.prog Tryd.lays169_ren := {
  sizeBuilder := by kernel_rfl
  liesBuilder := by kernel_rfl
  t5 := Tryd.underlying5
  a5 := Tryd.isAgg5
  z5 := Tryd.sizeOf5
  v5 := Tryd.zeroValue5
  infoByte := by kernel_rfl
  cellsByte := by kernel_rfl
  sizeByte := by kernel_rfl
  neB5 := by decide }
open Go.RowKit in
/-- (*strings.Builder).String: "String returns the accumulated string.": OF A BUILDER THAT HOLDS AT LEAST ONE BYTE. ✋ THE MODEL FREEZES THOSE BYTES IN THE BUFFER (unsafe.String): a later write INTO them ends the model's run without an answer; a later append BEHIND them goes on. The statement's order of evaluation is drawn: one draw. (LAID: no walk: one application.) -/
theorem Tryd.Builder_String (B b : Nat) (l : List UInt8) (w : World) (h : Lib.IsBuilder 139 5 B b (Lib.byteCells l) w) (h0 : l ≠ []) :
    Calls Tryd.prog 85 #[.pointer (some ⟨b, 0, none⟩)] w fun e w' => e = .returned (.string ⟨l.toArray⟩) ∧ Below B w w' := Any.Builder_String Tryd.lays169 Tryd.Builder_Extra_169 B b l w h h0
open Go.RowKit in
/-- (*strings.Builder).String OF A BUILDER THAT HOLDS NO BYTE: the empty string. (Its buffer is nil, or a row of which it has taken nothing yet; where that row has NO capacity the model lays one new block for unsafe.SliceData's 'some address'.) One draw. (LAID: no walk: one application.) -/
theorem Tryd.Builder_String_empty (B b : Nat) (w : World) (h : Lib.IsBuilder 139 5 B b [] w) (hBw : B ≤ w.heap.size) :
    Calls Tryd.prog 85 #[.pointer (some ⟨b, 0, none⟩)] w fun e w' => e = .returned (.string ⟨#[]⟩) ∧ Below B w w' := Any.Builder_String_empty Tryd.lays169 Tryd.Builder_Extra_169 B b w h hBw
open Go.RowKit in
/-- (*strings.Builder).String: "String returns the accumulated string.": WHATEVER THE BUILDER HOLDS. (LAID: no walk: one application.) -/
theorem Tryd.Builder_String_any (B b : Nat) (l : List UInt8) (w : World) (h : Lib.IsBuilder 139 5 B b (Lib.byteCells l) w) (hBw : B ≤ w.heap.size) :
    Calls Tryd.prog 85 #[.pointer (some ⟨b, 0, none⟩)] w fun e w' => e = .returned (.string ⟨l.toArray⟩) ∧ Below B w w' := Any.Builder_String_any Tryd.lays169 Tryd.Builder_Extra_169 B b l w h hBw
def Tryd.lays157_ren : Go.Shelf.Ren := ⟨fun | 157 => 152 | 229 => 159 | 199 => 160 | 261 => 161 | 311 => 162 | 312 => 163 | n => n, fun | 9 => 9 | 31 => 171 | 3 => 3 | 5 => 5 | 4 => 4 | 119 => 200 | 0 => 0 | 40 => 202 | 152 => 203 | 21 => 21 | 154 => 205 | 51 => 206 | 141 => 208 | 196 => 212 | 193 => 209 | 198 => 215 | 49 => 213 | 194 => 210 | 201 => 218 | 226 => 220 | 46 => 169 | 227 => 221 | n => n, fun | 0 => 1 | 6 => 3 | n => n⟩
theorem Tryd.lays157 : Go.Proofs.Lays.n157 Tryd.prog Tryd.lays157_ren := {
  mixed := by kernel_rfl
  f157 := Tryd.func152.trans (congrArg some (by kernel_rfl))
  f199 := Tryd.func160.trans (congrArg some (by kernel_rfl))
  f229 := Tryd.func159.trans (congrArg some (by kernel_rfl))
  f261 := Tryd.func161.trans (congrArg some (by kernel_rfl))
  f311 := Tryd.func162.trans (congrArg some (by kernel_rfl))
  f312 := Tryd.func163.trans (congrArg some (by kernel_rfl))
  t0 := Tryd.underlying0
  a0 := Tryd.isAgg0
  z0 := Tryd.sizeOf0
  v0 := Tryd.zeroValue0
  t3 := Tryd.underlying3
  a3 := Tryd.isAgg3
  z3 := Tryd.sizeOf3
  v3 := Tryd.zeroValue3
  t4 := Tryd.underlying4
  a4 := Tryd.isAgg4
  z4 := Tryd.sizeOf4
  v4 := Tryd.zeroValue4
  t5 := Tryd.underlying5
  a5 := Tryd.isAgg5
  z5 := Tryd.sizeOf5
  v5 := Tryd.zeroValue5
  t9 := Tryd.underlying9
  a9 := Tryd.isAgg9
  z9 := Tryd.sizeOf9
  v9 := Tryd.zeroValue9
  t21 := Tryd.underlying21
  a21 := Tryd.isAgg21
  z21 := Tryd.sizeOf21
  v21 := Tryd.zeroValue21
  t31 := Tryd.underlying171
  a31 := Tryd.isAgg171
  z31 := Tryd.sizeOf171
  v31 := Tryd.zeroValue171
  t40 := Tryd.underlying202
  a40 := Tryd.isAgg202
  z40 := Tryd.sizeOf202
  v40 := Tryd.zeroValue202
  t46 := Tryd.underlying169
  a46 := Tryd.isAgg169
  z46 := Tryd.sizeOf169
  v46 := Tryd.zeroValue169
  t49 := Tryd.underlying213
  a49 := Tryd.isAgg213
  z49 := Tryd.sizeOf213
  v49 := Tryd.zeroValue213
  t51 := Tryd.underlying206
  a51 := Tryd.isAgg206
  z51 := Tryd.sizeOf206
  v51 := Tryd.zeroValue206
  t119 := Tryd.underlying200
  a119 := Tryd.isAgg200
  z119 := Tryd.sizeOf200
  t141 := Tryd.underlying208
  a141 := Tryd.isAgg208
  z141 := Tryd.sizeOf208
  v141 := Tryd.zeroValue208
  t152 := Tryd.underlying203
  a152 := Tryd.isAgg203
  z152 := Tryd.sizeOf203
  v152 := Tryd.zeroValue203
  t154 := Tryd.underlying205
  a154 := Tryd.isAgg205
  z154 := Tryd.sizeOf205
  v154 := Tryd.zeroValue205
  t193 := Tryd.underlying209
  a193 := Tryd.isAgg209
  z193 := Tryd.sizeOf209
  v193 := Tryd.zeroValue209
  t194 := Tryd.underlying210
  a194 := Tryd.isAgg210
  z194 := Tryd.sizeOf210
  v194 := Tryd.zeroValue210
  t196 := Tryd.underlying212
  a196 := Tryd.isAgg212
  z196 := Tryd.sizeOf212
  v196 := Tryd.zeroValue212
  t198 := Tryd.underlying215
  a198 := Tryd.isAgg215
  z198 := Tryd.sizeOf215
  v198 := Tryd.zeroValue215
  t201 := Tryd.underlying218
  a201 := Tryd.isAgg218
  z201 := Tryd.sizeOf218
  v201 := Tryd.zeroValue218
  t226 := Tryd.underlying220
  a226 := Tryd.isAgg220
  z226 := Tryd.sizeOf220
  v226 := Tryd.zeroValue220
  t227 := Tryd.underlying221
  a227 := Tryd.isAgg221
  z227 := Tryd.sizeOf221
  v227 := Tryd.zeroValue221
  g0 := by kernel_rfl
  g6 := by kernel_rfl }
open Go.RowKit Go.Lib in
/-- strings.Fields, the table by 'Lib.TabIs' (as strings.TrimSpace's contract). 'hg': the table's number, by its name: at a dump 'by kernel_rfl'. (LAID: no walk: one application.) -/
theorem Tryd.strings_Fields (s : ByteArray) (w : World) (hs : s.size < 4294967281) (hascii : ∀ (j : Nat) b, s.data.toList[j]? = some b → b.toNat < 128) (htab : Lib.TabIs Tryd.prog w "strings.asciiSpace" .u8 Lib.asciiSpaceTab) :
    Calls Tryd.prog 152 #[.string s] w fun e w' =>
      e = .returned (.slice (some ⟨w.heap.size, 0, none⟩) (Lib.fields s.data.toList).length (Lib.fields s.data.toList).length) ∧ w' = w.alloc (.cells ((Lib.fields s.data.toList).map fun l => Value.string ⟨l.toArray⟩).toArray 9) := Any.strings_Fields Tryd.lays157 (by kernel_rfl) (by kernel_rfl) s w hs hascii htab
def Tryd.laysM157_ren : Go.Shelf.Ren := ⟨fun | 157 => 152 | 229 => 159 | 199 => 160 | 261 => 161 | 311 => 162 | 312 => 163 | n => n, fun | 9 => 9 | 31 => 171 | 3 => 3 | 5 => 5 | 4 => 4 | 119 => 200 | 0 => 0 | 40 => 202 | 152 => 203 | 21 => 21 | 154 => 205 | 51 => 206 | 141 => 208 | 196 => 212 | 193 => 209 | 198 => 215 | 49 => 213 | 194 => 210 | 201 => 218 | 226 => 220 | 46 => 169 | 227 => 221 | n => n, fun | 0 => 1 | 6 => 3 | n => n⟩
theorem Tryd.laysM157 : Go.Proofs.LaysM.n157 Tryd.prog Tryd.laysM157_ren := {
  mixed := by kernel_rfl
  f157 := Tryd.func152.trans (congrArg some (by kernel_rfl))
  f199 := Tryd.func160.trans (congrArg some (by kernel_rfl))
  f229 := Tryd.func159.trans (congrArg some (by kernel_rfl))
  f261 := Tryd.func161.trans (congrArg some (by kernel_rfl))
  f311 := Tryd.func162.trans (congrArg some (by kernel_rfl))
  f312 := Tryd.func163.trans (congrArg some (by kernel_rfl))
  t0 := Tryd.underlying0
  a0 := Tryd.isAgg0
  z0 := Tryd.sizeOf0
  v0 := Tryd.zeroValue0
  t3 := Tryd.underlying3
  a3 := Tryd.isAgg3
  z3 := Tryd.sizeOf3
  v3 := Tryd.zeroValue3
  t4 := Tryd.underlying4
  a4 := Tryd.isAgg4
  z4 := Tryd.sizeOf4
  v4 := Tryd.zeroValue4
  t5 := Tryd.underlying5
  a5 := Tryd.isAgg5
  z5 := Tryd.sizeOf5
  v5 := Tryd.zeroValue5
  t9 := Tryd.underlying9
  a9 := Tryd.isAgg9
  z9 := Tryd.sizeOf9
  v9 := Tryd.zeroValue9
  t21 := Tryd.underlying21
  a21 := Tryd.isAgg21
  z21 := Tryd.sizeOf21
  v21 := Tryd.zeroValue21
  t31 := Tryd.underlying171
  a31 := Tryd.isAgg171
  z31 := Tryd.sizeOf171
  v31 := Tryd.zeroValue171
  t40 := Tryd.underlying202
  a40 := Tryd.isAgg202
  z40 := Tryd.sizeOf202
  v40 := Tryd.zeroValue202
  t46 := Tryd.underlying169
  a46 := Tryd.isAgg169
  z46 := Tryd.sizeOf169
  v46 := Tryd.zeroValue169
  t49 := Tryd.underlying213
  a49 := Tryd.isAgg213
  z49 := Tryd.sizeOf213
  v49 := Tryd.zeroValue213
  t51 := Tryd.underlying206
  a51 := Tryd.isAgg206
  z51 := Tryd.sizeOf206
  v51 := Tryd.zeroValue206
  t119 := Tryd.underlying200
  a119 := Tryd.isAgg200
  z119 := Tryd.sizeOf200
  t141 := Tryd.underlying208
  a141 := Tryd.isAgg208
  z141 := Tryd.sizeOf208
  v141 := Tryd.zeroValue208
  t152 := Tryd.underlying203
  a152 := Tryd.isAgg203
  z152 := Tryd.sizeOf203
  v152 := Tryd.zeroValue203
  t154 := Tryd.underlying205
  a154 := Tryd.isAgg205
  z154 := Tryd.sizeOf205
  v154 := Tryd.zeroValue205
  t193 := Tryd.underlying209
  a193 := Tryd.isAgg209
  z193 := Tryd.sizeOf209
  v193 := Tryd.zeroValue209
  t194 := Tryd.underlying210
  a194 := Tryd.isAgg210
  z194 := Tryd.sizeOf210
  v194 := Tryd.zeroValue210
  t196 := Tryd.underlying212
  a196 := Tryd.isAgg212
  z196 := Tryd.sizeOf212
  v196 := Tryd.zeroValue212
  t198 := Tryd.underlying215
  a198 := Tryd.isAgg215
  z198 := Tryd.sizeOf215
  v198 := Tryd.zeroValue215
  t201 := Tryd.underlying218
  a201 := Tryd.isAgg218
  z201 := Tryd.sizeOf218
  v201 := Tryd.zeroValue218
  t226 := Tryd.underlying220
  a226 := Tryd.isAgg220
  z226 := Tryd.sizeOf220
  v226 := Tryd.zeroValue220
  t227 := Tryd.underlying221
  a227 := Tryd.isAgg221
  z227 := Tryd.sizeOf221
  v227 := Tryd.zeroValue221
  g0 := by kernel_rfl
  g6 := by kernel_rfl
  i0 := by kernel_rfl
  i3 := by kernel_rfl
  i4 := by kernel_rfl
  i5 := by kernel_rfl
  i9 := by kernel_rfl
  i21 := by kernel_rfl
  i31 := by kernel_rfl
  i40 := by kernel_rfl
  i46 := by kernel_rfl
  i49 := by kernel_rfl
  i51 := by kernel_rfl
  i141 := by kernel_rfl
  i152 := by kernel_rfl
  i154 := by kernel_rfl
  i193 := by kernel_rfl
  i194 := by kernel_rfl
  i196 := by kernel_rfl
  i198 := by kernel_rfl
  i201 := by kernel_rfl
  i226 := by kernel_rfl
  i227 := by kernel_rfl
  m0 := by kernel_rfl
  m6 := by kernel_rfl }
open Go.RowKit Go.Lib in
/-- strings.Fields on ASCII bytes. (The table: 'Lib.TabIs', as strings.TrimSpace's contract asks it.) (LAID: no walk: one application.) -/
theorem Tryd.strings_Fields_laid (s : ByteArray) (w : World) (hs : s.size < 4294967281) (hascii : ∀ (j : Nat) b, s.data.toList[j]? = some b → b.toNat < 128) (htab : Lib.TabIs Tryd.prog w "strings.asciiSpace" .u8 Lib.asciiSpaceTab) :
    Calls Tryd.prog 152 #[.string s] w fun e w' =>
      e = .returned (.slice (some ⟨w.heap.size, 0, none⟩) (Lib.fields s.data.toList).length (Lib.fields s.data.toList).length) ∧ w' = w.alloc (.cells ((Lib.fields s.data.toList).map fun l => Value.string ⟨l.toArray⟩).toArray 9) := Any.strings_Fields_laid Tryd.laysM157 s w hs hascii htab
def Tryd.lays199_ren : Go.Shelf.Ren := ⟨fun | 199 => 160 | 261 => 161 | 311 => 162 | 312 => 163 | n => n, fun | 21 => 21 | 4 => 4 | 51 => 206 | 141 => 208 | 0 => 0 | 196 => 212 | 193 => 209 | 3 => 3 | 198 => 215 | 49 => 213 | 194 => 210 | 201 => 218 | 226 => 220 | 46 => 169 | 227 => 221 | n => n, fun | 6 => 3 | n => n⟩
theorem Tryd.lays199 : Go.Proofs.Lays.n199 Tryd.prog Tryd.lays199_ren := {
  mixed := by kernel_rfl
  f199 := Tryd.func160.trans (congrArg some (by kernel_rfl))
  f261 := Tryd.func161.trans (congrArg some (by kernel_rfl))
  f311 := Tryd.func162.trans (congrArg some (by kernel_rfl))
  f312 := Tryd.func163.trans (congrArg some (by kernel_rfl))
  t0 := Tryd.underlying0
  a0 := Tryd.isAgg0
  z0 := Tryd.sizeOf0
  v0 := Tryd.zeroValue0
  t3 := Tryd.underlying3
  a3 := Tryd.isAgg3
  z3 := Tryd.sizeOf3
  v3 := Tryd.zeroValue3
  t4 := Tryd.underlying4
  a4 := Tryd.isAgg4
  z4 := Tryd.sizeOf4
  v4 := Tryd.zeroValue4
  t21 := Tryd.underlying21
  a21 := Tryd.isAgg21
  z21 := Tryd.sizeOf21
  v21 := Tryd.zeroValue21
  t46 := Tryd.underlying169
  a46 := Tryd.isAgg169
  z46 := Tryd.sizeOf169
  v46 := Tryd.zeroValue169
  t49 := Tryd.underlying213
  a49 := Tryd.isAgg213
  z49 := Tryd.sizeOf213
  v49 := Tryd.zeroValue213
  t51 := Tryd.underlying206
  a51 := Tryd.isAgg206
  z51 := Tryd.sizeOf206
  v51 := Tryd.zeroValue206
  t141 := Tryd.underlying208
  a141 := Tryd.isAgg208
  z141 := Tryd.sizeOf208
  v141 := Tryd.zeroValue208
  t193 := Tryd.underlying209
  a193 := Tryd.isAgg209
  z193 := Tryd.sizeOf209
  v193 := Tryd.zeroValue209
  t194 := Tryd.underlying210
  a194 := Tryd.isAgg210
  z194 := Tryd.sizeOf210
  v194 := Tryd.zeroValue210
  t196 := Tryd.underlying212
  a196 := Tryd.isAgg212
  z196 := Tryd.sizeOf212
  v196 := Tryd.zeroValue212
  t198 := Tryd.underlying215
  a198 := Tryd.isAgg215
  z198 := Tryd.sizeOf215
  v198 := Tryd.zeroValue215
  t201 := Tryd.underlying218
  a201 := Tryd.isAgg218
  z201 := Tryd.sizeOf218
  v201 := Tryd.zeroValue218
  t226 := Tryd.underlying220
  a226 := Tryd.isAgg220
  z226 := Tryd.sizeOf220
  v226 := Tryd.zeroValue220
  t227 := Tryd.underlying221
  a227 := Tryd.isAgg221
  z227 := Tryd.sizeOf221
  v227 := Tryd.zeroValue221
  g6 := by kernel_rfl }
open Go.RowKit Go.Lib in
theorem Tryd.unicode_IsSpace (r : Int) (w : World) (h0 : 0 ≤ r) (h : r ≤ 255) :
    Calls Tryd.prog 160 #[.int .i32 r] w fun e w' => e = .returned (.bool (Lib.isSpaceL r)) ∧ w' = w := Any.unicode_IsSpace Tryd.lays199 r w h0 h
def Tryd.lays311_ren : Go.Shelf.Ren := ⟨fun | 311 => 162 | n => n, fun | 193 => 209 | 49 => 213 | 4 => 4 | 3 => 3 | 0 => 0 | 226 => 220 | 198 => 215 | 46 => 169 | n => n, fun | n => n⟩
theorem Tryd.lays311 : Go.Proofs.Lays.n311 Tryd.prog Tryd.lays311_ren := {
  mixed := by kernel_rfl
  f311 := Tryd.func162.trans (congrArg some (by kernel_rfl))
  t0 := Tryd.underlying0
  a0 := Tryd.isAgg0
  z0 := Tryd.sizeOf0
  v0 := Tryd.zeroValue0
  t3 := Tryd.underlying3
  a3 := Tryd.isAgg3
  z3 := Tryd.sizeOf3
  v3 := Tryd.zeroValue3
  t4 := Tryd.underlying4
  a4 := Tryd.isAgg4
  z4 := Tryd.sizeOf4
  v4 := Tryd.zeroValue4
  t46 := Tryd.underlying169
  a46 := Tryd.isAgg169
  z46 := Tryd.sizeOf169
  v46 := Tryd.zeroValue169
  t49 := Tryd.underlying213
  a49 := Tryd.isAgg213
  z49 := Tryd.sizeOf213
  v49 := Tryd.zeroValue213
  t193 := Tryd.underlying209
  a193 := Tryd.isAgg209
  z193 := Tryd.sizeOf209
  v193 := Tryd.zeroValue209
  t198 := Tryd.underlying215
  a198 := Tryd.isAgg215
  z198 := Tryd.sizeOf215
  v198 := Tryd.zeroValue215
  t226 := Tryd.underlying220
  a226 := Tryd.isAgg220
  z226 := Tryd.sizeOf220
  v226 := Tryd.zeroValue220 }
open Go.RowKit Go.Lib in
theorem Tryd.unicode_is16_white (R oR : Nat) (z : Nat) (w : World) (hz : z < 65536) (hz0 : 255 < z) (c6 : w.cell? ⟨R, oR + 6, none⟩ = some (.int .u16 160)) (c7 : w.cell? ⟨R, oR + 7, none⟩ = some (.int .u16 5760)) (c8 : w.cell? ⟨R, oR + 8, none⟩ = some (.int .u16 5600)) (c9 : w.cell? ⟨R, oR + 9, none⟩ = some (.int .u16 8192)) (c10 : w.cell? ⟨R, oR + 10, none⟩ = some (.int .u16 8202)) (c11 : w.cell? ⟨R, oR + 11, none⟩ = some (.int .u16 1)) (c12 : w.cell? ⟨R, oR + 12, none⟩ = some (.int .u16 8232)) (c13 : w.cell? ⟨R, oR + 13, none⟩ = some (.int .u16 8233)) (c14 : w.cell? ⟨R, oR + 14, none⟩ = some (.int .u16 1)) (c15 : w.cell? ⟨R, oR + 15, none⟩ = some (.int .u16 8239)) (c16 : w.cell? ⟨R, oR + 16, none⟩ = some (.int .u16 8287)) (c17 : w.cell? ⟨R, oR + 17, none⟩ = some (.int .u16 48)) (c18 : w.cell? ⟨R, oR + 18, none⟩ = some (.int .u16 12288)) (c19 : w.cell? ⟨R, oR + 19, none⟩ = some (.int .u16 12288)) (c20 : w.cell? ⟨R, oR + 20, none⟩ = some (.int .u16 1)) :
    Calls Tryd.prog 162 #[.slice (some ⟨R, oR + 6, none⟩) 5 5, .int .u16 z] w fun e w' => e = .returned (.bool (Lib.isSpaceR z)) ∧ Below w.heap.size w w' := Any.unicode_is16_white Tryd.lays311 R oR z w hz hz0 c6 c7 c8 c9 c10 c11 c12 c13 c14 c15 c16 c17 c18 c19 c20
def Tryd.lays261_ren : Go.Shelf.Ren := ⟨fun | 261 => 161 | 311 => 162 | 312 => 163 | n => n, fun | 141 => 208 | 21 => 21 | 4 => 4 | 0 => 0 | 196 => 212 | 193 => 209 | 3 => 3 | 51 => 206 | 198 => 215 | 49 => 213 | 194 => 210 | 201 => 218 | 226 => 220 | 46 => 169 | 227 => 221 | n => n, fun | n => n⟩
theorem Tryd.lays261 : Go.Proofs.Lays.n261 Tryd.prog Tryd.lays261_ren := {
  mixed := by kernel_rfl
  f261 := Tryd.func161.trans (congrArg some (by kernel_rfl))
  f311 := Tryd.func162.trans (congrArg some (by kernel_rfl))
  f312 := Tryd.func163.trans (congrArg some (by kernel_rfl))
  t0 := Tryd.underlying0
  a0 := Tryd.isAgg0
  z0 := Tryd.sizeOf0
  v0 := Tryd.zeroValue0
  t3 := Tryd.underlying3
  a3 := Tryd.isAgg3
  z3 := Tryd.sizeOf3
  v3 := Tryd.zeroValue3
  t4 := Tryd.underlying4
  a4 := Tryd.isAgg4
  z4 := Tryd.sizeOf4
  v4 := Tryd.zeroValue4
  t21 := Tryd.underlying21
  a21 := Tryd.isAgg21
  z21 := Tryd.sizeOf21
  v21 := Tryd.zeroValue21
  t46 := Tryd.underlying169
  a46 := Tryd.isAgg169
  z46 := Tryd.sizeOf169
  v46 := Tryd.zeroValue169
  t49 := Tryd.underlying213
  a49 := Tryd.isAgg213
  z49 := Tryd.sizeOf213
  v49 := Tryd.zeroValue213
  t51 := Tryd.underlying206
  a51 := Tryd.isAgg206
  z51 := Tryd.sizeOf206
  v51 := Tryd.zeroValue206
  t141 := Tryd.underlying208
  a141 := Tryd.isAgg208
  z141 := Tryd.sizeOf208
  v141 := Tryd.zeroValue208
  t193 := Tryd.underlying209
  a193 := Tryd.isAgg209
  z193 := Tryd.sizeOf209
  v193 := Tryd.zeroValue209
  t194 := Tryd.underlying210
  a194 := Tryd.isAgg210
  z194 := Tryd.sizeOf210
  v194 := Tryd.zeroValue210
  t196 := Tryd.underlying212
  a196 := Tryd.isAgg212
  z196 := Tryd.sizeOf212
  v196 := Tryd.zeroValue212
  t198 := Tryd.underlying215
  a198 := Tryd.isAgg215
  z198 := Tryd.sizeOf215
  v198 := Tryd.zeroValue215
  t201 := Tryd.underlying218
  a201 := Tryd.isAgg218
  z201 := Tryd.sizeOf218
  v201 := Tryd.zeroValue218
  t226 := Tryd.underlying220
  a226 := Tryd.isAgg220
  z226 := Tryd.sizeOf220
  v226 := Tryd.zeroValue220
  t227 := Tryd.underlying221
  a227 := Tryd.isAgg221
  z227 := Tryd.sizeOf221
  v227 := Tryd.zeroValue221 }
open Go.RowKit Go.Lib in
/-- unicode.isExcludingLatin(White_Space, r), r beyond U+00FF or negative. (LAID: no walk: one application.) -/
theorem Tryd.unicode_isExcludingLatin_white (T oT R oR : Nat) (r : Int) (w : World) (hlo : -2147483648 ≤ r) (hhi : r ≤ 2147483647) (hr : r < 0 ∨ 255 < r) (h2 : w.cell? ⟨T, oT, none⟩ = some (.slice (some ⟨R, oR, none⟩) 7 7)) (h3 : w.cell? ⟨T, oT + 1, none⟩ = some (.slice none 0 0)) (h4 : w.cell? ⟨T, oT + 2, none⟩ = some (.int .i64 2)) (h5 : ∀ i, i < 21 → w.cell? ⟨R, oR + i, none⟩ = some (.int .u16 (whiteT.getD i 0))) :
    Calls Tryd.prog 161 #[.pointer (some ⟨T, oT, none⟩), .int .i32 r] w fun e w' => e = .returned (.bool (Lib.isSpaceZ r)) ∧ Below w.heap.size w w' := Any.unicode_isExcludingLatin_white Tryd.lays261 T oT R oR r w hlo hhi hr h2 h3 h4 h5
open Go.RowKit Go.Lib in
/-- **unicode.IsSpace AT EVERY int32.** (LAID: no walk: one application.) -/
theorem Tryd.unicode_IsSpace_any (r : Int) (w : World) (hlo : -2147483648 ≤ r) (hhi : r ≤ 2147483647) (hW : Lib.WhiteTab 3 w) :
    Calls Tryd.prog 160 #[.int .i32 r] w fun e w' => e = .returned (.bool (Lib.isSpaceZ r)) ∧ Below w.heap.size w w' := Any.unicode_IsSpace_any Tryd.lays199 r w hlo hhi hW
open Go.RowKit Go.Lib in
theorem Tryd.unicode_is16_any (T : Array Rg) (R oR cap : Nat) (z : Nat) (w : World) (hz : z < 65536) (hT : RgTab .u16 R oR T w) (hok : RgOk 65536 T) (hn : T.size ≤ 1000000000) :
    Calls Tryd.prog 162 #[.slice (some ⟨R, oR, none⟩) T.size cap, .int .u16 z] w fun e w' => e = .returned (.bool (is16Go T z)) ∧ ∃ q, w' = w.drewN q := Any.unicode_is16_any Tryd.lays311 T R oR cap z w hz hT hok hn
def Tryd.lays312_ren : Go.Shelf.Ren := ⟨fun | 312 => 163 | n => n, fun | 194 => 210 | 51 => 206 | 4 => 4 | 3 => 3 | 0 => 0 | 227 => 221 | 201 => 218 | 46 => 169 | n => n, fun | n => n⟩
theorem Tryd.lays312 : Go.Proofs.Lays.n312 Tryd.prog Tryd.lays312_ren := {
  mixed := by kernel_rfl
  f312 := Tryd.func163.trans (congrArg some (by kernel_rfl))
  t0 := Tryd.underlying0
  a0 := Tryd.isAgg0
  z0 := Tryd.sizeOf0
  v0 := Tryd.zeroValue0
  t3 := Tryd.underlying3
  a3 := Tryd.isAgg3
  z3 := Tryd.sizeOf3
  v3 := Tryd.zeroValue3
  t4 := Tryd.underlying4
  a4 := Tryd.isAgg4
  z4 := Tryd.sizeOf4
  v4 := Tryd.zeroValue4
  t46 := Tryd.underlying169
  a46 := Tryd.isAgg169
  z46 := Tryd.sizeOf169
  v46 := Tryd.zeroValue169
  t51 := Tryd.underlying206
  a51 := Tryd.isAgg206
  z51 := Tryd.sizeOf206
  v51 := Tryd.zeroValue206
  t194 := Tryd.underlying210
  a194 := Tryd.isAgg210
  z194 := Tryd.sizeOf210
  v194 := Tryd.zeroValue210
  t201 := Tryd.underlying218
  a201 := Tryd.isAgg218
  z201 := Tryd.sizeOf218
  v201 := Tryd.zeroValue218
  t227 := Tryd.underlying221
  a227 := Tryd.isAgg221
  z227 := Tryd.sizeOf221
  v227 := Tryd.zeroValue221 }
open Go.RowKit Go.Lib in
theorem Tryd.unicode_is32_any (T : Array Rg) (R oR cap : Nat) (z : Nat) (w : World) (hz : z < 4294967296) (hT : RgTab .u32 R oR T w) (hok : RgOk 4294967296 T) (hn : T.size ≤ 1000000000) :
    Calls Tryd.prog 163 #[.slice (some ⟨R, oR, none⟩) T.size cap, .int .u32 z] w fun e w' => e = .returned (.bool (is32Go T z)) ∧ Below w.heap.size w w' := Any.unicode_is32_any Tryd.lays312 T R oR cap z w hz hT hok hn
open Go.RowKit Go.Lib in
theorem Tryd.unicode_isExcludingLatin_any (Tb oT : Nat) (T : RTab) (r : Int) (w : World) (hlo : -2147483648 ≤ r) (hhi : r ≤ 2147483647) (hA : RTabAt Tb oT T w) (hok : RTabOk T) :
    Calls Tryd.prog 161 #[.pointer (some ⟨Tb, oT, none⟩), .int .i32 r] w fun e w' => e = .returned (.bool (exclGo T r)) ∧ Below w.heap.size w w' := Any.unicode_isExcludingLatin_any Tryd.lays261 Tb oT T r w hlo hhi hA hok
end Go.Proofs
