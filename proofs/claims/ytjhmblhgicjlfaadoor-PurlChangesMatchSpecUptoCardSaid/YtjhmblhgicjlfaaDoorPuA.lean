/- PROVED HERE: a part of the seat's proofs; see the text that holds the claim's theorem. -/
import Derived.Shelf.Strings.Builder1
import Derived.Shelf.Strings.Builder2
import Derived.Shelf.Strings.OnBuilder
import Derived.Shelf.Small.Strs
import Derived.Shelf.Strings.Search1
import Derived.Shelf.Strings.Search2
import Derived.Shelf.Strings.Search3
import Derived.Shelf.Strings.Count
import Derived.Shelf.LaysM
import Derived.Shelf.Strings.Shaped
import Derived.Shelf.Strings.Split
import Derived.Shelf.Bits.Mul64
import Derived.Shelf.Unicode.DecodeSlow
import Derived.Test.YtjhmblhgicjlfaaDoorProg
import Derived.Test.YtjhmblhgicjlfaaDoorPeE
section
/- The program's structs as Lean structures: written by petab.py. -/
namespace Gt
structure KindRule where
 kind:(List UInt8)
 space:Int
 small:Bool
 dashes:Bool
 versions:Int
structure A5_api_KindRule where
 e0:KindRule
 e1:KindRule
 e2:KindRule
 e3:KindRule
 e4:KindRule
structure Digest where
 algo:(List UInt8)
 text:(List UInt8)
structure Pair where
 name:(List UInt8)
 value:(List UInt8)
structure Purl where
 kind:(List UInt8)
 space:(List UInt8)
 name:(List UInt8)
 version:(List UInt8)
 qualifiers:(List Pair)
 sub:(List UInt8)
structure R2r where
 s:(List UInt8)
 at_:Int
 bad:Bool
structure Purl_node where
 kind:Int
 b:Int
structure Purl_pattern where
 kind:(List UInt8)
 nodes:(List Purl_node)
 deep:Int
structure Rdr where
 s:(List UInt8)
 at_:Int
 bad:Int
structure Purl_spot where
 n:Int
 in_:Bool
end Gt
end
section
/-
 DERIVED: THE SHELF's CONTRACTS AT THIS DUMP, IN PLAIN WORDS (tools/lay-plain.mjs out of 'TrydShelf.lean', which tools/lay-shelf.mjs wrote): THE SAME DECLARATIONS UNDER THE SAME NAMES: 'import', 'namespace', 'open', 'def', 'theorem' AND NOTHING ELSE: no command of the shelf's: FOR A HAND-IN. Each laying: the table of numbers ('.._ren') and one theorem, a field a fact of the dump's own or the kernel's comparison; each contract: ONE APPLICATION.
-/
namespace Go.Proofs
open Go.Shelf
open Go.RowKit in
def Tryd.lays169_ren:Go.Shelf.Ren:=⟨fun | 169=>99 | n=>n,fun | 70=>119 | 9=>9 | 0=>0 | 72=>121 | 37=>112 | 127=>145 | 3=>3 | 5=>5 | n=>n,fun | n=>n⟩
theorem Tryd.lays169:Go.Proofs.Lays.n169 Tryd.prog Tryd.lays169_ren:={
 mixed:=by kernel_rfl
 f169:=Tryd.func99.trans (congrArg some (by kernel_rfl))
 t0:=Tryd.underlying0
 a0:=Tryd.isAgg0
 z0:=Tryd.sizeOf0
 v0:=Tryd.zeroValue0
 t3:=Tryd.underlying3
 a3:=Tryd.isAgg3
 z3:=Tryd.sizeOf3
 v3:=Tryd.zeroValue3
 t9:=Tryd.underlying9
 a9:=Tryd.isAgg9
 z9:=Tryd.sizeOf9
 v9:=Tryd.zeroValue9
 t37:=Tryd.underlying112
 a37:=Tryd.isAgg112
 z37:=Tryd.sizeOf112
 v37:=Tryd.zeroValue112
 t70:=Tryd.underlying119
 a70:=Tryd.isAgg119
 z70:=Tryd.sizeOf119
 v70:=Tryd.zeroValue119
 t72:=Tryd.underlying121
 a72:=Tryd.isAgg121
 z72:=Tryd.sizeOf121
 v72:=Tryd.zeroValue121
 t127:=Tryd.underlying145
 a127:=Tryd.isAgg145
 z127:=Tryd.sizeOf145
 v127:=Tryd.zeroValue145 }
theorem Tryd.Builder_Extra_169:Builder.Extra Tryd.prog Tryd.lays169_ren:={
 sizeBuilder:=by kernel_rfl
 liesBuilder:=by kernel_rfl
 t5:=Tryd.underlying5
 a5:=Tryd.isAgg5
 z5:=Tryd.sizeOf5
 v5:=Tryd.zeroValue5
 infoByte:=by kernel_rfl
 cellsByte:=by kernel_rfl
 sizeByte:=by kernel_rfl
 neB5:=by decide }
open Go.RowKit in
open Go.RowKit in
open Go.RowKit in
open Go.RowKit in
open Go.RowKit in
def Tryd.lays156_ren:Go.Shelf.Ren:=⟨fun | 156=>45 | 165=>97 | 166=>98 | 169=>99 | 240=>126 | 241=>127 | 276=>143 | 277=>144 | n=>n,fun | 31=>41 | 9=>9 | 3=>3 | 4=>4 | 0=>0 | 20=>20 | 72=>121 | 76=>124 | 70=>119 | 37=>112 | 75=>123 | 127=>145 | 164=>161 | 5=>5 | 80=>70 | n=>n,fun | n=>n⟩
theorem Tryd.lays156:Go.Proofs.Lays.n156 Tryd.prog Tryd.lays156_ren:={
 mixed:=by kernel_rfl
 f156:=Tryd.func45.trans (congrArg some (by kernel_rfl))
 f165:=Tryd.func97.trans (congrArg some (by kernel_rfl))
 f166:=Tryd.func98.trans (congrArg some (by kernel_rfl))
 f169:=Tryd.func99.trans (congrArg some (by kernel_rfl))
 f240:=Tryd.func126.trans (congrArg some (by kernel_rfl))
 f241:=Tryd.func127.trans (congrArg some (by kernel_rfl))
 f276:=Tryd.func143.trans (congrArg some (by kernel_rfl))
 f277:=Tryd.func144.trans (congrArg some (by kernel_rfl))
 t0:=Tryd.underlying0
 a0:=Tryd.isAgg0
 z0:=Tryd.sizeOf0
 v0:=Tryd.zeroValue0
 t3:=Tryd.underlying3
 a3:=Tryd.isAgg3
 z3:=Tryd.sizeOf3
 v3:=Tryd.zeroValue3
 t4:=Tryd.underlying4
 a4:=Tryd.isAgg4
 z4:=Tryd.sizeOf4
 v4:=Tryd.zeroValue4
 t9:=Tryd.underlying9
 a9:=Tryd.isAgg9
 z9:=Tryd.sizeOf9
 v9:=Tryd.zeroValue9
 t20:=Tryd.underlying20
 a20:=Tryd.isAgg20
 z20:=Tryd.sizeOf20
 v20:=Tryd.zeroValue20
 t31:=Tryd.underlying41
 a31:=Tryd.isAgg41
 z31:=Tryd.sizeOf41
 v31:=Tryd.zeroValue41
 t37:=Tryd.underlying112
 a37:=Tryd.isAgg112
 z37:=Tryd.sizeOf112
 v37:=Tryd.zeroValue112
 t70:=Tryd.underlying119
 a70:=Tryd.isAgg119
 z70:=Tryd.sizeOf119
 v70:=Tryd.zeroValue119
 t72:=Tryd.underlying121
 a72:=Tryd.isAgg121
 z72:=Tryd.sizeOf121
 v72:=Tryd.zeroValue121
 t75:=Tryd.underlying123
 a75:=Tryd.isAgg123
 z75:=Tryd.sizeOf123
 v75:=Tryd.zeroValue123
 t76:=Tryd.underlying124
 a76:=Tryd.isAgg124
 z76:=Tryd.sizeOf124
 v76:=Tryd.zeroValue124
 t127:=Tryd.underlying145
 a127:=Tryd.isAgg145
 z127:=Tryd.sizeOf145
 v127:=Tryd.zeroValue145
 t164:=Tryd.underlying161
 a164:=Tryd.isAgg161
 z164:=Tryd.sizeOf161
 v164:=Tryd.zeroValue161 }
theorem Tryd.Builder_Extra_156:Builder.Extra Tryd.prog Tryd.lays156_ren:={
 sizeBuilder:=by kernel_rfl
 liesBuilder:=by kernel_rfl
 t5:=Tryd.underlying5
 a5:=Tryd.isAgg5
 z5:=Tryd.sizeOf5
 v5:=Tryd.zeroValue5
 infoByte:=by kernel_rfl
 cellsByte:=by kernel_rfl
 sizeByte:=by kernel_rfl
 neB5:=by decide }
open Go.RowKit in
theorem Tryd.strings_Join_none (a:Option Addr) (c:Nat) (sep:ByteArray) (w:World) :
  Calls Tryd.prog 45 #[.slice a 0 c,.string sep] w fun e w'=>e= .returned (.string ⟨#[]⟩)∧w'=w:=Any.strings_Join_none Tryd.lays156 Tryd.Builder_Extra_156 a c sep w
open Go.RowKit in
theorem Tryd.strings_Join (bk o c:Nat) (xs:List ByteArray) (sep:ByteArray) (w:World) (hcells:∀(j:Nat) x,xs[j]? =some x→w.cell? ⟨bk,o+j,none⟩=some (.string x)) (hbk:bk<w.heap.size) (hN:xs.length≤140737488355328) (hcap:xs.length≤c) (hlen:(Lib.join (xs.map (·.data.toList)) sep.data.toList).length≤140737488355328) :
  Calls Tryd.prog 45 #[.slice (some ⟨bk,o,none⟩) xs.length c,.string sep] w fun e w'=>e= .returned (.string ⟨(Lib.join (xs.map (·.data.toList)) sep.data.toList).toArray⟩)∧Below w.heap.size w w':=Any.strings_Join Tryd.lays156 Tryd.Builder_Extra_156 bk o c xs sep w hcells hbk hN hcap hlen
def Tryd.lays137_ren:Go.Shelf.Ren:=⟨fun | 137=>64 | 217=>107 | 266=>130 | n=>n,fun | 9=>9 | 5=>5 | 3=>3 | n=>n,fun | n=>n⟩
theorem Tryd.lays137:Go.Proofs.Lays.n137 Tryd.prog Tryd.lays137_ren:={
 mixed:=by kernel_rfl
 f137:=Tryd.func64.trans (congrArg some (by kernel_rfl))
 f217:=Tryd.func107.trans (congrArg some (by kernel_rfl))
 f266:=Tryd.func130.trans (congrArg some (by kernel_rfl))
 t3:=Tryd.underlying3
 a3:=Tryd.isAgg3
 z3:=Tryd.sizeOf3
 v3:=Tryd.zeroValue3
 t5:=Tryd.underlying5
 a5:=Tryd.isAgg5
 z5:=Tryd.sizeOf5
 v5:=Tryd.zeroValue5
 t9:=Tryd.underlying9
 a9:=Tryd.isAgg9
 z9:=Tryd.sizeOf9
 v9:=Tryd.zeroValue9 }
open Go.RowKit in
theorem Tryd.strings_IndexByte (s:ByteArray) (c:Int) (w:World) :
  Calls Tryd.prog 64 #[.string s,.int .u8 c] w fun e w'=>e= .returned (.int .i64 (Lib.indexByte s.data.toList c.toNat.toUInt8))∧w'=w:=Any.strings_IndexByte Tryd.lays137 s c w
open Go.RowKit Go.Lib in
open Go.RowKit Go.Lib in
open Go.RowKit Go.Lib in
open Go.RowKit Go.Lib in
open Go.RowKit Go.Lib in
open Go.RowKit Go.Lib in
def Tryd.lays143_ren:Go.Shelf.Ren:=⟨fun | 143=>110 | 219=>131 | 217=>107 | 225=>147 | 224=>148 | 267=>149 | 266=>130 | 314=>160 | n=>n,fun | 9=>9 | 3=>3 | 4=>4 | 5=>5 | 46=>129 | 146=>157 | 51=>156 | n=>n,fun | 1=>0 | n=>n⟩
theorem Tryd.lays143:Go.Proofs.Lays.n143 Tryd.prog Tryd.lays143_ren:={
 mixed:=by kernel_rfl
 f143:=Tryd.func110.trans (congrArg some (by kernel_rfl))
 f217:=Tryd.func107.trans (congrArg some (by kernel_rfl))
 f219:=Tryd.func131.trans (congrArg some (by kernel_rfl))
 f224:=Tryd.func148.trans (congrArg some (by kernel_rfl))
 f225:=Tryd.func147.trans (congrArg some (by kernel_rfl))
 f266:=Tryd.func130.trans (congrArg some (by kernel_rfl))
 f267:=Tryd.func149.trans (congrArg some (by kernel_rfl))
 f314:=Tryd.func160.trans (congrArg some (by kernel_rfl))
 t3:=Tryd.underlying3
 a3:=Tryd.isAgg3
 z3:=Tryd.sizeOf3
 v3:=Tryd.zeroValue3
 t4:=Tryd.underlying4
 a4:=Tryd.isAgg4
 z4:=Tryd.sizeOf4
 v4:=Tryd.zeroValue4
 t5:=Tryd.underlying5
 a5:=Tryd.isAgg5
 z5:=Tryd.sizeOf5
 v5:=Tryd.zeroValue5
 t9:=Tryd.underlying9
 a9:=Tryd.isAgg9
 z9:=Tryd.sizeOf9
 v9:=Tryd.zeroValue9
 t46:=Tryd.underlying129
 a46:=Tryd.isAgg129
 z46:=Tryd.sizeOf129
 v46:=Tryd.zeroValue129
 t51:=Tryd.underlying156
 a51:=Tryd.isAgg156
 z51:=Tryd.sizeOf156
 v51:=Tryd.zeroValue156
 t146:=Tryd.underlying157
 a146:=Tryd.isAgg157
 z146:=Tryd.sizeOf157
 v146:=Tryd.zeroValue157
 g1:=by kernel_rfl }
open Go.RowKit Go.Lib in
theorem Tryd.strings_Index_one (s:ByteArray) (c:UInt8) (w:World) :
  Calls Tryd.prog 110 #[.string s,.string ⟨#[c]⟩] w fun e w'=>e= .returned (.int .i64 (Lib.indexByte s.data.toList c))∧w'=w:=Any.strings_Index_one Tryd.lays143 s c w
open Go.RowKit Go.Lib in
def Tryd.lays144_ren:Go.Shelf.Ren:=⟨fun | 144=>69 | 143=>110 | 219=>131 | 217=>107 | 225=>147 | 224=>148 | 267=>149 | 266=>130 | 314=>160 | n=>n,fun | 9=>9 | 4=>4 | 3=>3 | 5=>5 | 46=>129 | 146=>157 | 51=>156 | n=>n,fun | 1=>0 | n=>n⟩
theorem Tryd.lays144:Go.Proofs.Lays.n144 Tryd.prog Tryd.lays144_ren:={
 mixed:=by kernel_rfl
 f143:=Tryd.func110.trans (congrArg some (by kernel_rfl))
 f144:=Tryd.func69.trans (congrArg some (by kernel_rfl))
 f217:=Tryd.func107.trans (congrArg some (by kernel_rfl))
 f219:=Tryd.func131.trans (congrArg some (by kernel_rfl))
 f224:=Tryd.func148.trans (congrArg some (by kernel_rfl))
 f225:=Tryd.func147.trans (congrArg some (by kernel_rfl))
 f266:=Tryd.func130.trans (congrArg some (by kernel_rfl))
 f267:=Tryd.func149.trans (congrArg some (by kernel_rfl))
 f314:=Tryd.func160.trans (congrArg some (by kernel_rfl))
 t3:=Tryd.underlying3
 a3:=Tryd.isAgg3
 z3:=Tryd.sizeOf3
 v3:=Tryd.zeroValue3
 t4:=Tryd.underlying4
 a4:=Tryd.isAgg4
 z4:=Tryd.sizeOf4
 v4:=Tryd.zeroValue4
 t5:=Tryd.underlying5
 a5:=Tryd.isAgg5
 z5:=Tryd.sizeOf5
 v5:=Tryd.zeroValue5
 t9:=Tryd.underlying9
 a9:=Tryd.isAgg9
 z9:=Tryd.sizeOf9
 v9:=Tryd.zeroValue9
 t46:=Tryd.underlying129
 a46:=Tryd.isAgg129
 z46:=Tryd.sizeOf129
 v46:=Tryd.zeroValue129
 t51:=Tryd.underlying156
 a51:=Tryd.isAgg156
 z51:=Tryd.sizeOf156
 v51:=Tryd.zeroValue156
 t146:=Tryd.underlying157
 a146:=Tryd.isAgg157
 z146:=Tryd.sizeOf157
 v146:=Tryd.zeroValue157
 g1:=by kernel_rfl }
open Go.RowKit Go.Lib in
theorem Tryd.strings_Contains_one (s:ByteArray) (c:UInt8) (w:World) :
  Calls Tryd.prog 69 #[.string s,.string ⟨#[c]⟩] w fun e w'=>e= .returned (.bool (decide (0≤Lib.indexByte s.data.toList c)))∧w'=w:=Any.strings_Contains_one Tryd.lays144 s c w
open Go.RowKit Go.Lib in
def Tryd.lays138_ren:Go.Shelf.Ren:=⟨fun | 138=>146 | 195=>157 | 218=>159 | 143=>110 | 219=>131 | 217=>107 | 225=>147 | 224=>148 | 267=>149 | 266=>130 | 314=>160 | n=>n,fun | 9=>9 | 3=>3 | 4=>4 | 5=>5 | 0=>0 | 46=>129 | 146=>157 | 51=>156 | n=>n,fun | 1=>0 | n=>n⟩
theorem Tryd.lays138:Go.Proofs.Lays.n138 Tryd.prog Tryd.lays138_ren:={
 mixed:=by kernel_rfl
 f138:=Tryd.func146.trans (congrArg some (by kernel_rfl))
 f143:=Tryd.func110.trans (congrArg some (by kernel_rfl))
 f195:=Tryd.func157.trans (congrArg some (by kernel_rfl))
 f217:=Tryd.func107.trans (congrArg some (by kernel_rfl))
 f218:=Tryd.func159.trans (congrArg some (by kernel_rfl))
 f219:=Tryd.func131.trans (congrArg some (by kernel_rfl))
 f224:=Tryd.func148.trans (congrArg some (by kernel_rfl))
 f225:=Tryd.func147.trans (congrArg some (by kernel_rfl))
 f266:=Tryd.func130.trans (congrArg some (by kernel_rfl))
 f267:=Tryd.func149.trans (congrArg some (by kernel_rfl))
 f314:=Tryd.func160.trans (congrArg some (by kernel_rfl))
 t0:=Tryd.underlying0
 a0:=Tryd.isAgg0
 z0:=Tryd.sizeOf0
 v0:=Tryd.zeroValue0
 t3:=Tryd.underlying3
 a3:=Tryd.isAgg3
 z3:=Tryd.sizeOf3
 v3:=Tryd.zeroValue3
 t4:=Tryd.underlying4
 a4:=Tryd.isAgg4
 z4:=Tryd.sizeOf4
 v4:=Tryd.zeroValue4
 t5:=Tryd.underlying5
 a5:=Tryd.isAgg5
 z5:=Tryd.sizeOf5
 v5:=Tryd.zeroValue5
 t9:=Tryd.underlying9
 a9:=Tryd.isAgg9
 z9:=Tryd.sizeOf9
 v9:=Tryd.zeroValue9
 t46:=Tryd.underlying129
 a46:=Tryd.isAgg129
 z46:=Tryd.sizeOf129
 v46:=Tryd.zeroValue129
 t51:=Tryd.underlying156
 a51:=Tryd.isAgg156
 z51:=Tryd.sizeOf156
 v51:=Tryd.zeroValue156
 t146:=Tryd.underlying157
 a146:=Tryd.isAgg157
 z146:=Tryd.sizeOf157
 v146:=Tryd.zeroValue157
 g1:=by kernel_rfl }
open Go.RowKit Go.Lib in
theorem Tryd.strings_Count_one (s:ByteArray) (c:UInt8) (w:World) :
  Calls Tryd.prog 146 #[.string s,.string ⟨#[c]⟩] w fun e w'=>e= .returned (.int .i64 (Lib.countByte s.data.toList c))∧w'=w:=Any.strings_Count_one Tryd.lays138 s c w
open Go.RowKit Go.Lib in
open Go.RowKit Go.Lib in
open Go.RowKit Go.Lib in
open Go.RowKit Go.Lib in
open Go.RowKit Go.Lib in
open Go.RowKit Go.Lib in
open Go.RowKit Go.Lib in
def Tryd.lays146_ren:Go.Shelf.Ren:=⟨fun | 146=>106 | 221=>129 | 268=>145 | 138=>146 | 143=>110 | 195=>157 | 197=>158 | 218=>159 | 219=>131 | 260=>163 | 217=>107 | 225=>147 | 224=>148 | 267=>149 | 266=>130 | 314=>160 | n=>n,fun | 9=>9 | 31=>41 | 3=>3 | 4=>4 | 0=>0 | 105=>172 | 21=>21 | 5=>5 | 46=>129 | 119=>178 | 139=>181 | 138=>180 | 146=>157 | 51=>156 | n=>n,fun | 1=>0 | 3=>4 | 4=>5 | n=>n⟩
theorem Tryd.lays146:Go.Proofs.Lays.n146 Tryd.prog Tryd.lays146_ren:={
 mixed:=by kernel_rfl
 f138:=Tryd.func146.trans (congrArg some (by kernel_rfl))
 f143:=Tryd.func110.trans (congrArg some (by kernel_rfl))
 f146:=Tryd.func106.trans (congrArg some (by kernel_rfl))
 f195:=Tryd.func157.trans (congrArg some (by kernel_rfl))
 f197:=Tryd.func158.trans (congrArg some (by kernel_rfl))
 f217:=Tryd.func107.trans (congrArg some (by kernel_rfl))
 f218:=Tryd.func159.trans (congrArg some (by kernel_rfl))
 f219:=Tryd.func131.trans (congrArg some (by kernel_rfl))
 f221:=Tryd.func129.trans (congrArg some (by kernel_rfl))
 f224:=Tryd.func148.trans (congrArg some (by kernel_rfl))
 f225:=Tryd.func147.trans (congrArg some (by kernel_rfl))
 f260:=Tryd.func163.trans (congrArg some (by kernel_rfl))
 f266:=Tryd.func130.trans (congrArg some (by kernel_rfl))
 f267:=Tryd.func149.trans (congrArg some (by kernel_rfl))
 f268:=Tryd.func145.trans (congrArg some (by kernel_rfl))
 f314:=Tryd.func160.trans (congrArg some (by kernel_rfl))
 t0:=Tryd.underlying0
 a0:=Tryd.isAgg0
 z0:=Tryd.sizeOf0
 v0:=Tryd.zeroValue0
 t3:=Tryd.underlying3
 a3:=Tryd.isAgg3
 z3:=Tryd.sizeOf3
 v3:=Tryd.zeroValue3
 t4:=Tryd.underlying4
 a4:=Tryd.isAgg4
 z4:=Tryd.sizeOf4
 v4:=Tryd.zeroValue4
 t5:=Tryd.underlying5
 a5:=Tryd.isAgg5
 z5:=Tryd.sizeOf5
 v5:=Tryd.zeroValue5
 t9:=Tryd.underlying9
 a9:=Tryd.isAgg9
 z9:=Tryd.sizeOf9
 v9:=Tryd.zeroValue9
 t21:=Tryd.underlying21
 a21:=Tryd.isAgg21
 z21:=Tryd.sizeOf21
 v21:=Tryd.zeroValue21
 t31:=Tryd.underlying41
 a31:=Tryd.isAgg41
 z31:=Tryd.sizeOf41
 v31:=Tryd.zeroValue41
 t46:=Tryd.underlying129
 a46:=Tryd.isAgg129
 z46:=Tryd.sizeOf129
 v46:=Tryd.zeroValue129
 t51:=Tryd.underlying156
 a51:=Tryd.isAgg156
 z51:=Tryd.sizeOf156
 v51:=Tryd.zeroValue156
 t105:=Tryd.underlying172
 a105:=Tryd.isAgg172
 z105:=Tryd.sizeOf172
 v105:=Tryd.zeroValue172
 t119:=Tryd.underlying178
 a119:=Tryd.isAgg178
 z119:=Tryd.sizeOf178
 t138:=Tryd.underlying180
 a138:=Tryd.isAgg180
 z138:=Tryd.sizeOf180
 v138:=Tryd.zeroValue180
 t139:=Tryd.underlying181
 a139:=Tryd.isAgg181
 z139:=Tryd.sizeOf181
 v139:=Tryd.zeroValue181
 t146:=Tryd.underlying157
 a146:=Tryd.isAgg157
 z146:=Tryd.sizeOf157
 v146:=Tryd.zeroValue157
 g1:=by kernel_rfl
 g3:=by kernel_rfl
 g4:=by kernel_rfl }
open Go.RowKit Go.Lib in
open Go.RowKit Go.Lib in
open Go.RowKit Go.Lib in
open Go.RowKit Go.Lib in
def Tryd.lays167_ren:Go.Shelf.Ren:=⟨fun | 156=>45 | 165=>97 | 166=>98 | 169=>99 | 240=>126 | 241=>127 | 276=>143 | 277=>144 | 167=>103 | n=>n,fun | 31=>41 | 9=>9 | 3=>3 | 4=>4 | 0=>0 | 20=>20 | 72=>121 | 76=>124 | 70=>119 | 37=>112 | 75=>123 | 127=>145 | 164=>161 | 5=>5 | 80=>70 | n=>n,fun | n=>n⟩
theorem Tryd.lays167:Go.Proofs.Lays.n167 Tryd.prog Tryd.lays167_ren:={
 mixed:=by kernel_rfl
 f167:=Tryd.func103.trans (congrArg some (by kernel_rfl))
 f240:=Tryd.func126.trans (congrArg some (by kernel_rfl))
 f276:=Tryd.func143.trans (congrArg some (by kernel_rfl))
 t0:=Tryd.underlying0
 a0:=Tryd.isAgg0
 z0:=Tryd.sizeOf0
 v0:=Tryd.zeroValue0
 t4:=Tryd.underlying4
 a4:=Tryd.isAgg4
 z4:=Tryd.sizeOf4
 v4:=Tryd.zeroValue4
 t5:=Tryd.underlying5
 a5:=Tryd.isAgg5
 z5:=Tryd.sizeOf5
 v5:=Tryd.zeroValue5
 t9:=Tryd.underlying9
 a9:=Tryd.isAgg9
 z9:=Tryd.sizeOf9
 v9:=Tryd.zeroValue9
 t20:=Tryd.underlying20
 a20:=Tryd.isAgg20
 z20:=Tryd.sizeOf20
 v20:=Tryd.zeroValue20
 t37:=Tryd.underlying112
 a37:=Tryd.isAgg112
 z37:=Tryd.sizeOf112
 v37:=Tryd.zeroValue112
 t70:=Tryd.underlying119
 a70:=Tryd.isAgg119
 z70:=Tryd.sizeOf119
 v70:=Tryd.zeroValue119
 t72:=Tryd.underlying121
 a72:=Tryd.isAgg121
 z72:=Tryd.sizeOf121
 v72:=Tryd.zeroValue121
 t75:=Tryd.underlying123
 a75:=Tryd.isAgg123
 z75:=Tryd.sizeOf123
 v75:=Tryd.zeroValue123
 t164:=Tryd.underlying161
 a164:=Tryd.isAgg161
 z164:=Tryd.sizeOf161
 v164:=Tryd.zeroValue161
}
def Tryd.lays166_ren:Go.Shelf.Ren:=⟨fun | 156=>45 | 165=>97 | 166=>98 | 169=>99 | 240=>126 | 241=>127 | 276=>143 | 277=>144 | n=>n,fun | 31=>41 | 9=>9 | 3=>3 | 4=>4 | 0=>0 | 20=>20 | 72=>121 | 76=>124 | 70=>119 | 37=>112 | 75=>123 | 127=>145 | 164=>161 | 5=>5 | 80=>70 | n=>n,fun | n=>n⟩
theorem Tryd.lays166:Go.Proofs.Lays.n166 Tryd.prog Tryd.lays166_ren:={
 mixed:=by kernel_rfl
 f166:=Tryd.func98.trans (congrArg some (by kernel_rfl))
 f240:=Tryd.func126.trans (congrArg some (by kernel_rfl))
 f276:=Tryd.func143.trans (congrArg some (by kernel_rfl))
 t0:=Tryd.underlying0
 a0:=Tryd.isAgg0
 z0:=Tryd.sizeOf0
 v0:=Tryd.zeroValue0
 t3:=Tryd.underlying3
 a3:=Tryd.isAgg3
 z3:=Tryd.sizeOf3
 v3:=Tryd.zeroValue3
 t4:=Tryd.underlying4
 a4:=Tryd.isAgg4
 z4:=Tryd.sizeOf4
 v4:=Tryd.zeroValue4
 t9:=Tryd.underlying9
 a9:=Tryd.isAgg9
 z9:=Tryd.sizeOf9
 v9:=Tryd.zeroValue9
 t20:=Tryd.underlying20
 a20:=Tryd.isAgg20
 z20:=Tryd.sizeOf20
 v20:=Tryd.zeroValue20
 t37:=Tryd.underlying112
 a37:=Tryd.isAgg112
 z37:=Tryd.sizeOf112
 v37:=Tryd.zeroValue112
 t70:=Tryd.underlying119
 a70:=Tryd.isAgg119
 z70:=Tryd.sizeOf119
 v70:=Tryd.zeroValue119
 t72:=Tryd.underlying121
 a72:=Tryd.isAgg121
 z72:=Tryd.sizeOf121
 v72:=Tryd.zeroValue121
 t75:=Tryd.underlying123
 a75:=Tryd.isAgg123
 z75:=Tryd.sizeOf123
 v75:=Tryd.zeroValue123
 t164:=Tryd.underlying161
 a164:=Tryd.isAgg161
 z164:=Tryd.sizeOf161
 v164:=Tryd.zeroValue161
}
theorem Tryd.bldX_167:Builder.Extra Tryd.prog Tryd.lays167_ren where
 sizeBuilder:=by kernel_rfl
 liesBuilder:=by kernel_rfl
 t5:=Tryd.underlying5
 a5:=Tryd.isAgg5
 z5:=Tryd.sizeOf5
 v5:=Tryd.zeroValue5
 infoByte:=by kernel_rfl
 cellsByte:=by kernel_rfl
 sizeByte:=by kernel_rfl
 neB5:=by decide
theorem Tryd.bldX_166:Builder.Extra Tryd.prog Tryd.lays166_ren where
 sizeBuilder:=by kernel_rfl
 liesBuilder:=by kernel_rfl
 t5:=Tryd.underlying5
 a5:=Tryd.isAgg5
 z5:=Tryd.sizeOf5
 v5:=Tryd.zeroValue5
 infoByte:=by kernel_rfl
 cellsByte:=by kernel_rfl
 sizeByte:=by kernel_rfl
 neB5:=by decide
theorem Tryd.bldOk103:Pe.BldOk Tryd.prog 103 0 121 5:=Pe.bld_WriteByte Tryd.lays167 Tryd.bldX_167
theorem Tryd.bldOk98:Pe.BldOk Tryd.prog 98 1 121 5:=Pe.bld_WriteString Tryd.lays166 Tryd.bldX_166
theorem Tryd.bldOk99:Pe.BldOk Tryd.prog 99 2 121 5:=Pe.bld_String Tryd.lays169 Tryd.Builder_Extra_169
end Go.Proofs
namespace Pe.Tryd
open Go Go.Proofs
theorem bldOk103:Pe.BldOk Tryd.prog 103 0 121 5:=Go.Proofs.Tryd.bldOk103
theorem bldOk98:Pe.BldOk Tryd.prog 98 1 121 5:=Go.Proofs.Tryd.bldOk98
theorem bldOk99:Pe.BldOk Tryd.prog 99 2 121 5:=Go.Proofs.Tryd.bldOk99
end Pe.Tryd
end
section
/- Splitting at one byte, in Go's library and in plain; over any program. -/
set_option linter.unusedVariables false
namespace Go.Proofs
open Go.Shelf Go.RowKit Go.Lib
variable {P:Program} {ρ:Ren}
set_option maxHeartbeats 1000000 in
set_option maxRecDepth 100000 in
theorem Any.split_one (L:Lays.n146 P ρ) (hi9:(P.info? (ρ.t 9)).map (fun i=>(i.zero,i.size,i.bytes))=some (some (.string ByteArray.empty),1,16)) (s:ByteArray) (c:UInt8) (w:World) (hs:s.size<4294967281) :
  Calls P (ρ.f 146) #[.string s,.string ⟨#[c]⟩] w fun e w' =>
   e= .returned (.slice (some ⟨w.heap.size,0,none⟩) (Lib.countB s ⟨#[c]⟩+1) (Lib.countB s ⟨#[c]⟩+1))∧w'=w.alloc (.cells ((Lib.splitB ⟨#[c]⟩ 0 (Lib.countB s ⟨#[c]⟩) s).map Value.string).toArray (ρ.t 9)):=by
 have h1:1≤(⟨#[c]⟩:ByteArray).size:=Nat.le_refl 1
 have hle:=Lib.countB_le ⟨#[c]⟩ h1 s.size s (Nat.le_refl _)
 have hlen:=Lib.splitB_all ⟨#[c]⟩ h1 0 _ s rfl
 have hcb:∀x:ByteArray,(Lib.countB x ⟨#[c]⟩:Int)=(Lib.countByte x.data.toList c:Nat):=fun x=>by
  show ((Lib.count _ _:Nat):Int)=_
  exact congrArg Int.ofNat (Lib.count_one _ _)
 have hib:∀x:ByteArray,Lib.indexB x ⟨#[c]⟩=Lib.indexByte x.data.toList c:=fun x=>Lib.index_one _ _
 have cc:=Any.strings_genSplit_core { L with } hi9 s ⟨#[c]⟩ 0 (-1) (Lib.countB s ⟨#[c]⟩+1) w hs h1 (Nat.zero_le _)
  (fun x cs _=>by rw [hib];exact Any.strings_Index_one { L with } x c _)
  (by rw [hcb];exact Any.strings_Count_one { L with } s c w) (by decide) (by decide) (by rw [if_pos (by decide)];omega)
 rw [Nat.add_sub_cancel,hlen] at cc
 have e2:Lib.cellsOf (Lib.splitB ⟨#[c]⟩ 0 (Lib.countB s ⟨#[c]⟩) s) (Lib.countB s ⟨#[c]⟩+1)=((Lib.splitB ⟨#[c]⟩ 0 (Lib.countB s ⟨#[c]⟩) s).map Value.string).toArray:=by rw [←hlen];exact Lib.cellsOf_full _
 rw [e2] at cc
 have t3:=L.t3;have t9:=L.t9;have t31:=L.t31
 have a3:=L.a3;have a9:=L.a9;have a31:=L.a31
 have z3:=L.z3;have v3:=L.v3;have z9:=L.z9;have v9:=L.v9;have z31:=L.z31;have v31:=L.v31
 have e221:∀args w,(callFunc (ρ.f 221) args).run P w= .ok (.enter (ρ.f 221) args) w:=enters_of L.f221 (by kernel_rfl) rfl
 go_enter L.f146,Body.n146_ntmps ρ
 go_wp2_with (go_at_fn (ρ.f 221);refine cc.mono ?_;rintro e w' ⟨rfl,hw⟩;rw [hw])
 go_ret
 exact ⟨rfl,rfl⟩
end Go.Proofs
end
