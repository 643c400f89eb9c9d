/- PROVED HERE: a part of the seat's proofs; see the text that holds the claim's theorem. -/
import Derived.Test.YtbkjohfobibmlaaDoorNm
import Derived.Shelf.Strings.Builder1
import Derived.Shelf.Strings.Builder2
import Derived.Shelf.Strings.OnBuilder
import Derived.Shelf.Small.Strs
import Derived.Shelf.Strings.Search1
import Derived.Shelf.Strings.Search2
import Derived.Shelf.Strings.Search3
import Derived.Shelf.Strings.Count
import Derived.Shelf.Strings.Split
import Derived.Test.YtbkjohfobibmlaaDoorProg
import Derived.Test.YtbkjohfobibmlaaDoorPeE
section
/- The program's structs as Lean structures: written by petab.py. -/
namespace Gt
structure KindRule where
 kind:(List UInt8)
 space:Int
 small:Bool
 dashes:Bool
 versions:Int
structure A5_ where
 e0:KindRule
 e1:KindRule
 e2:KindRule
 e3:KindRule
 e4:KindRule
structure Pair where
 name:(List UInt8)
 value:(List UInt8)
structure Purl where
 kind:(List UInt8)
 space:(List UInt8)
 name:(List UInt8)
 version:(List UInt8)
 qualifiers:(List Pair)
 sub:(List UInt8)
structure Nd_ where
 kind:Int
 b:Int
structure Pt_ where
 kind:(List UInt8)
 nodes:(List Nd_)
 deep:Int
structure Rd_ where
 s:(List UInt8)
 at_:Int
 bad:Int
structure Sp_ where
 n:Int
 in_:Bool
end Gt
end
section
namespace Go.Proofs
open Go.Shelf
def Tryd.lays169_ren:Go.Shelf.Ren:=⟨fun|169=>53|n=>n,fun|70=>89|9=>9|0=>0|72=>91|37=>88|127=>111|3=>3|5=>5|n=>n,fun|n=>n⟩
theorem Tryd.lays169:Go.Proofs.Lays.n169 Tryd.prog Tryd.lays169_ren:={
 mixed:=by kernel_rfl
 f169:=Tryd.func53.trans (congrArg some (by kernel_rfl))
 t0:=Tryd.underlying0
 a0:=Tryd.isAgg0
 z0:=Tryd.sizeOf0
 v0:=Tryd.zeroValue0
 t3:=Tryd.underlying3
 a3:=Tryd.isAgg3
 z3:=Tryd.sizeOf3
 v3:=Tryd.zeroValue3
 t9:=Tryd.underlying9
 a9:=Tryd.isAgg9
 z9:=Tryd.sizeOf9
 v9:=Tryd.zeroValue9
 t37:=Tryd.underlying88
 a37:=Tryd.isAgg88
 z37:=Tryd.sizeOf88
 v37:=Tryd.zeroValue88
 t70:=Tryd.underlying89
 a70:=Tryd.isAgg89
 z70:=Tryd.sizeOf89
 v70:=Tryd.zeroValue89
 t72:=Tryd.underlying91
 a72:=Tryd.isAgg91
 z72:=Tryd.sizeOf91
 v72:=Tryd.zeroValue91
 t127:=Tryd.underlying111
 a127:=Tryd.isAgg111
 z127:=Tryd.sizeOf111
 v127:=Tryd.zeroValue111 }
theorem Tryd.Builder_Extra_169:Builder.Extra Tryd.prog Tryd.lays169_ren:={
 sizeBuilder:=by kernel_rfl
 liesBuilder:=by kernel_rfl
 t5:=Tryd.underlying5
 a5:=Tryd.isAgg5
 z5:=Tryd.sizeOf5
 v5:=Tryd.zeroValue5
 infoByte:=by kernel_rfl
 cellsByte:=by kernel_rfl
 sizeByte:=by kernel_rfl
 neB5:=by decide }
def Tryd.lays156_ren:Go.Shelf.Ren:=⟨fun|156=>58|165=>76|166=>66|169=>53|240=>72|241=>85|276=>83|277=>92|n=>n,fun|31=>63|9=>9|3=>3|4=>4|0=>0|20=>20|72=>91|76=>104|70=>89|37=>88|75=>94|127=>111|164=>119|5=>5|80=>96|n=>n,fun|n=>n⟩
theorem Tryd.lays156:Go.Proofs.Lays.n156 Tryd.prog Tryd.lays156_ren:={
 mixed:=by kernel_rfl
 f156:=Tryd.func58.trans (congrArg some (by kernel_rfl))
 f165:=Tryd.func76.trans (congrArg some (by kernel_rfl))
 f166:=Tryd.func66.trans (congrArg some (by kernel_rfl))
 f169:=Tryd.func53.trans (congrArg some (by kernel_rfl))
 f240:=Tryd.func72.trans (congrArg some (by kernel_rfl))
 f241:=Tryd.func85.trans (congrArg some (by kernel_rfl))
 f276:=Tryd.func83.trans (congrArg some (by kernel_rfl))
 f277:=Tryd.func92.trans (congrArg some (by kernel_rfl))
 t0:=Tryd.underlying0
 a0:=Tryd.isAgg0
 z0:=Tryd.sizeOf0
 v0:=Tryd.zeroValue0
 t3:=Tryd.underlying3
 a3:=Tryd.isAgg3
 z3:=Tryd.sizeOf3
 v3:=Tryd.zeroValue3
 t4:=Tryd.underlying4
 a4:=Tryd.isAgg4
 z4:=Tryd.sizeOf4
 v4:=Tryd.zeroValue4
 t9:=Tryd.underlying9
 a9:=Tryd.isAgg9
 z9:=Tryd.sizeOf9
 v9:=Tryd.zeroValue9
 t20:=Tryd.underlying20
 a20:=Tryd.isAgg20
 z20:=Tryd.sizeOf20
 v20:=Tryd.zeroValue20
 t31:=Tryd.underlying63
 a31:=Tryd.isAgg63
 z31:=Tryd.sizeOf63
 v31:=Tryd.zeroValue63
 t37:=Tryd.underlying88
 a37:=Tryd.isAgg88
 z37:=Tryd.sizeOf88
 v37:=Tryd.zeroValue88
 t70:=Tryd.underlying89
 a70:=Tryd.isAgg89
 z70:=Tryd.sizeOf89
 v70:=Tryd.zeroValue89
 t72:=Tryd.underlying91
 a72:=Tryd.isAgg91
 z72:=Tryd.sizeOf91
 v72:=Tryd.zeroValue91
 t75:=Tryd.underlying94
 a75:=Tryd.isAgg94
 z75:=Tryd.sizeOf94
 v75:=Tryd.zeroValue94
 t76:=Tryd.underlying104
 a76:=Tryd.isAgg104
 z76:=Tryd.sizeOf104
 v76:=Tryd.zeroValue104
 t127:=Tryd.underlying111
 a127:=Tryd.isAgg111
 z127:=Tryd.sizeOf111
 v127:=Tryd.zeroValue111
 t164:=Tryd.underlying119
 a164:=Tryd.isAgg119
 z164:=Tryd.sizeOf119
 v164:=Tryd.zeroValue119 }
theorem Tryd.Builder_Extra_156:Builder.Extra Tryd.prog Tryd.lays156_ren:={
 sizeBuilder:=by kernel_rfl
 liesBuilder:=by kernel_rfl
 t5:=Tryd.underlying5
 a5:=Tryd.isAgg5
 z5:=Tryd.sizeOf5
 v5:=Tryd.zeroValue5
 infoByte:=by kernel_rfl
 cellsByte:=by kernel_rfl
 sizeByte:=by kernel_rfl
 neB5:=by decide }
open Go.RowKit in
theorem Tryd.strings_Join_none(a:Option Addr)(c:Nat)(sep:ByteArray)(w:World) :
  Calls Tryd.prog 58 #[.slice a 0 c,.string sep] w λe w'=>e= .returned (.string ⟨#[]⟩)/\w'=w:=Any.strings_Join_none Tryd.lays156 Tryd.Builder_Extra_156 a c sep w
open Go.RowKit in
theorem Tryd.strings_Join(bk o c:Nat)(xs:List ByteArray)(sep:ByteArray)(w:World)(hcells:∀(j:Nat) x,xs[j]?=some x->w.cell? ⟨bk,o+j,none⟩=some (.string x))(hbk:bk<w.heap.size)(hN:xs.length<=140737488355328)(hcap:xs.length<=c)(hlen:(Lib.join (xs.map (·.data.toList)) sep.data.toList).length<=140737488355328) :
  Calls Tryd.prog 58 #[.slice (some ⟨bk,o,none⟩) xs.length c,.string sep] w λe w'=>e= .returned (.string ⟨(Lib.join (xs.map (·.data.toList)) sep.data.toList).toArray⟩)/\Below w.heap.size w w':=Any.strings_Join Tryd.lays156 Tryd.Builder_Extra_156 bk o c xs sep w hcells hbk hN hcap hlen
def Tryd.lays137_ren:Go.Shelf.Ren:=⟨fun|137=>27|217=>49|266=>70|n=>n,fun|9=>9|5=>5|3=>3|n=>n,fun|n=>n⟩
theorem Tryd.lays137:Go.Proofs.Lays.n137 Tryd.prog Tryd.lays137_ren:={
 mixed:=by kernel_rfl
 f137:=Tryd.func27.trans (congrArg some (by kernel_rfl))
 f217:=Tryd.func49.trans (congrArg some (by kernel_rfl))
 f266:=Tryd.func70.trans (congrArg some (by kernel_rfl))
 t3:=Tryd.underlying3
 a3:=Tryd.isAgg3
 z3:=Tryd.sizeOf3
 v3:=Tryd.zeroValue3
 t5:=Tryd.underlying5
 a5:=Tryd.isAgg5
 z5:=Tryd.sizeOf5
 v5:=Tryd.zeroValue5
 t9:=Tryd.underlying9
 a9:=Tryd.isAgg9
 z9:=Tryd.sizeOf9
 v9:=Tryd.zeroValue9 }
open Go.RowKit in
theorem Tryd.strings_IndexByte(s:ByteArray)(c:Int)(w:World) :
  Calls Tryd.prog 27 #[.string s,.int .u8 c] w λe w'=>e= .returned (.int .i64 (Lib.indexByte s.data.toList c.toNat.toUInt8))/\w'=w:=Any.strings_IndexByte Tryd.lays137 s c w
def Tryd.lays144_ren:Go.Shelf.Ren:=⟨fun|144=>13|143=>35|219=>55|217=>49|225=>73|224=>74|267=>75|266=>70|314=>84|n=>n,fun|9=>9|4=>4|3=>3|5=>5|46=>113|146=>122|51=>121|n=>n,fun|1=>0|n=>n⟩
theorem Tryd.lays144:Go.Proofs.Lays.n144 Tryd.prog Tryd.lays144_ren:={
 mixed:=by kernel_rfl
 f143:=Tryd.func35.trans (congrArg some (by kernel_rfl))
 f144:=Tryd.func13.trans (congrArg some (by kernel_rfl))
 f217:=Tryd.func49.trans (congrArg some (by kernel_rfl))
 f219:=Tryd.func55.trans (congrArg some (by kernel_rfl))
 f224:=Tryd.func74.trans (congrArg some (by kernel_rfl))
 f225:=Tryd.func73.trans (congrArg some (by kernel_rfl))
 f266:=Tryd.func70.trans (congrArg some (by kernel_rfl))
 f267:=Tryd.func75.trans (congrArg some (by kernel_rfl))
 f314:=Tryd.func84.trans (congrArg some (by kernel_rfl))
 t3:=Tryd.underlying3
 a3:=Tryd.isAgg3
 z3:=Tryd.sizeOf3
 v3:=Tryd.zeroValue3
 t4:=Tryd.underlying4
 a4:=Tryd.isAgg4
 z4:=Tryd.sizeOf4
 v4:=Tryd.zeroValue4
 t5:=Tryd.underlying5
 a5:=Tryd.isAgg5
 z5:=Tryd.sizeOf5
 v5:=Tryd.zeroValue5
 t9:=Tryd.underlying9
 a9:=Tryd.isAgg9
 z9:=Tryd.sizeOf9
 v9:=Tryd.zeroValue9
 t46:=Tryd.underlying113
 a46:=Tryd.isAgg113
 z46:=Tryd.sizeOf113
 v46:=Tryd.zeroValue113
 t51:=Tryd.underlying121
 a51:=Tryd.isAgg121
 z51:=Tryd.sizeOf121
 v51:=Tryd.zeroValue121
 t146:=Tryd.underlying122
 a146:=Tryd.isAgg122
 z146:=Tryd.sizeOf122
 v146:=Tryd.zeroValue122
 g1:=by kernel_rfl }
open Go.RowKit Go.Lib in
theorem Tryd.strings_Contains_one(s:ByteArray)(c:UInt8)(w:World) :
  Calls Tryd.prog 13 #[.string s,.string ⟨#[c]⟩] w λe w'=>e= .returned (.bool (decide (0<=Lib.indexByte s.data.toList c)))/\w'=w:=Any.strings_Contains_one Tryd.lays144 s c w
def Tryd.lays146_ren:Go.Shelf.Ren:=⟨fun|146=>48|221=>69|268=>81|138=>82|143=>35|195=>89|197=>90|218=>91|219=>55|260=>94|217=>49|225=>73|224=>74|267=>75|266=>70|314=>84|n=>n,fun|9=>9|31=>63|3=>3|4=>4|0=>0|105=>125|21=>21|5=>5|46=>113|119=>128|139=>131|138=>130|146=>122|51=>121|n=>n,fun|1=>0|3=>1|4=>2|n=>n⟩
theorem Tryd.lays146:Go.Proofs.Lays.n146 Tryd.prog Tryd.lays146_ren:={
 mixed:=by kernel_rfl
 f138:=Tryd.func82.trans (congrArg some (by kernel_rfl))
 f143:=Tryd.func35.trans (congrArg some (by kernel_rfl))
 f146:=Tryd.func48.trans (congrArg some (by kernel_rfl))
 f195:=Tryd.func89.trans (congrArg some (by kernel_rfl))
 f197:=Tryd.func90.trans (congrArg some (by kernel_rfl))
 f217:=Tryd.func49.trans (congrArg some (by kernel_rfl))
 f218:=Tryd.func91.trans (congrArg some (by kernel_rfl))
 f219:=Tryd.func55.trans (congrArg some (by kernel_rfl))
 f221:=Tryd.func69.trans (congrArg some (by kernel_rfl))
 f224:=Tryd.func74.trans (congrArg some (by kernel_rfl))
 f225:=Tryd.func73.trans (congrArg some (by kernel_rfl))
 f260:=Tryd.func94.trans (congrArg some (by kernel_rfl))
 f266:=Tryd.func70.trans (congrArg some (by kernel_rfl))
 f267:=Tryd.func75.trans (congrArg some (by kernel_rfl))
 f268:=Tryd.func81.trans (congrArg some (by kernel_rfl))
 f314:=Tryd.func84.trans (congrArg some (by kernel_rfl))
 t0:=Tryd.underlying0
 a0:=Tryd.isAgg0
 z0:=Tryd.sizeOf0
 v0:=Tryd.zeroValue0
 t3:=Tryd.underlying3
 a3:=Tryd.isAgg3
 z3:=Tryd.sizeOf3
 v3:=Tryd.zeroValue3
 t4:=Tryd.underlying4
 a4:=Tryd.isAgg4
 z4:=Tryd.sizeOf4
 v4:=Tryd.zeroValue4
 t5:=Tryd.underlying5
 a5:=Tryd.isAgg5
 z5:=Tryd.sizeOf5
 v5:=Tryd.zeroValue5
 t9:=Tryd.underlying9
 a9:=Tryd.isAgg9
 z9:=Tryd.sizeOf9
 v9:=Tryd.zeroValue9
 t21:=Tryd.underlying21
 a21:=Tryd.isAgg21
 z21:=Tryd.sizeOf21
 v21:=Tryd.zeroValue21
 t31:=Tryd.underlying63
 a31:=Tryd.isAgg63
 z31:=Tryd.sizeOf63
 v31:=Tryd.zeroValue63
 t46:=Tryd.underlying113
 a46:=Tryd.isAgg113
 z46:=Tryd.sizeOf113
 v46:=Tryd.zeroValue113
 t51:=Tryd.underlying121
 a51:=Tryd.isAgg121
 z51:=Tryd.sizeOf121
 v51:=Tryd.zeroValue121
 t105:=Tryd.underlying125
 a105:=Tryd.isAgg125
 z105:=Tryd.sizeOf125
 v105:=Tryd.zeroValue125
 t119:=Tryd.underlying128
 a119:=Tryd.isAgg128
 z119:=Tryd.sizeOf128
 t138:=Tryd.underlying130
 a138:=Tryd.isAgg130
 z138:=Tryd.sizeOf130
 v138:=Tryd.zeroValue130
 t139:=Tryd.underlying131
 a139:=Tryd.isAgg131
 z139:=Tryd.sizeOf131
 v139:=Tryd.zeroValue131
 t146:=Tryd.underlying122
 a146:=Tryd.isAgg122
 z146:=Tryd.sizeOf122
 v146:=Tryd.zeroValue122
 g1:=by kernel_rfl
 g3:=by kernel_rfl
 g4:=by kernel_rfl }
def Tryd.lays167_ren:Go.Shelf.Ren:=⟨fun|156=>58|165=>76|166=>66|169=>53|240=>72|241=>85|276=>83|277=>92|167=>52|n=>n,fun|31=>63|9=>9|3=>3|4=>4|0=>0|20=>20|72=>91|76=>104|70=>89|37=>88|75=>94|127=>111|164=>119|5=>5|80=>96|n=>n,fun|n=>n⟩
theorem Tryd.lays167:Go.Proofs.Lays.n167 Tryd.prog Tryd.lays167_ren:={
 mixed:=by kernel_rfl
 f167:=Tryd.func52.trans (congrArg some (by kernel_rfl))
 f240:=Tryd.func72.trans (congrArg some (by kernel_rfl))
 f276:=Tryd.func83.trans (congrArg some (by kernel_rfl))
 t0:=Tryd.underlying0
 a0:=Tryd.isAgg0
 z0:=Tryd.sizeOf0
 v0:=Tryd.zeroValue0
 t4:=Tryd.underlying4
 a4:=Tryd.isAgg4
 z4:=Tryd.sizeOf4
 v4:=Tryd.zeroValue4
 t5:=Tryd.underlying5
 a5:=Tryd.isAgg5
 z5:=Tryd.sizeOf5
 v5:=Tryd.zeroValue5
 t9:=Tryd.underlying9
 a9:=Tryd.isAgg9
 z9:=Tryd.sizeOf9
 v9:=Tryd.zeroValue9
 t20:=Tryd.underlying20
 a20:=Tryd.isAgg20
 z20:=Tryd.sizeOf20
 v20:=Tryd.zeroValue20
 t37:=Tryd.underlying88
 a37:=Tryd.isAgg88
 z37:=Tryd.sizeOf88
 v37:=Tryd.zeroValue88
 t70:=Tryd.underlying89
 a70:=Tryd.isAgg89
 z70:=Tryd.sizeOf89
 v70:=Tryd.zeroValue89
 t72:=Tryd.underlying91
 a72:=Tryd.isAgg91
 z72:=Tryd.sizeOf91
 v72:=Tryd.zeroValue91
 t75:=Tryd.underlying94
 a75:=Tryd.isAgg94
 z75:=Tryd.sizeOf94
 v75:=Tryd.zeroValue94
 t164:=Tryd.underlying119
 a164:=Tryd.isAgg119
 z164:=Tryd.sizeOf119
 v164:=Tryd.zeroValue119
}
def Tryd.lays166_ren:Go.Shelf.Ren:=⟨fun|156=>58|165=>76|166=>66|169=>53|240=>72|241=>85|276=>83|277=>92|n=>n,fun|31=>63|9=>9|3=>3|4=>4|0=>0|20=>20|72=>91|76=>104|70=>89|37=>88|75=>94|127=>111|164=>119|5=>5|80=>96|n=>n,fun|n=>n⟩
theorem Tryd.lays166:Go.Proofs.Lays.n166 Tryd.prog Tryd.lays166_ren:={
 mixed:=by kernel_rfl
 f166:=Tryd.func66.trans (congrArg some (by kernel_rfl))
 f240:=Tryd.func72.trans (congrArg some (by kernel_rfl))
 f276:=Tryd.func83.trans (congrArg some (by kernel_rfl))
 t0:=Tryd.underlying0
 a0:=Tryd.isAgg0
 z0:=Tryd.sizeOf0
 v0:=Tryd.zeroValue0
 t3:=Tryd.underlying3
 a3:=Tryd.isAgg3
 z3:=Tryd.sizeOf3
 v3:=Tryd.zeroValue3
 t4:=Tryd.underlying4
 a4:=Tryd.isAgg4
 z4:=Tryd.sizeOf4
 v4:=Tryd.zeroValue4
 t9:=Tryd.underlying9
 a9:=Tryd.isAgg9
 z9:=Tryd.sizeOf9
 v9:=Tryd.zeroValue9
 t20:=Tryd.underlying20
 a20:=Tryd.isAgg20
 z20:=Tryd.sizeOf20
 v20:=Tryd.zeroValue20
 t37:=Tryd.underlying88
 a37:=Tryd.isAgg88
 z37:=Tryd.sizeOf88
 v37:=Tryd.zeroValue88
 t70:=Tryd.underlying89
 a70:=Tryd.isAgg89
 z70:=Tryd.sizeOf89
 v70:=Tryd.zeroValue89
 t72:=Tryd.underlying91
 a72:=Tryd.isAgg91
 z72:=Tryd.sizeOf91
 v72:=Tryd.zeroValue91
 t75:=Tryd.underlying94
 a75:=Tryd.isAgg94
 z75:=Tryd.sizeOf94
 v75:=Tryd.zeroValue94
 t164:=Tryd.underlying119
 a164:=Tryd.isAgg119
 z164:=Tryd.sizeOf119
 v164:=Tryd.zeroValue119
}
theorem Tryd.bldX_167:Builder.Extra Tryd.prog Tryd.lays167_ren where
 sizeBuilder:=by kernel_rfl
 liesBuilder:=by kernel_rfl
 t5:=Tryd.underlying5
 a5:=Tryd.isAgg5
 z5:=Tryd.sizeOf5
 v5:=Tryd.zeroValue5
 infoByte:=by kernel_rfl
 cellsByte:=by kernel_rfl
 sizeByte:=by kernel_rfl
 neB5:=by decide
theorem Tryd.bldX_166:Builder.Extra Tryd.prog Tryd.lays166_ren where
 sizeBuilder:=by kernel_rfl
 liesBuilder:=by kernel_rfl
 t5:=Tryd.underlying5
 a5:=Tryd.isAgg5
 z5:=Tryd.sizeOf5
 v5:=Tryd.zeroValue5
 infoByte:=by kernel_rfl
 cellsByte:=by kernel_rfl
 sizeByte:=by kernel_rfl
 neB5:=by decide
theorem Tryd.bldOk52:Pe.BldOk Tryd.prog 52 0 91 5:=Pe.bld_WriteByte Tryd.lays167 Tryd.bldX_167
theorem Tryd.bldOk66:Pe.BldOk Tryd.prog 66 1 91 5:=Pe.bld_WriteString Tryd.lays166 Tryd.bldX_166
theorem Tryd.bldOk53:Pe.BldOk Tryd.prog 53 2 91 5:=Pe.bld_String Tryd.lays169 Tryd.Builder_Extra_169
end Go.Proofs
namespace Pe.Tryd
open Go Go.Proofs
theorem bldOk52:Pe.BldOk Tryd.prog 52 0 91 5:=Go.Proofs.Tryd.bldOk52
theorem bldOk66:Pe.BldOk Tryd.prog 66 1 91 5:=Go.Proofs.Tryd.bldOk66
theorem bldOk53:Pe.BldOk Tryd.prog 53 2 91 5:=Go.Proofs.Tryd.bldOk53
end Pe.Tryd
end
section
/- Splitting at one byte, in Go's library and in plain; over any program. -/
set_option linter.unusedVariables false
namespace Go.Proofs
open Go.Shelf Go.RowKit Go.Lib
variable{P:Program}{ρ:Ren}
set_option maxHeartbeats 1000000 in
set_option maxRecDepth 100000 in
theorem Any.split_one(L:Lays.n146 P ρ)(hi9:(P.info? (ρ.t 9)).map (λi=>(i.zero,i.size,i.bytes))=some (some (.string ByteArray.empty),1,16))(s:ByteArray)(c:UInt8)(w:World)(hs:s.size<4294967281) :
  Calls P (ρ.f 146) #[.string s,.string ⟨#[c]⟩] w λe w' =>
   e= .returned (.slice (some ⟨w.heap.size,0,none⟩) (Lib.countB s ⟨#[c]⟩+1) (Lib.countB s ⟨#[c]⟩+1))/\w'=w.alloc (.cells ((Lib.splitB ⟨#[c]⟩ 0 (Lib.countB s ⟨#[c]⟩) s).map Value.string).toArray (ρ.t 9)):=by
 have h1:1<=(⟨#[c]⟩:ByteArray).size:=yAj 1;have hle:=Lib.countB_le ⟨#[c]⟩ h1 s.size s (yAj _);have hlen:=Lib.splitB_all ⟨#[c]⟩ h1 0 _ s rfl;have hcb:∀x:ByteArray,(Lib.countB x ⟨#[c]⟩:Int)=(Lib.countByte x.data.toList c:Nat):=λx=>by show ((Lib.count _ _:Nat):Int)=_;exact congrArg Int.ofNat (Lib.count_one _ _)
 have hib:∀x:ByteArray,Lib.indexB x ⟨#[c]⟩=Lib.indexByte x.data.toList c:=λx=>Lib.index_one _ _
 have cc:=Any.strings_genSplit_core { L with } hi9 s ⟨#[c]⟩ 0 (-1) (Lib.countB s ⟨#[c]⟩+1) w hs h1 (yAE _)
  (λx cs _=>by rw[hib];exact Any.strings_Index_one { L with } x c _)
  (by rw[hcb];exact Any.strings_Count_one { L with } s c w) (by decide) (by decide) (by rw[if_pos (by decide)];omega)
 rw[Nat.add_sub_cancel,hlen] at cc;have e2:Lib.cellsOf (Lib.splitB ⟨#[c]⟩ 0 (Lib.countB s ⟨#[c]⟩) s) (Lib.countB s ⟨#[c]⟩+1)=((Lib.splitB ⟨#[c]⟩ 0 (Lib.countB s ⟨#[c]⟩) s).map Value.string).toArray:=by rw[<-hlen];exact Lib.cellsOf_full _
 rw[e2] at cc;have t3:=L.t3;have t9:=L.t9;have t31:=L.t31;have a3:=L.a3;have a9:=L.a9;have a31:=L.a31;have z3:=L.z3;have v3:=L.v3;have z9:=L.z9;have v9:=L.v9;have z31:=L.z31;have v31:=L.v31;have e221:∀args w,(callFunc (ρ.f 221) args).run P w= .ok (.enter (ρ.f 221) args) w:=enters_of L.f221 (by kernel_rfl) rfl
 go_enter L.f146,Body.n146_ntmps ρ
 go_wp2_with (go_at_fn (ρ.f 221);refine cc.mono ?_;rintro e w' ⟨rfl,hw⟩;rw[hw])
 go_ret
 exact ⟨rfl,rfl⟩
end Go.Proofs
end
