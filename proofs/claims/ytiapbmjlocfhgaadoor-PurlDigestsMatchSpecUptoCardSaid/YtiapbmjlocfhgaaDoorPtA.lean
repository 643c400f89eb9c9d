/- PROVED HERE: a part of the seat's proofs; see the text that holds the claim's theorem. -/
import Derived.Test.YtiapbmjlocfhgaaDoorNm
import Derived.Shelf.Strings.Builder1
import Derived.Shelf.Strings.Builder2
import Derived.Shelf.Strings.OnBuilder
import Derived.Shelf.Small.Strs
import Derived.Shelf.Strconv.Itoa0
import Derived.Shelf.Strconv.Itoa1
import Derived.Shelf.Strconv.Itoa2
import Derived.Shelf.Strings.Search1
import Derived.Shelf.Strings.Search2
import Derived.Shelf.Strings.Search3
import Derived.Shelf.Strings.Count
import Derived.Shelf.Strings.Split
import Derived.Shelf.Bits.Mul64
import Derived.Shelf.Strings.Repeat
import Derived.Test.YtiapbmjlocfhgaaDoorProg
import Derived.Test.YtiapbmjlocfhgaaDoorPeE
section
/- The program's structs as Lean structures: written by petab.py. -/
namespace Gt
structure KindRule where
 kind:(List UInt8)
 space:Int
 small:Bool
 dashes:Bool
 versions:Int
structure A5_ where
 e0:KindRule
 e1:KindRule
 e2:KindRule
 e3:KindRule
 e4:KindRule
structure Digest where
 algo:(List UInt8)
 text:(List UInt8)
structure Pair where
 name:(List UInt8)
 value:(List UInt8)
structure Purl where
 kind:(List UInt8)
 space:(List UInt8)
 name:(List UInt8)
 version:(List UInt8)
 qualifiers:(List Pair)
 sub:(List UInt8)
structure Rd_ where
 s:(List UInt8)
 at_:Int
 bad:Int
end Gt
end
section
namespace Go.Proofs
open Go.Shelf
def Tryd.lays169_ren:Go.Shelf.Ren:=⟨fun|169=>23|n=>n,fun|70=>49|9=>9|0=>0|72=>51|37=>36|127=>83|3=>3|5=>5|n=>n,fun|n=>n⟩
theorem Tryd.lays169:Go.Proofs.Lays.n169 Tryd.prog Tryd.lays169_ren:={
 mixed:=by kernel_rfl
 f169:=Tryd.func23.trans (congrArg some (by kernel_rfl))
 t0:=Tryd.underlying0
 a0:=Tryd.isAgg0
 z0:=Tryd.sizeOf0
 v0:=Tryd.zeroValue0
 t3:=Tryd.underlying3
 a3:=Tryd.isAgg3
 z3:=Tryd.sizeOf3
 v3:=Tryd.zeroValue3
 t9:=Tryd.underlying9
 a9:=Tryd.isAgg9
 z9:=Tryd.sizeOf9
 v9:=Tryd.zeroValue9
 t37:=Tryd.underlying36
 a37:=Tryd.isAgg36
 z37:=Tryd.sizeOf36
 v37:=Tryd.zeroValue36
 t70:=Tryd.underlying49
 a70:=Tryd.isAgg49
 z70:=Tryd.sizeOf49
 v70:=Tryd.zeroValue49
 t72:=Tryd.underlying51
 a72:=Tryd.isAgg51
 z72:=Tryd.sizeOf51
 v72:=Tryd.zeroValue51
 t127:=Tryd.underlying83
 a127:=Tryd.isAgg83
 z127:=Tryd.sizeOf83
 v127:=Tryd.zeroValue83 }
theorem Tryd.Builder_Extra_169:Builder.Extra Tryd.prog Tryd.lays169_ren:={
 sizeBuilder:=by kernel_rfl
 liesBuilder:=by kernel_rfl
 t5:=Tryd.underlying5
 a5:=Tryd.isAgg5
 z5:=Tryd.sizeOf5
 v5:=Tryd.zeroValue5
 infoByte:=by kernel_rfl
 cellsByte:=by kernel_rfl
 sizeByte:=by kernel_rfl
 neB5:=by decide }
def Tryd.lays156_ren:Go.Shelf.Ren:=⟨fun|156=>45|165=>20|166=>21|169=>23|240=>41|241=>42|276=>68|277=>69|n=>n,fun|31=>85|9=>9|3=>3|4=>4|0=>0|20=>20|72=>51|76=>55|70=>49|37=>36|75=>54|127=>83|164=>109|5=>5|80=>58|n=>n,fun|n=>n⟩
theorem Tryd.lays156:Go.Proofs.Lays.n156 Tryd.prog Tryd.lays156_ren:={
 mixed:=by kernel_rfl
 f156:=Tryd.func45.trans (congrArg some (by kernel_rfl))
 f165:=Tryd.func20.trans (congrArg some (by kernel_rfl))
 f166:=Tryd.func21.trans (congrArg some (by kernel_rfl))
 f169:=Tryd.func23.trans (congrArg some (by kernel_rfl))
 f240:=Tryd.func41.trans (congrArg some (by kernel_rfl))
 f241:=Tryd.func42.trans (congrArg some (by kernel_rfl))
 f276:=Tryd.func68.trans (congrArg some (by kernel_rfl))
 f277:=Tryd.func69.trans (congrArg some (by kernel_rfl))
 t0:=Tryd.underlying0
 a0:=Tryd.isAgg0
 z0:=Tryd.sizeOf0
 v0:=Tryd.zeroValue0
 t3:=Tryd.underlying3
 a3:=Tryd.isAgg3
 z3:=Tryd.sizeOf3
 v3:=Tryd.zeroValue3
 t4:=Tryd.underlying4
 a4:=Tryd.isAgg4
 z4:=Tryd.sizeOf4
 v4:=Tryd.zeroValue4
 t9:=Tryd.underlying9
 a9:=Tryd.isAgg9
 z9:=Tryd.sizeOf9
 v9:=Tryd.zeroValue9
 t20:=Tryd.underlying20
 a20:=Tryd.isAgg20
 z20:=Tryd.sizeOf20
 v20:=Tryd.zeroValue20
 t31:=Tryd.underlying85
 a31:=Tryd.isAgg85
 z31:=Tryd.sizeOf85
 v31:=Tryd.zeroValue85
 t37:=Tryd.underlying36
 a37:=Tryd.isAgg36
 z37:=Tryd.sizeOf36
 v37:=Tryd.zeroValue36
 t70:=Tryd.underlying49
 a70:=Tryd.isAgg49
 z70:=Tryd.sizeOf49
 v70:=Tryd.zeroValue49
 t72:=Tryd.underlying51
 a72:=Tryd.isAgg51
 z72:=Tryd.sizeOf51
 v72:=Tryd.zeroValue51
 t75:=Tryd.underlying54
 a75:=Tryd.isAgg54
 z75:=Tryd.sizeOf54
 v75:=Tryd.zeroValue54
 t76:=Tryd.underlying55
 a76:=Tryd.isAgg55
 z76:=Tryd.sizeOf55
 v76:=Tryd.zeroValue55
 t127:=Tryd.underlying83
 a127:=Tryd.isAgg83
 z127:=Tryd.sizeOf83
 v127:=Tryd.zeroValue83
 t164:=Tryd.underlying109
 a164:=Tryd.isAgg109
 z164:=Tryd.sizeOf109
 v164:=Tryd.zeroValue109 }
theorem Tryd.Builder_Extra_156:Builder.Extra Tryd.prog Tryd.lays156_ren:={
 sizeBuilder:=by kernel_rfl
 liesBuilder:=by kernel_rfl
 t5:=Tryd.underlying5
 a5:=Tryd.isAgg5
 z5:=Tryd.sizeOf5
 v5:=Tryd.zeroValue5
 infoByte:=by kernel_rfl
 cellsByte:=by kernel_rfl
 sizeByte:=by kernel_rfl
 neB5:=by decide }
open Go.RowKit in
theorem Tryd.strings_Join_none(a:Option Addr)(c:Nat)(sep:ByteArray)(w:World) :
  Calls Tryd.prog 45 #[.slice a 0 c,.string sep] w λe w'=>e= .returned (.string ⟨#[]⟩)/\w'=w:=Any.strings_Join_none Tryd.lays156 Tryd.Builder_Extra_156 a c sep w
open Go.RowKit in
theorem Tryd.strings_Join(bk o c:Nat)(xs:List ByteArray)(sep:ByteArray)(w:World)(hcells:∀(j:Nat) x,xs[j]?=some x->w.cell? ⟨bk,o+j,none⟩=some (.string x))(hbk:bk<w.heap.size)(hN:xs.length<=140737488355328)(hcap:xs.length<=c)(hlen:(Lib.join (xs.map (·.data.toList)) sep.data.toList).length<=140737488355328) :
  Calls Tryd.prog 45 #[.slice (some ⟨bk,o,none⟩) xs.length c,.string sep] w λe w'=>e= .returned (.string ⟨(Lib.join (xs.map (·.data.toList)) sep.data.toList).toArray⟩)/\Below w.heap.size w w':=Any.strings_Join Tryd.lays156 Tryd.Builder_Extra_156 bk o c xs sep w hcells hbk hN hcap hlen
def Tryd.lays137_ren:Go.Shelf.Ren:=⟨fun|137=>56|217=>77|266=>84|n=>n,fun|9=>9|5=>5|3=>3|n=>n,fun|n=>n⟩
theorem Tryd.lays137:Go.Proofs.Lays.n137 Tryd.prog Tryd.lays137_ren:={
 mixed:=by kernel_rfl
 f137:=Tryd.func56.trans (congrArg some (by kernel_rfl))
 f217:=Tryd.func77.trans (congrArg some (by kernel_rfl))
 f266:=Tryd.func84.trans (congrArg some (by kernel_rfl))
 t3:=Tryd.underlying3
 a3:=Tryd.isAgg3
 z3:=Tryd.sizeOf3
 v3:=Tryd.zeroValue3
 t5:=Tryd.underlying5
 a5:=Tryd.isAgg5
 z5:=Tryd.sizeOf5
 v5:=Tryd.zeroValue5
 t9:=Tryd.underlying9
 a9:=Tryd.isAgg9
 z9:=Tryd.sizeOf9
 v9:=Tryd.zeroValue9 }
open Go.RowKit in
theorem Tryd.strings_IndexByte(s:ByteArray)(c:Int)(w:World) :
  Calls Tryd.prog 56 #[.string s,.int .u8 c] w λe w'=>e= .returned (.int .i64 (Lib.indexByte s.data.toList c.toNat.toUInt8))/\w'=w:=Any.strings_IndexByte Tryd.lays137 s c w
def Tryd.lays146_ren:Go.Shelf.Ren:=⟨fun|146=>76|221=>83|268=>86|138=>87|143=>88|195=>89|197=>90|218=>91|219=>92|260=>93|217=>77|225=>94|224=>95|267=>96|266=>84|314=>97|n=>n,fun|9=>9|31=>85|3=>3|4=>4|0=>0|105=>126|21=>21|5=>5|46=>45|119=>128|139=>131|138=>130|146=>79|51=>78|n=>n,fun|1=>1|3=>4|4=>5|n=>n⟩
theorem Tryd.lays146:Go.Proofs.Lays.n146 Tryd.prog Tryd.lays146_ren:={
 mixed:=by kernel_rfl
 f138:=Tryd.func87.trans (congrArg some (by kernel_rfl))
 f143:=Tryd.func88.trans (congrArg some (by kernel_rfl))
 f146:=Tryd.func76.trans (congrArg some (by kernel_rfl))
 f195:=Tryd.func89.trans (congrArg some (by kernel_rfl))
 f197:=Tryd.func90.trans (congrArg some (by kernel_rfl))
 f217:=Tryd.func77.trans (congrArg some (by kernel_rfl))
 f218:=Tryd.func91.trans (congrArg some (by kernel_rfl))
 f219:=Tryd.func92.trans (congrArg some (by kernel_rfl))
 f221:=Tryd.func83.trans (congrArg some (by kernel_rfl))
 f224:=Tryd.func95.trans (congrArg some (by kernel_rfl))
 f225:=Tryd.func94.trans (congrArg some (by kernel_rfl))
 f260:=Tryd.func93.trans (congrArg some (by kernel_rfl))
 f266:=Tryd.func84.trans (congrArg some (by kernel_rfl))
 f267:=Tryd.func96.trans (congrArg some (by kernel_rfl))
 f268:=Tryd.func86.trans (congrArg some (by kernel_rfl))
 f314:=Tryd.func97.trans (congrArg some (by kernel_rfl))
 t0:=Tryd.underlying0
 a0:=Tryd.isAgg0
 z0:=Tryd.sizeOf0
 v0:=Tryd.zeroValue0
 t3:=Tryd.underlying3
 a3:=Tryd.isAgg3
 z3:=Tryd.sizeOf3
 v3:=Tryd.zeroValue3
 t4:=Tryd.underlying4
 a4:=Tryd.isAgg4
 z4:=Tryd.sizeOf4
 v4:=Tryd.zeroValue4
 t5:=Tryd.underlying5
 a5:=Tryd.isAgg5
 z5:=Tryd.sizeOf5
 v5:=Tryd.zeroValue5
 t9:=Tryd.underlying9
 a9:=Tryd.isAgg9
 z9:=Tryd.sizeOf9
 v9:=Tryd.zeroValue9
 t21:=Tryd.underlying21
 a21:=Tryd.isAgg21
 z21:=Tryd.sizeOf21
 v21:=Tryd.zeroValue21
 t31:=Tryd.underlying85
 a31:=Tryd.isAgg85
 z31:=Tryd.sizeOf85
 v31:=Tryd.zeroValue85
 t46:=Tryd.underlying45
 a46:=Tryd.isAgg45
 z46:=Tryd.sizeOf45
 v46:=Tryd.zeroValue45
 t51:=Tryd.underlying78
 a51:=Tryd.isAgg78
 z51:=Tryd.sizeOf78
 v51:=Tryd.zeroValue78
 t105:=Tryd.underlying126
 a105:=Tryd.isAgg126
 z105:=Tryd.sizeOf126
 v105:=Tryd.zeroValue126
 t119:=Tryd.underlying128
 a119:=Tryd.isAgg128
 z119:=Tryd.sizeOf128
 t138:=Tryd.underlying130
 a138:=Tryd.isAgg130
 z138:=Tryd.sizeOf130
 v138:=Tryd.zeroValue130
 t139:=Tryd.underlying131
 a139:=Tryd.isAgg131
 z139:=Tryd.sizeOf131
 v139:=Tryd.zeroValue131
 t146:=Tryd.underlying79
 a146:=Tryd.isAgg79
 z146:=Tryd.sizeOf79
 v146:=Tryd.zeroValue79
 g1:=by kernel_rfl
 g3:=by kernel_rfl
 g4:=by kernel_rfl }
def Tryd.lays105_ren:Go.Shelf.Ren:=⟨fun|105=>12|212=>18|99=>19|165=>20|166=>21|170=>22|169=>23|263=>38|264=>39|206=>40|240=>41|241=>42|276=>68|277=>69|n=>n,fun|9=>9|3=>3|4=>4|20=>20|0=>0|46=>45|109=>46|5=>5|72=>51|76=>55|51=>78|146=>79|53=>33|148=>81|70=>49|37=>36|75=>54|127=>83|164=>109|80=>58|n=>n,fun|n=>n⟩
theorem Tryd.lays105:Go.Proofs.Lays.n105 Tryd.prog Tryd.lays105_ren:={
 mixed:=by kernel_rfl
 f99:=Tryd.func19.trans (congrArg some (by kernel_rfl))
 f105:=Tryd.func12.trans (congrArg some (by kernel_rfl))
 f165:=Tryd.func20.trans (congrArg some (by kernel_rfl))
 f166:=Tryd.func21.trans (congrArg some (by kernel_rfl))
 f169:=Tryd.func23.trans (congrArg some (by kernel_rfl))
 f170:=Tryd.func22.trans (congrArg some (by kernel_rfl))
 f206:=Tryd.func40.trans (congrArg some (by kernel_rfl))
 f212:=Tryd.func18.trans (congrArg some (by kernel_rfl))
 f240:=Tryd.func41.trans (congrArg some (by kernel_rfl))
 f241:=Tryd.func42.trans (congrArg some (by kernel_rfl))
 f263:=Tryd.func38.trans (congrArg some (by kernel_rfl))
 f264:=Tryd.func39.trans (congrArg some (by kernel_rfl))
 f276:=Tryd.func68.trans (congrArg some (by kernel_rfl))
 f277:=Tryd.func69.trans (congrArg some (by kernel_rfl))
 t0:=Tryd.underlying0
 a0:=Tryd.isAgg0
 z0:=Tryd.sizeOf0
 v0:=Tryd.zeroValue0
 t3:=Tryd.underlying3
 a3:=Tryd.isAgg3
 z3:=Tryd.sizeOf3
 v3:=Tryd.zeroValue3
 t4:=Tryd.underlying4
 a4:=Tryd.isAgg4
 z4:=Tryd.sizeOf4
 v4:=Tryd.zeroValue4
 t5:=Tryd.underlying5
 a5:=Tryd.isAgg5
 z5:=Tryd.sizeOf5
 v5:=Tryd.zeroValue5
 t9:=Tryd.underlying9
 a9:=Tryd.isAgg9
 z9:=Tryd.sizeOf9
 v9:=Tryd.zeroValue9
 t20:=Tryd.underlying20
 a20:=Tryd.isAgg20
 z20:=Tryd.sizeOf20
 v20:=Tryd.zeroValue20
 t37:=Tryd.underlying36
 a37:=Tryd.isAgg36
 z37:=Tryd.sizeOf36
 v37:=Tryd.zeroValue36
 t46:=Tryd.underlying45
 a46:=Tryd.isAgg45
 z46:=Tryd.sizeOf45
 v46:=Tryd.zeroValue45
 t51:=Tryd.underlying78
 a51:=Tryd.isAgg78
 z51:=Tryd.sizeOf78
 v51:=Tryd.zeroValue78
 t53:=Tryd.underlying33
 a53:=Tryd.isAgg33
 z53:=Tryd.sizeOf33
 v53:=Tryd.zeroValue33
 t70:=Tryd.underlying49
 a70:=Tryd.isAgg49
 z70:=Tryd.sizeOf49
 v70:=Tryd.zeroValue49
 t72:=Tryd.underlying51
 a72:=Tryd.isAgg51
 z72:=Tryd.sizeOf51
 v72:=Tryd.zeroValue51
 t75:=Tryd.underlying54
 a75:=Tryd.isAgg54
 z75:=Tryd.sizeOf54
 v75:=Tryd.zeroValue54
 t76:=Tryd.underlying55
 a76:=Tryd.isAgg55
 z76:=Tryd.sizeOf55
 v76:=Tryd.zeroValue55
 t109:=Tryd.underlying46
 a109:=Tryd.isAgg46
 z109:=Tryd.sizeOf46
 v109:=Tryd.zeroValue46
 t127:=Tryd.underlying83
 a127:=Tryd.isAgg83
 z127:=Tryd.sizeOf83
 v127:=Tryd.zeroValue83
 t146:=Tryd.underlying79
 a146:=Tryd.isAgg79
 z146:=Tryd.sizeOf79
 v146:=Tryd.zeroValue79
 t148:=Tryd.underlying81
 a148:=Tryd.isAgg81
 z148:=Tryd.sizeOf81
 v148:=Tryd.zeroValue81
 t164:=Tryd.underlying109
 a164:=Tryd.isAgg109
 z164:=Tryd.sizeOf109
 v164:=Tryd.zeroValue109 }
theorem Tryd.Builder_Extra_105:Builder.Extra Tryd.prog Tryd.lays105_ren:={
 sizeBuilder:=by kernel_rfl
 liesBuilder:=by kernel_rfl
 t5:=Tryd.underlying5
 a5:=Tryd.isAgg5
 z5:=Tryd.sizeOf5
 v5:=Tryd.zeroValue5
 infoByte:=by kernel_rfl
 cellsByte:=by kernel_rfl
 sizeByte:=by kernel_rfl
 neB5:=by decide }
open Go.RowKit Go.Lib in
theorem Tryd.strings_Repeat(s:ByteArray)(c:Nat)(w:World)(hc:c<=9223372036854775807)(hlen:s.size*c<=140737488355328) :
  Calls Tryd.prog 12 #[.string s,.int .i64 c] w λe w'=>e= .returned (.string ⟨(Lib.repeatL s.data.toList c).toArray⟩)/\Below w.heap.size w w':=Any.strings_Repeat Tryd.lays105 Tryd.Builder_Extra_105 s c w hc hlen
def Tryd.lays167_ren:Go.Shelf.Ren:=⟨fun|156=>45|165=>20|166=>21|169=>23|240=>41|241=>42|276=>68|277=>69|167=>62|n=>n,fun|31=>85|9=>9|3=>3|4=>4|0=>0|20=>20|72=>51|76=>55|70=>49|37=>36|75=>54|127=>83|164=>109|5=>5|80=>58|n=>n,fun|n=>n⟩
theorem Tryd.lays167:Go.Proofs.Lays.n167 Tryd.prog Tryd.lays167_ren:={
 mixed:=by kernel_rfl
 f167:=Tryd.func62.trans (congrArg some (by kernel_rfl))
 f240:=Tryd.func41.trans (congrArg some (by kernel_rfl))
 f276:=Tryd.func68.trans (congrArg some (by kernel_rfl))
 t0:=Tryd.underlying0
 a0:=Tryd.isAgg0
 z0:=Tryd.sizeOf0
 v0:=Tryd.zeroValue0
 t4:=Tryd.underlying4
 a4:=Tryd.isAgg4
 z4:=Tryd.sizeOf4
 v4:=Tryd.zeroValue4
 t5:=Tryd.underlying5
 a5:=Tryd.isAgg5
 z5:=Tryd.sizeOf5
 v5:=Tryd.zeroValue5
 t9:=Tryd.underlying9
 a9:=Tryd.isAgg9
 z9:=Tryd.sizeOf9
 v9:=Tryd.zeroValue9
 t20:=Tryd.underlying20
 a20:=Tryd.isAgg20
 z20:=Tryd.sizeOf20
 v20:=Tryd.zeroValue20
 t37:=Tryd.underlying36
 a37:=Tryd.isAgg36
 z37:=Tryd.sizeOf36
 v37:=Tryd.zeroValue36
 t70:=Tryd.underlying49
 a70:=Tryd.isAgg49
 z70:=Tryd.sizeOf49
 v70:=Tryd.zeroValue49
 t72:=Tryd.underlying51
 a72:=Tryd.isAgg51
 z72:=Tryd.sizeOf51
 v72:=Tryd.zeroValue51
 t75:=Tryd.underlying54
 a75:=Tryd.isAgg54
 z75:=Tryd.sizeOf54
 v75:=Tryd.zeroValue54
 t164:=Tryd.underlying109
 a164:=Tryd.isAgg109
 z164:=Tryd.sizeOf109
 v164:=Tryd.zeroValue109
}
def Tryd.lays166_ren:Go.Shelf.Ren:=⟨fun|156=>45|165=>20|166=>21|169=>23|240=>41|241=>42|276=>68|277=>69|n=>n,fun|31=>85|9=>9|3=>3|4=>4|0=>0|20=>20|72=>51|76=>55|70=>49|37=>36|75=>54|127=>83|164=>109|5=>5|80=>58|n=>n,fun|n=>n⟩
theorem Tryd.lays166:Go.Proofs.Lays.n166 Tryd.prog Tryd.lays166_ren:={
 mixed:=by kernel_rfl
 f166:=Tryd.func21.trans (congrArg some (by kernel_rfl))
 f240:=Tryd.func41.trans (congrArg some (by kernel_rfl))
 f276:=Tryd.func68.trans (congrArg some (by kernel_rfl))
 t0:=Tryd.underlying0
 a0:=Tryd.isAgg0
 z0:=Tryd.sizeOf0
 v0:=Tryd.zeroValue0
 t3:=Tryd.underlying3
 a3:=Tryd.isAgg3
 z3:=Tryd.sizeOf3
 v3:=Tryd.zeroValue3
 t4:=Tryd.underlying4
 a4:=Tryd.isAgg4
 z4:=Tryd.sizeOf4
 v4:=Tryd.zeroValue4
 t9:=Tryd.underlying9
 a9:=Tryd.isAgg9
 z9:=Tryd.sizeOf9
 v9:=Tryd.zeroValue9
 t20:=Tryd.underlying20
 a20:=Tryd.isAgg20
 z20:=Tryd.sizeOf20
 v20:=Tryd.zeroValue20
 t37:=Tryd.underlying36
 a37:=Tryd.isAgg36
 z37:=Tryd.sizeOf36
 v37:=Tryd.zeroValue36
 t70:=Tryd.underlying49
 a70:=Tryd.isAgg49
 z70:=Tryd.sizeOf49
 v70:=Tryd.zeroValue49
 t72:=Tryd.underlying51
 a72:=Tryd.isAgg51
 z72:=Tryd.sizeOf51
 v72:=Tryd.zeroValue51
 t75:=Tryd.underlying54
 a75:=Tryd.isAgg54
 z75:=Tryd.sizeOf54
 v75:=Tryd.zeroValue54
 t164:=Tryd.underlying109
 a164:=Tryd.isAgg109
 z164:=Tryd.sizeOf109
 v164:=Tryd.zeroValue109
}
theorem Tryd.bldX_167:Builder.Extra Tryd.prog Tryd.lays167_ren where
 sizeBuilder:=by kernel_rfl
 liesBuilder:=by kernel_rfl
 t5:=Tryd.underlying5
 a5:=Tryd.isAgg5
 z5:=Tryd.sizeOf5
 v5:=Tryd.zeroValue5
 infoByte:=by kernel_rfl
 cellsByte:=by kernel_rfl
 sizeByte:=by kernel_rfl
 neB5:=by decide
theorem Tryd.bldX_166:Builder.Extra Tryd.prog Tryd.lays166_ren where
 sizeBuilder:=by kernel_rfl
 liesBuilder:=by kernel_rfl
 t5:=Tryd.underlying5
 a5:=Tryd.isAgg5
 z5:=Tryd.sizeOf5
 v5:=Tryd.zeroValue5
 infoByte:=by kernel_rfl
 cellsByte:=by kernel_rfl
 sizeByte:=by kernel_rfl
 neB5:=by decide
theorem Tryd.bldOk62:Pe.BldOk Tryd.prog 62 0 51 5:=Pe.bld_WriteByte Tryd.lays167 Tryd.bldX_167
theorem Tryd.bldOk21:Pe.BldOk Tryd.prog 21 1 51 5:=Pe.bld_WriteString Tryd.lays166 Tryd.bldX_166
theorem Tryd.bldOk23:Pe.BldOk Tryd.prog 23 2 51 5:=Pe.bld_String Tryd.lays169 Tryd.Builder_Extra_169
end Go.Proofs
namespace Pe.Tryd
open Go Go.Proofs
theorem bldOk62:Pe.BldOk Tryd.prog 62 0 51 5:=Go.Proofs.Tryd.bldOk62
theorem bldOk21:Pe.BldOk Tryd.prog 21 1 51 5:=Go.Proofs.Tryd.bldOk21
theorem bldOk23:Pe.BldOk Tryd.prog 23 2 51 5:=Go.Proofs.Tryd.bldOk23
end Pe.Tryd
end
section
/- Splitting at one byte, in Go's library and in plain; over any program. -/
set_option linter.unusedVariables false
namespace Go.Proofs
open Go.Shelf Go.RowKit Go.Lib
variable{P:Program}{ρ:Ren}
set_option maxHeartbeats 1000000 in
set_option maxRecDepth 100000 in
theorem Any.split_one(L:Lays.n146 P ρ)(hi9:(P.info? (ρ.t 9)).map (λi=>(i.zero,i.size,i.bytes))=some (some (.string ByteArray.empty),1,16))(s:ByteArray)(c:UInt8)(w:World)(hs:s.size<4294967281) :
  Calls P (ρ.f 146) #[.string s,.string ⟨#[c]⟩] w λe w' =>
   e= .returned (.slice (some ⟨w.heap.size,0,none⟩) (Lib.countB s ⟨#[c]⟩+1) (Lib.countB s ⟨#[c]⟩+1))/\w'=w.alloc (.cells ((Lib.splitB ⟨#[c]⟩ 0 (Lib.countB s ⟨#[c]⟩) s).map Value.string).toArray (ρ.t 9)):=by
 have h1:1<=(⟨#[c]⟩:ByteArray).size:=yAj 1;have hle:=Lib.countB_le ⟨#[c]⟩ h1 s.size s (yAj _);have hlen:=Lib.splitB_all ⟨#[c]⟩ h1 0 _ s rfl;have hcb:∀x:ByteArray,(Lib.countB x ⟨#[c]⟩:Int)=(Lib.countByte x.data.toList c:Nat):=λx=>by show ((Lib.count _ _:Nat):Int)=_;exact congrArg Int.ofNat (Lib.count_one _ _)
 have hib:∀x:ByteArray,Lib.indexB x ⟨#[c]⟩=Lib.indexByte x.data.toList c:=λx=>Lib.index_one _ _
 have cc:=Any.strings_genSplit_core { L with } hi9 s ⟨#[c]⟩ 0 (-1) (Lib.countB s ⟨#[c]⟩+1) w hs h1 (yAD _)
  (λx cs _=>by rw[hib];exact Any.strings_Index_one { L with } x c _)
  (by rw[hcb];exact Any.strings_Count_one { L with } s c w) (by decide) (by decide) (by rw[if_pos (by decide)];omega)
 rw[yCo,hlen] at cc;have e2:Lib.cellsOf (Lib.splitB ⟨#[c]⟩ 0 (Lib.countB s ⟨#[c]⟩) s) (Lib.countB s ⟨#[c]⟩+1)=((Lib.splitB ⟨#[c]⟩ 0 (Lib.countB s ⟨#[c]⟩) s).map Value.string).toArray:=by rw[<-hlen];exact Lib.cellsOf_full _
 rw[e2] at cc;have t3:=L.t3;have t9:=L.t9;have t31:=L.t31;have a3:=L.a3;have a9:=L.a9;have a31:=L.a31;have z3:=L.z3;have v3:=L.v3;have z9:=L.z9;have v9:=L.v9;have z31:=L.z31;have v31:=L.v31;have e221:∀args w,(callFunc (ρ.f 221) args).run P w= .ok (.enter (ρ.f 221) args) w:=enters_of L.f221 (by kernel_rfl) rfl
 go_enter L.f146,Body.n146_ntmps ρ
 go_wp2_with (go_at_fn (ρ.f 221);refine cc.mono ?_;rintro e w' ⟨rfl,hw⟩;rw[hw])
 go_ret
 exact ⟨rfl,rfl⟩
end Go.Proofs
end
